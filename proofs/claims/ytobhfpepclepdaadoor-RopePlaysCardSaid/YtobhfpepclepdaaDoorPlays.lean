/- RopePlays: the law's walk. -/
import Derived.Test.YtobhfpepclepdaaDoorHold
import Derived.LoopTactic
namespace Go.Proofs.YtobhfpepclepdaaDoor
open Go.RowKit Go.Proofs.YtobhfpepclepdaaDoorW.PrintWords Go.Proofs.YtobhfpepclepdaaDoorW.PrintLast Go.Proofs.YtobhfpepclepdaaDoorW.PrintMore
open Go.Proofs.YtobhfpepclepdaaDoor.PRope
open Go.Lib (decodeL validD)
set_option linter.unusedVariables false
theorem info24 : (Tryd.prog.info? 24).map (fun i => (i.zero, i.size, i.bytes)) = some (some (.pointer none), 1, 8) := by kernel_rfl
theorem info9 : (Tryd.prog.info? 9).map (fun i => (i.zero, i.size, i.bytes)) = some (some (.string ⟨#[]⟩), 1, 16) := by kernel_rfl
/-- What RopePlays holds in memory between two rounds. -/
structure Hold (w W : World) (p : Value) (x : ByteArray) (v9 v10 : Value) (ps : List Value) (xs : List ByteArray) : Prop where
  below : Below w.heap.size w W
  rope : RopeAt W p x
  own9 : W.ownsRow w.heap.size 24 1 v9 ps.length ps
  own10 : W.ownsRow w.heap.size 9 1 v10 ps.length (xs.map .string)
  len : ps.length = xs.length
  pos : 0 < ps.length
  all : ∀ (i : Nat) p x, ps[i]? = some p → xs[i]? = some x → RopeAt W p x
theorem Hold.move {w W W' : World} {p : Value} {x : ByteArray} {v9 v10 : Value} {ps : List Value} {xs : List ByteArray} (h : Hold w W p x v9 v10 ps xs) (hb : Below W.heap.size W W') : Hold w W' p x v9 v10 ps xs :=
  ⟨below_step h.below hb, h.rope.below hb, ownsRow_below h.own9 hb, ownsRow_below h.own10 hb, h.len, h.pos, fun i p x h1 h2 => (h.all i p x h1 h2).below hb⟩
theorem own_slice {W : World} {base e : Nat} {size : Nat} {v : Value} {n : Nat} {xs : List Value} (h : W.ownsRow base e size v n xs) (hn : 0 < xs.length) : ∃ g cap cur, v = .slice (some ⟨g, 0, none⟩) n cap ∧ base ≤ g ∧ W.heap[g]? = some (.cells cur e (0, 0)) := by
  rcases h.2 with ⟨_, h2⟩ | ⟨g, cap, cur, hv, hg, hc, hrest⟩
  · have := h.1; rw [h2] at this; omega
  · exact ⟨g, cap, cur, hv, hg, hc⟩
/-- Between the two appends. -/
structure Hold9 (w W : World) (p : Value) (x : ByteArray) (v9 v10 : Value) (ps : List Value) (xs : List ByteArray) : Prop where
  below : Below w.heap.size w W
  rope : RopeAt W p x
  own9 : W.ownsRow w.heap.size 24 1 v9 (ps.length + 1) (ps ++ [p])
  own10 : W.ownsRow w.heap.size 9 1 v10 ps.length (xs.map .string)
  len : ps.length = xs.length
  pos : 0 < ps.length
  all : ∀ (i : Nat) p x, ps[i]? = some p → xs[i]? = some x → RopeAt W p x
theorem Hold.push {w W W2 : World} {p p' : Value} {x z : ByteArray} {g9 c9 : Nat} {v9' v10 : Value} {ps : List Value} {xs : List ByteArray} (h : Hold w W p x (.slice (some ⟨g9, 0, none⟩) ps.length c9) v10 ps xs) (hz : RopeAt W p' z) (o : Obj)
    (hown : W2.ownsRow w.heap.size 24 1 v9' (ps.length + 1) (ps ++ [p'])) (hg : (W.alloc o).grownBy W2 (some g9)) : Hold9 w W2 p' z v9' v10 ps xs := by
  obtain ⟨g, cap, cur, hv, hb, hh⟩ := own_slice (h.own9.alloc o) h.pos
  injection hv with e1 e2 e3
  injection e1 with e1
  injection e1 with e1
  subst e1
  have hA : Below W.heap.size W (W.alloc o) := (Below.refl _ _).alloc (Nat.le_refl _) o
  exact ⟨pw_below_grown (below_step h.below hA) (some g9) (by have := h.below.size; simp; omega) hg (fun k e => by injection e with e; rw [← e]; exact hb), (hz.below hA).grown hg hh (by decide), hown, ownsRow_other (h.own10.alloc o) hg hh (by decide), h.len, h.pos, fun i q y h1 h2 => ((h.all i q y h1 h2).below hA).grown hg hh (by decide)⟩
theorem Hold9.push {w W W2 : World} {p : Value} {z : ByteArray} {g10 c10 : Nat} {v9 v10' : Value} {ps : List Value} {xs : List ByteArray} (h : Hold9 w W p z v9 (.slice (some ⟨g10, 0, none⟩) ps.length c10) ps xs) (o : Obj)
    (hown : W2.ownsRow w.heap.size 9 1 v10' (ps.length + 1) (xs.map .string ++ [.string z])) (hg : (W.alloc o).grownBy W2 (some g10)) : Hold w W2 p z v9 v10' (ps ++ [p]) (xs ++ [z]) := by
  obtain ⟨g, cap, cur, hv, hb, hh⟩ := own_slice (h.own10.alloc o) (by rw [List.length_map, ← h.len]; exact h.pos)
  injection hv with e1 e2 e3
  injection e1 with e1
  injection e1 with e1
  subst e1
  have hA : Below W.heap.size W (W.alloc o) := (Below.refl _ _).alloc (Nat.le_refl _) o
  have hR := (h.rope.below hA).grown hg hh (by decide)
  refine ⟨pw_below_grown (below_step h.below hA) (some g10) (by have := h.below.size; simp; omega) hg (fun k e => by injection e with e; rw [← e]; exact hb), hR, ?_, ?_, by simp [h.len], by simp, ?_⟩
  · rw [List.length_append, List.length_singleton]
    exact ownsRow_other (h.own9.alloc o) hg hh (by decide)
  · rw [List.length_append, List.length_singleton, List.map_append]
    exact hown
  · intro i q y h1 h2
    by_cases hi : i < ps.length
    · rw [List.getElem?_append_left hi] at h1
      rw [List.getElem?_append_left (by rw [← h.len]; exact hi)] at h2
      exact ((h.all i q y h1 h2).below hA).grown hg hh (by decide)
    · rw [List.getElem?_append_right (by omega)] at h1
      rw [List.getElem?_append_right (by rw [← h.len]; omega)] at h2
      have hi2 := (List.getElem?_eq_some_iff.1 h1).1
      simp at hi2
      have hi3 : i - ps.length = 0 := by omega
      rw [hi3] at h1
      rw [← h.len, hi3] at h2
      simp at h1 h2
      subst h1 h2
      exact hR
set_option maxHeartbeats 4000000 in
set_option maxRecDepth 100000 in
theorem plays_great (s : ByteArray) (A : Option Addr) (c : Nat) (l : List S34) (w : World) (hr : Kd.C k34 w A l.length l) (hc : l.length ≤ c) (CG : Aside0 (Calls Tryd.prog 11 #[.string s, .slice A l.length c] w fun e w' => e = .returned (.bool true) ∧ Drawn0 w w')) :
    Calls Tryd.prog 3 #[.string s, .slice A l.length c] w fun e w' => e = .returned (.bool true) ∧ Below w.heap.size w w' := by
  go_enter Tryd.func3, Tryd.ntmps3
  go_wp2_with (go_at_call 11; (with_reducible refine CG.out.mono ?_); rintro e w1 ⟨rfl, hb1⟩; have BL := Aside0.mk hb1.below; clear hb1)
  go_ret
  exact ⟨rfl, BL.out⟩
set_option maxHeartbeats 4000000 in
set_option maxRecDepth 100000 in
theorem plays_bad (s : ByteArray) (A : Option Addr) (c : Nat) (l : List S34) (w : World) (CG : Aside0 (Calls Tryd.prog 11 #[.string s, .slice A l.length c] w fun e w' => e = .returned (.bool false) ∧ Drawn0 w w')) (n : Int) (h0 : n ≠ 0) (r : ByteArray)
    (CN : Aside0 (∀ w1, Below w.heap.size w w1 → Calls Tryd.prog 12 #[.string s] w1 (NoRope w1 n))) (CR : Aside0 (∀ w1, Calls Tryd.prog 13 #[.string s] w1 fun e w' => e = .returned (.tuple #[.string r, .int .i64 n]) ∧ Below w1.heap.size w1 w')) :
    Calls Tryd.prog 3 #[.string s, .slice A l.length c] w fun e w' => e = .returned (.bool true) ∧ Below w.heap.size w w' := by
  have h1 : (n == 0) = false := beq_eq_false_iff_ne.2 h0
  have h2 : (n != 0) = true := bne_iff_ne.2 h0
  clear h0
  go_enter Tryd.func3, Tryd.ntmps3
  go_wp2_with (first
    | (go_at_call 11; (with_reducible refine CG.out.mono ?_); rintro e w1 ⟨rfl, hb1⟩; have BL := Aside0.mk hb1.below; clear hb1)
    | (go_at_call 12; (with_reducible refine (CN.out _ BL.out).mono ?_); rintro e w1 ⟨rfl, hb1⟩; have BL' := Aside0.mk (below_step BL.out hb1); clear BL hb1; have BL := BL'; clear BL')
    | (go_at_call 13; (with_reducible refine (CR.out _).mono ?_); rintro e w1 ⟨rfl, hb1⟩; have BL' := Aside0.mk (below_step BL.out hb1); clear BL hb1; have BL := BL'; clear BL'))
  go_ret
  exact ⟨rfl, BL.out⟩
set_option maxHeartbeats 8000000 in
set_option maxRecDepth 100000 in
theorem plays_good (s : ByteArray) (A : Option Addr) (c : Nat) (l : List S34) (w : World) (ht : Tb w) (hr : Kd.C k34 w A l.length l) (hc : l.length ≤ c) (hl : l.length ≤ 60) (hb : ∀ x ∈ l, x.f2.size ≤ 70000) (CG : Aside0 (Calls Tryd.prog 11 #[.string s, .slice A l.length c] w fun e w' => e = .returned (.bool false) ∧ Drawn0 w w'))
    (hs : s.size ≤ 16384) (hv : validD s.data.toList = true) :
    Calls Tryd.prog 3 #[.string s, .slice A l.length c] w fun e w' => e = .returned (.bool true) ∧ Below w.heap.size w w' := by
  have HT := Aside0.mk ht
  have HR := Aside0.mk hr
  have HBD := Aside0.mk hb
  have CN : Aside0 (∀ w1, Below w.heap.size w w1 → Calls Tryd.prog 12 #[.string s] w1 fun e w' => ∃ b, e = .returned (.tuple #[.pointer (some ⟨b, 0, none⟩), .int .i64 0]) ∧ RopeAt w' (.pointer (some ⟨b, 0, none⟩)) s ∧ Below w1.heap.size w1 w') := ⟨fun w1 hb => new_ok s w1 (ht.below hb) hs hv⟩
  have CR : Aside0 (∀ w1, Calls Tryd.prog 13 #[.string s] w1 fun e w' => e = .returned (.tuple #[.string s, .int .i64 0]) ∧ Below w1.heap.size w1 w') := ⟨fun w1 => glossatorref09_New.calls _ s _ _ w1 (by rw [rnew s (by omega) _ (Nat.le_refl _), if_neg (by omega), if_pos hv])⟩
  obtain ⟨i24, hi24, ha0, ha1, ha2⟩ := info_parts info24
  obtain ⟨i9, hi9, hb0, hb1, hb2⟩ := info_parts info9
  clear ht hr hb hs hv
  go_enter Tryd.func3, Tryd.ntmps3
  go_wp2_with (first
    | (go_at_call 11; (with_reducible refine CG.out.mono ?_); rintro e w1 ⟨rfl, hb1⟩; have BL := Aside0.mk hb1.below; clear hb1)
    | (go_at_call 12; (with_reducible refine (CN.out _ BL.out).mono ?_); rintro e w1 ⟨b0, rfl, hR, hb1⟩; have BL' := Aside0.mk (below_step BL.out hb1); have RP := Aside0.mk hR; clear BL hb1 hR; have BL := BL'; clear BL')
    | (go_at_call 13; (with_reducible refine (CR.out _).mono ?_); rintro e w2 ⟨rfl, hb1⟩; have BL' := Aside0.mk (below_step BL.out hb1); have RP' := Aside0.mk (RP.out.below hb1); clear BL hb1 RP; have BL := BL'; clear BL'))
  have HOLD0 : Aside0 (Hold w ((w2.alloc (.cells #[.pointer (some ⟨b0, 0, none⟩)] 24 (0, 0))).alloc (.cells #[.string s] 9 (0, 0))) (.pointer (some ⟨b0, 0, none⟩)) s (.slice (some ⟨w2.heap.size, 0, none⟩) 1 1) (.slice (some ⟨w2.heap.size + 1, 0, none⟩) 1 1) [.pointer (some ⟨b0, 0, none⟩)] [s]) := ⟨by
    have bb : Below w2.heap.size w2 ((w2.alloc (.cells #[.pointer (some ⟨b0, 0, none⟩)] 24 (0, 0))).alloc (.cells #[.string s] 9 (0, 0))) := ((Below.refl _ _).alloc (Nat.le_refl _) _).alloc (by simp) _
    have ba := below_step BL.out bb
    refine ⟨ba, RP'.out.below bb, ?_, ?_, rfl, Nat.one_pos, ?_⟩
    · exact (World.ownsRow_lit w2 #[.pointer (some ⟨b0, 0, none⟩)] 1 BL.out.size (by decide) rfl).alloc _
    · have := World.ownsRow_lit (base := w.heap.size) (e := 9) (size := 1) (w2.alloc (.cells #[.pointer (some ⟨b0, 0, none⟩)] 24 (0, 0))) #[.string s] 1 (by have := BL.out.size; simp; omega) (by decide) rfl
      simpa using this
    · intro i p x h1 h2
      cases i with
      | zero => simp at h1 h2; subst h1 h2; exact RP'.out.below bb
      | succ i => simp at h1⟩
  clear RP'
  go_loopw [5, 7, 9, 10, 11] (fun p t v9 v10 i W => ∃ (x : ByteArray) (b : Nat) (ps : List Value) (xs : List ByteArray) (j : Int), p = .pointer (some ⟨b, 0, none⟩) ∧ t = .string x ∧ i = .int .i64 j ∧ 0 ≤ j ∧ j ≤ l.length ∧ (ps.length : Int) ≤ j + 1 ∧ Aside0 (Hold w W (.pointer (some ⟨b, 0, none⟩)) x v9 v10 ps xs)) (fun _ _ _ _ i _ => l.length - (intOf i).toNat)
  case atStart => exact ⟨s, b0, _, _, 0, rfl, rfl, rfl, by omega, by omega, by simp, HOLD0⟩
  case round =>
    clear HOLD0
    obtain ⟨x, b, ps, xs, j, rfl, rfl, rfl, h0, h1, h2, HO⟩ := hrel
    obtain ⟨g9, c9, cur9, hv9, hg9, hh9⟩ := own_slice HO.out.own9 HO.out.pos
    obtain ⟨g10, c10, cur10, hv10, hg10, hh10⟩ := own_slice HO.out.own10 (by rw [List.length_map, ← HO.out.len]; exact HO.out.pos)
    subst hv9 hv10
    by_cases hlt : j < l.length
    · obtain ⟨ad, e101, hx0, hx1, hx2⟩ := at_T34 (Kd.C_below HR.out HO.out.below) j h0 hlt
      cases e101
      have hsz : (rd_T34 l j).f2.size ≤ 70000 := by
        unfold rd_T34
        rw [List.getD, List.getElem?_eq_getElem (by omega)]
        exact HBD.out _ (List.getElem_mem _)
      generalize (rd_T34 l j).f0 = f at hx0
      generalize (rd_T34 l j).f1 = t at hx1
      generalize (rd_T34 l j).f2 = y at hx2 hsz
      have X0 := Aside0.mk hx0
      have X1 := Aside0.mk hx1
      have X2 := Aside0.mk hx2
      clear hh9 hh10 hg9 hg10
      have C15 : Aside0 (∀ w1, Calls Tryd.prog 15 #[.string x, .int .i64 f, .int .i64 t, .string y] w1 fun e w' => e = .returned (.tuple #[.string (spl x f t y).1, .int .i64 (spl x f t y).2]) ∧ Below w1.heap.size w1 w') := ⟨fun w1 => glossatorref09_Splice.calls _ x f t y _ _ w1 (rsplice x f t y (by have := HO.out.rope.size; omega) (by omega) _ (Nat.le_refl _))⟩
      have hd0 : wr.drew.cell? (ad.add (j.toNat * 3)) = some (.int .i64 f) := hx0
      have hd1 : wr.drew.cell? ⟨(ad.add (j.toNat * 3)).block, (ad.add (j.toNat * 3)).off + 1, none⟩ = some (.int .i64 t) := hx1
      have hd2 : wr.drew.cell? ⟨(ad.add (j.toNat * 3)).block, (ad.add (j.toNat * 3)).off + 2, none⟩ = some (.string y) := hx2
      have BR : Below wr.heap.size wr wr.drew := below_drew1 (Below.refl _ _)
      by_cases hz : (spl x f t y).2 = 0
      · have C14 : Aside0 (∀ w1, Below wr.heap.size wr w1 → Calls Tryd.prog 14 #[.pointer (some ⟨b, 0, none⟩), .int .i64 f, .int .i64 t, .string y] w1 fun e w' => ∃ b, e = .returned (.tuple #[.pointer (some ⟨b, 0, none⟩), .int .i64 0]) ∧ RopeAt w' (.pointer (some ⟨b, 0, none⟩)) (spl x f t y).1 ∧ Below w1.heap.size w1 w') := ⟨fun w1 hb => splice_ok (HT.out.below (below_step HO.out.below hb)) (HO.out.rope.below hb) f t y (by omega) hz⟩
        rw [hz] at C15
        generalize (spl x f t y).1 = z at C14 C15
        clear hz hsz
        go_wp2
        go_region_held3 (fun w3 => Below wr.heap.size wr w3 ∧ w3.cell? (ad.add (j.toNat * 3)) = some (.int .i64 f) ∧ w3.cell? ⟨(ad.add (j.toNat * 3)).block, (ad.add (j.toNat * 3)).off + 1, none⟩ = some (.int .i64 t) ∧ w3.cell? ⟨(ad.add (j.toNat * 3)).block, (ad.add (j.toNat * 3)).off + 2, none⟩ = some (.string y)) (first | (refine ⟨?_, ?_, ?_, ?_⟩ <;> assumption) | assumption) (first
          | (go_at_call 14; (with_reducible refine (C14.out _ (by assumption)).mono ?_); rintro e w3 ⟨b', rfl, hR, hb1⟩; have hbx := below_step (by assumption) hb1; have f0 := pw_cell_below hbx X0.out; have f1 := pw_cell_below hbx X1.out; have f2 := pw_cell_below hbx X2.out))
        have HO3 := Aside0.mk (HO.out.move hbx)
        have RZ := Aside0.mk hR
        have BX := Aside0.mk hbx
        have BR3 : Below wr.heap.size wr w3.drew := below_drew1 hbx
        have k0 : w3.drew.cell? (ad.add (j.toNat * 3)) = some (.int .i64 f) := f0
        have k1 : w3.drew.cell? ⟨(ad.add (j.toNat * 3)).block, (ad.add (j.toNat * 3)).off + 1, none⟩ = some (.int .i64 t) := f1
        have k2 : w3.drew.cell? ⟨(ad.add (j.toNat * 3)).block, (ad.add (j.toNat * 3)).off + 2, none⟩ = some (.string y) := f2
        clear hbx hb1 hR
        go_wp2
        go_region_held3 (fun w3 => Below wr.heap.size wr w3 ∧ w3.cell? (ad.add (j.toNat * 3)) = some (.int .i64 f) ∧ w3.cell? ⟨(ad.add (j.toNat * 3)).block, (ad.add (j.toNat * 3)).off + 1, none⟩ = some (.int .i64 t) ∧ w3.cell? ⟨(ad.add (j.toNat * 3)).block, (ad.add (j.toNat * 3)).off + 2, none⟩ = some (.string y)) (first | (refine ⟨?_, ?_, ?_, ?_⟩ <;> assumption) | assumption) (first
          | (go_at_call 15; (with_reducible refine (C15.out _).mono ?_); rintro e w4 ⟨rfl, hb1⟩; have hbx := below_step (by assumption) hb1; have f0 := pw_cell_below hbx X0.out; have f1 := pw_cell_below hbx X1.out; have f2 := pw_cell_below hbx X2.out; have hbz := hb1))
        have hq : Below w3.heap.size w3 w4 := ((Below.refl w3.heap.size w3).drew).trans hbz
        have HO4 := Aside0.mk (HO3.out.move hq)
        have RZ4 := Aside0.mk (RZ.out.below hq)
        have hl2 : ps.length ≤ 61 := by omega
        clear hbx hbz hb1 hq HO3 RZ HO C14 C15 CG CN CR f0 f1 f2 k0 k1 k2 hd0 hd1 hd2 hx0 hx1 hx2 BR BR3 X0 X1 X2
        go_wp2_with (at_builtin; refine wpList_append_own _ rfl (.tmp 106) (.tmp 108) 30 rfl w.heap.size 24 i24 (.pointer none) 1 8 Tryd.underlying30 hi24 ha0 ha1 ha2 rfl (by decide) _ _ _ rfl (HO4.out.own9.alloc _) ⟨w4.heap.size, 0, none⟩ 1 1 [.pointer (some ⟨b', 0, none⟩)] rfl rfl ?c1 ?c2 ?c3 ?c4 ?c5 ?_)
        case c1 =>
          intro i u hi
          match i, hi with
          | 0, hi => simp at hi; subst hi; simp [Addr.add]
          | i + 1, hi => simp at hi
        case c2 => intro u hu; simp at hu; subst hu; rfl
        case c3 => unfold maxLen; omega
        case c4 => omega
        case c5 => have := HO4.out.below.size; simp; omega
        intro v9' w5 hown9 hgrow9 _
        have H9 := Aside0.mk (HO4.out.push RZ4.out _ hown9 hgrow9)
        clear HO4 RZ4 hown9 hgrow9
        go_wp2_with (at_builtin; refine wpList_append_own _ rfl (.tmp 110) (.tmp 112) 31 rfl w.heap.size 9 i9 (.string ⟨#[]⟩) 1 16 Tryd.underlying31 hi9 hb0 hb1 hb2 rfl (by decide) _ _ _ rfl (H9.out.own10.alloc _) ⟨w5.heap.size, 0, none⟩ 1 1 [.string z] rfl rfl ?d1 ?d2 ?d3 ?d4 ?d5 ?_)
        case d1 =>
          intro i u hi
          match i, hi with
          | 0, hi => simp at hi; subst hi; simp [Addr.add]
          | i + 1, hi => simp at hi
        case d2 => intro u hu; simp at hu; subst hu; rfl
        case d3 => unfold maxLen; omega
        case d4 => omega
        case d5 => have := H9.out.below.size; simp; omega
        intro v10' w6 hown10 hgrow10 _
        have H10 := Aside0.mk (H9.out.push _ hown10 hgrow10)
        clear H9 hown10 hgrow10
        go_wp2
        go_roundw
        case rel => exact ⟨z, b', _, _, j + 1, rfl, rfl, by go_num, by omega, by omega, by rw [List.length_append, List.length_singleton]; omega, H10⟩
        case measure => simp [intOf]; omega
      · have C14 : Aside0 (∀ w1, Below wr.heap.size wr w1 → Calls Tryd.prog 14 #[.pointer (some ⟨b, 0, none⟩), .int .i64 f, .int .i64 t, .string y] w1 fun e w' => e = .returned (.tuple #[.pointer none, .int .i64 (spl x f t y).2]) ∧ Below w1.heap.size w1 w') := ⟨fun w1 hb => splice_no (HT.out.below (below_step HO.out.below hb)) (HO.out.rope.below hb) f t y (by omega) hz⟩
        generalize (spl x f t y).1 = z at C15
        generalize (spl x f t y).2 = n at C14 C15 hz
        have hn1 : (n == 0) = false := beq_eq_false_iff_ne.2 hz
        have hn2 : (n != 0) = true := bne_iff_ne.2 hz
        clear hz hsz
        go_wp2
        go_region_held3 (fun w3 => Below wr.heap.size wr w3 ∧ w3.cell? (ad.add (j.toNat * 3)) = some (.int .i64 f) ∧ w3.cell? ⟨(ad.add (j.toNat * 3)).block, (ad.add (j.toNat * 3)).off + 1, none⟩ = some (.int .i64 t) ∧ w3.cell? ⟨(ad.add (j.toNat * 3)).block, (ad.add (j.toNat * 3)).off + 2, none⟩ = some (.string y)) (first | (refine ⟨?_, ?_, ?_, ?_⟩ <;> assumption) | assumption) (first
          | (go_at_call 14; (with_reducible refine (C14.out _ (by assumption)).mono ?_); rintro e w3 ⟨rfl, hb1⟩; have hbx := below_step (by assumption) hb1; have f0 := pw_cell_below hbx X0.out; have f1 := pw_cell_below hbx X1.out; have f2 := pw_cell_below hbx X2.out))
        have HO3 := Aside0.mk (HO.out.move hbx)
        have BR3 : Below wr.heap.size wr w3.drew := below_drew1 hbx
        have k0 : w3.drew.cell? (ad.add (j.toNat * 3)) = some (.int .i64 f) := f0
        have k1 : w3.drew.cell? ⟨(ad.add (j.toNat * 3)).block, (ad.add (j.toNat * 3)).off + 1, none⟩ = some (.int .i64 t) := f1
        have k2 : w3.drew.cell? ⟨(ad.add (j.toNat * 3)).block, (ad.add (j.toNat * 3)).off + 2, none⟩ = some (.string y) := f2
        clear hbx hb1
        go_wp2
        go_region_held3 (fun w3 => Below wr.heap.size wr w3 ∧ w3.cell? (ad.add (j.toNat * 3)) = some (.int .i64 f) ∧ w3.cell? ⟨(ad.add (j.toNat * 3)).block, (ad.add (j.toNat * 3)).off + 1, none⟩ = some (.int .i64 t) ∧ w3.cell? ⟨(ad.add (j.toNat * 3)).block, (ad.add (j.toNat * 3)).off + 2, none⟩ = some (.string y)) (first | (refine ⟨?_, ?_, ?_, ?_⟩ <;> assumption) | assumption) (first
          | (go_at_call 15; (with_reducible refine (C15.out _).mono ?_); rintro e w4 ⟨rfl, hb1⟩; have hbx := below_step (by assumption) hb1; have f0 := pw_cell_below hbx X0.out; have f1 := pw_cell_below hbx X1.out; have f2 := pw_cell_below hbx X2.out; have hbz := hb1))
        have HO4 := Aside0.mk (HO3.out.move (((Below.refl w3.heap.size w3).drew).trans hbz))
        clear hbx hbz hb1 HO3 HO C14 C15 f0 f1 f2 k0 k1 k2 hd0 hd1 hd2 hx0 hx1 hx2 BR BR3 X0 X1 X2
        go_wp2
        go_roundw
        case rel => exact ⟨x, b, _, _, j + 1, rfl, rfl, by go_num, by omega, by omega, by omega, HO4⟩
        case measure => simp [intOf]; omega
    · clear hg9 hg10 hh9 hh10
      go_wp2
      go_loopw [16] (fun i W => ∃ k : Nat, k ≤ ps.length ∧ i = .int .i64 k ∧ Aside0 (Hold w W (.pointer (some ⟨b, 0, none⟩)) x (.slice (some ⟨g9, 0, none⟩) ps.length c9) (.slice (some ⟨g10, 0, none⟩) ps.length c10) ps xs)) (fun i _ => ps.length - (intOf i).toNat)
      case atStart => exact ⟨0, by omega, rfl, HO⟩
      case round =>
        clear HO
        obtain ⟨k, hk, rfl, HO⟩ := hrel
        by_cases hlt2 : k < ps.length
        · have e9 := HO.out.own9.cellAt k (by omega)
          have e10 := HO.out.own10.cellAt k (by omega)
          have hk2 : k < xs.length := by rw [← HO.out.len]; exact hlt2
          rw [List.getElem?_eq_getElem hlt2] at e9
          rw [List.getElem?_map, List.getElem?_eq_getElem hk2] at e10
          have RA := HO.out.all k _ _ (List.getElem?_eq_getElem hlt2) (List.getElem?_eq_getElem hk2)
          obtain ⟨b1, hb1⟩ := RA.ptr
          rw [hb1] at e9 RA
          simp only [Option.map_some] at e10
          generalize xs[k] = z at e10 RA
          clear hb1
          have C16 : Aside0 (∀ w1, Below wr.heap.size wr w1 → Calls Tryd.prog 16 #[.pointer (some ⟨b1, 0, none⟩), .string z] w1 fun e w' => e = .returned (.bool true) ∧ Below w1.heap.size w1 w') := ⟨fun w1 hb => alike_calls (RA.below hb)⟩
          clear RA hk2
          have E9 := Aside0.mk e9
          have E10 := Aside0.mk e10
          have hd0 : wr.drew.cell? ⟨g9, k, none⟩ = some (.pointer (some ⟨b1, 0, none⟩)) := e9
          have hd1 : wr.drew.cell? ⟨g10, k, none⟩ = some (.string z) := e10
          have BR : Below wr.heap.size wr wr.drew := below_drew1 (Below.refl _ _)
          have b0 : (0 : Int) ≤ k := by omega
          have b2 : (k : Int) < (ps.length : Int) := by omega
          go_wp2
          go_region_held3 (fun w3 => Below wr.heap.size wr w3 ∧ w3.cell? ⟨g9, k, none⟩ = some (.pointer (some ⟨b1, 0, none⟩)) ∧ w3.cell? ⟨g10, k, none⟩ = some (.string z)) (first | (refine ⟨?_, ?_, ?_⟩ <;> assumption) | assumption) (first
            | (go_at_call 16; (with_reducible refine (C16.out _ (by assumption)).mono ?_); rintro e w3 ⟨rfl, hb1⟩; have hbx := below_step (by assumption) hb1; have f0 := pw_cell_below hbx E9.out; have f1 := pw_cell_below hbx E10.out))
          go_wp2
          go_roundw
          case rel => exact ⟨k + 1, by omega, by go_num, ⟨HO.out.move hbx⟩⟩
          case measure => simp [intOf]; omega
        · go_wp2
          go_ret
          exact ⟨rfl, HO.out.below⟩

theorem mem_le_sum : ∀ (l : List Nat) (x : Nat), x ∈ l → x ≤ l.sum
  | [], x, h => by simp at h
  | a :: l, x, h => by
    rw [List.sum_cons]
    rcases List.mem_cons.1 h with rfl | h
    · omega
    · have := mem_le_sum l x h; omega
/-- RopePlays: true of whatever text and splices. -/
theorem plays_calls (s : ByteArray) (A : Option Addr) (c : Nat) (l : List S34) (w : World) (ht : Tb w) (hr : Kd.C k34 w A l.length l) (hc : l.length ≤ c) (hs : s.size ≤ 140737488351232) (hm : l.length ≤ 140737488351232) (hb : ∀ x ∈ l, x.f2.size ≤ 140737488351232) :
    Calls Tryd.prog 3 #[.string s, .slice A l.length c] w fun e w' => e = .returned (.bool true) ∧ Below w.heap.size w w' := by
  have hg := glossatorlaw09_great.calls _ s A c l _ w hr hc (rgreat s l hs hm hb (l.length + 1) (Nat.le_refl _))
  cases e : greatB s l with
  | true => rw [e] at hg; exact plays_great s A c l w hr hc ⟨hg⟩
  | false =>
    rw [e] at hg
    unfold greatB at e
    rw [Bool.or_eq_false_iff, decide_eq_false_iff_not, decide_eq_false_iff_not] at e
    have hb' : ∀ x ∈ l, x.f2.size ≤ 70000 := by
      intro x hx
      have := mem_le_sum (l.map (fun x => x.f2.size)) x.f2.size (List.mem_map_of_mem (f := fun x => x.f2.size) hx)
      have h2 : sumL l = (l.map (fun x => x.f2.size)).sum := rfl
      omega
    by_cases h1 : 16384 < s.size
    · exact plays_bad s A c l w ⟨hg⟩ 3 (by decide) ⟨#[]⟩ ⟨fun w1 _ => new_long s w1 h1⟩ ⟨fun w1 => glossatorref09_New.calls _ s _ _ w1 (by rw [rnew s hs _ (Nat.le_refl _), if_pos h1])⟩
    · by_cases h2 : validD s.data.toList = true
      · exact plays_good s A c l w ht hr hc (by omega) hb' ⟨hg⟩ (by omega) h2
      · exact plays_bad s A c l w ⟨hg⟩ 10 (by decide) ⟨#[]⟩ ⟨fun w1 hb => new_bad s w1 (ht.below hb) (by omega) (by simpa using h2)⟩ ⟨fun w1 => glossatorref09_New.calls _ s _ _ w1 (by rw [rnew s hs _ (Nat.le_refl _), if_neg h1, if_neg h2])⟩
end Go.Proofs.YtobhfpepclepdaaDoor
