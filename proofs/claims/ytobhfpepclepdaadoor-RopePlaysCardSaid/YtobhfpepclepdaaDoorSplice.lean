/- Ropes: Splice. -/
import Derived.Test.YtobhfpepclepdaaDoorAhead
namespace Go.Proofs.YtobhfpepclepdaaDoor
open Go.RowKit Go.Proofs.YtobhfpepclepdaaDoorW.PrintWords Go.Proofs.YtobhfpepclepdaaDoorW.PrintLast Go.Proofs.YtobhfpepclepdaaDoorW.PrintMore
open Go.Proofs.YtobhfpepclepdaaDoor.PRope
open Go.Lib (decodeL validD)
set_option linter.unusedVariables false
attribute [local go_sem] fld0 fld1 fld2 fld3 fld4 fld5 ta112 ta109t ta112f ta112t max2_int min2_int max_two min_two
set_option maxHeartbeats 4000000 in
set_option maxRecDepth 100000 in
theorem splice_wide (b : Nat) (f t : Int) (s : ByteArray) (w : World) (h : t < f) : Calls Tryd.prog 14 #[.pointer (some ⟨b, 0, none⟩), .int .i64 f, .int .i64 t, .string s] w (NoRope w 90) := by
  have BL := Aside0.mk (Below.refl w.heap.size w)
  go_enter Tryd.func14, Tryd.ntmps14
  go_wp2
  go_ret2
  exact ⟨rfl, BL.out⟩
set_option maxHeartbeats 4000000 in
set_option maxRecDepth 100000 in
theorem splice_from (b : Nat) (f t : Int) (s : ByteArray) (w : World) (h : ¬ t < f) (AF : Aside0 (∀ w1, Below w.heap.size w w1 → Calls Tryd.prog 41 #[.pointer (some ⟨b, 0, none⟩), .int .i64 f] w1 fun e w' => e = .returned (.bool false) ∧ Below w1.heap.size w1 w')) : Calls Tryd.prog 14 #[.pointer (some ⟨b, 0, none⟩), .int .i64 f, .int .i64 t, .string s] w (NoRope w 90) := by
  have BL := Aside0.mk (Below.refl w.heap.size w)
  go_enter Tryd.func14, Tryd.ntmps14
  go_wp2_with (first | (go_at_call 41; (with_reducible refine (AF.out _ BL.out).mono ?_); rintro e w1 ⟨rfl, hb1⟩; have BL' := Aside0.mk (below_step BL.out hb1); clear BL hb1; have BL := BL'; clear BL'))
  go_ret2
  exact ⟨rfl, BL.out⟩
set_option maxHeartbeats 4000000 in
set_option maxRecDepth 100000 in
theorem splice_to (b : Nat) (f t : Int) (s : ByteArray) (w : World) (h : ¬ t < f) (AF : Aside0 (∀ w1, Below w.heap.size w w1 → Calls Tryd.prog 41 #[.pointer (some ⟨b, 0, none⟩), .int .i64 f] w1 fun e w' => e = .returned (.bool true) ∧ Below w1.heap.size w1 w')) (AT : Aside0 (∀ w1, Below w.heap.size w w1 → Calls Tryd.prog 41 #[.pointer (some ⟨b, 0, none⟩), .int .i64 t] w1 fun e w' => e = .returned (.bool false) ∧ Below w1.heap.size w1 w')) : Calls Tryd.prog 14 #[.pointer (some ⟨b, 0, none⟩), .int .i64 f, .int .i64 t, .string s] w (NoRope w 90) := by
  have BL := Aside0.mk (Below.refl w.heap.size w)
  have tok : True := trivial
  go_enter Tryd.func14, Tryd.ntmps14
  go_wp2_with (first | (go_at_call 41; have _t := tok; (with_reducible refine (AF.out _ BL.out).mono ?_); clear tok; rintro e w1 ⟨rfl, hb1⟩; have BL' := Aside0.mk (below_step BL.out hb1); clear BL hb1; have BL := BL'; clear BL') | (go_at_call 41; (with_reducible refine (AT.out _ BL.out).mono ?_); rintro e w1 ⟨rfl, hb1⟩; have BL' := Aside0.mk (below_step BL.out hb1); clear BL hb1; have BL := BL'; clear BL'))
  go_ret2
  exact ⟨rfl, BL.out⟩
set_option maxHeartbeats 4000000 in
set_option maxRecDepth 100000 in
theorem splice_utf (b : Nat) (f t : Int) (s : ByteArray) (w : World) (h : ¬ t < f) (AF : Aside0 (∀ w1, Below w.heap.size w w1 → Calls Tryd.prog 41 #[.pointer (some ⟨b, 0, none⟩), .int .i64 f] w1 fun e w' => e = .returned (.bool true) ∧ Below w1.heap.size w1 w')) (AT : Aside0 (∀ w1, Below w.heap.size w w1 → Calls Tryd.prog 41 #[.pointer (some ⟨b, 0, none⟩), .int .i64 t] w1 fun e w' => e = .returned (.bool true) ∧ Below w1.heap.size w1 w')) (CV : Aside0 (∀ w1, Below w.heap.size w w1 → Calls Tryd.prog 38 #[.string s] w1 fun e w' => e = .returned (.bool false) ∧ Below w1.heap.size w1 w')) : Calls Tryd.prog 14 #[.pointer (some ⟨b, 0, none⟩), .int .i64 f, .int .i64 t, .string s] w (NoRope w 10) := by
  have BL := Aside0.mk (Below.refl w.heap.size w)
  have tok : True := trivial
  go_enter Tryd.func14, Tryd.ntmps14
  go_wp2_with (first | (go_at_call 41; have _t := tok; (with_reducible refine (AF.out _ BL.out).mono ?_); clear tok; rintro e w1 ⟨rfl, hb1⟩; have BL' := Aside0.mk (below_step BL.out hb1); clear BL hb1; have BL := BL'; clear BL') | (go_at_call 41; (with_reducible refine (AT.out _ BL.out).mono ?_); rintro e w1 ⟨rfl, hb1⟩; have BL' := Aside0.mk (below_step BL.out hb1); clear BL hb1; have BL := BL'; clear BL') | (go_at_call 38; (with_reducible refine (CV.out _ BL.out).mono ?_); rintro e w1 ⟨rfl, hb1⟩; have BL' := Aside0.mk (below_step BL.out hb1); clear BL hb1; have BL := BL'; clear BL'))
  go_ret2
  exact ⟨rfl, BL.out⟩
set_option maxHeartbeats 4000000 in
set_option maxRecDepth 100000 in
theorem splice_long (b : Nat) (f t : Int) (s : ByteArray) (w : World) (h : ¬ t < f) (AF : Aside0 (∀ w1, Below w.heap.size w w1 → Calls Tryd.prog 41 #[.pointer (some ⟨b, 0, none⟩), .int .i64 f] w1 fun e w' => e = .returned (.bool true) ∧ Below w1.heap.size w1 w')) (AT : Aside0 (∀ w1, Below w.heap.size w w1 → Calls Tryd.prog 41 #[.pointer (some ⟨b, 0, none⟩), .int .i64 t] w1 fun e w' => e = .returned (.bool true) ∧ Below w1.heap.size w1 w')) (CV : Aside0 (∀ w1, Below w.heap.size w w1 → Calls Tryd.prog 38 #[.string s] w1 fun e w' => e = .returned (.bool true) ∧ Below w1.heap.size w1 w')) (L : Nat) (hL : L ≤ 1000000) (hs : s.size ≤ 1000000) (f0 : 0 ≤ f) (t1 : t ≤ L) (CL : Aside0 (∀ w1, Below w.heap.size w w1 → Calls Tryd.prog 19 #[.pointer (some ⟨b, 0, none⟩)] w1 fun e w' => e = .returned (.int .i64 (L : Int)) ∧ Below w1.heap.size w1 w')) (hg : 16384 < (L : Int) - (t - f) + s.size) : Calls Tryd.prog 14 #[.pointer (some ⟨b, 0, none⟩), .int .i64 f, .int .i64 t, .string s] w (NoRope w 3) := by
  have BL := Aside0.mk (Below.refl w.heap.size w)
  have tok : True := trivial
  have W1 : IntKind.i64.wrap (t - f) = t - f := IntWalk.i64_in _ (by omega)
  have W2 : IntKind.i64.wrap ((L : Int) - (t - f)) = (L : Int) - (t - f) := IntWalk.i64_in _ (by omega)
  have W3 : IntKind.i64.wrap ((L : Int) - (t - f) + s.size) = (L : Int) - (t - f) + s.size := IntWalk.i64_in _ (by omega)
  go_enter Tryd.func14, Tryd.ntmps14
  go_wp2_with (first | (go_at_call 41; have _t := tok; (with_reducible refine (AF.out _ BL.out).mono ?_); clear tok; rintro e w1 ⟨rfl, hb1⟩; have BL' := Aside0.mk (below_step BL.out hb1); clear BL hb1; have BL := BL'; clear BL') | (go_at_call 41; (with_reducible refine (AT.out _ BL.out).mono ?_); rintro e w1 ⟨rfl, hb1⟩; have BL' := Aside0.mk (below_step BL.out hb1); clear BL hb1; have BL := BL'; clear BL') | (go_at_call 38; (with_reducible refine (CV.out _ BL.out).mono ?_); rintro e w1 ⟨rfl, hb1⟩; have BL' := Aside0.mk (below_step BL.out hb1); clear BL hb1; have BL := BL'; clear BL') | (go_at_call 19; (with_reducible refine (CL.out _ BL.out).mono ?_); rintro e w1 ⟨rfl, hb1⟩; have BL' := Aside0.mk (below_step BL.out hb1); clear BL hb1; have BL := BL'; clear BL'))
  go_ret2
  exact ⟨rfl, BL.out⟩
set_option maxHeartbeats 4000000 in
set_option maxRecDepth 100000 in
theorem splice_fine (b : Nat) (f t : Int) (s : ByteArray) (w : World) (v : Value) (hc : w.cell? ⟨b, 0, none⟩ = some v) (h : ¬ t < f) (AF : Aside0 (∀ w1, Below w.heap.size w w1 → Calls Tryd.prog 41 #[.pointer (some ⟨b, 0, none⟩), .int .i64 f] w1 fun e w' => e = .returned (.bool true) ∧ Below w1.heap.size w1 w')) (AT : Aside0 (∀ w1, Below w.heap.size w w1 → Calls Tryd.prog 41 #[.pointer (some ⟨b, 0, none⟩), .int .i64 t] w1 fun e w' => e = .returned (.bool true) ∧ Below w1.heap.size w1 w')) (CV : Aside0 (∀ w1, Below w.heap.size w w1 → Calls Tryd.prog 38 #[.string s] w1 fun e w' => e = .returned (.bool true) ∧ Below w1.heap.size w1 w')) (L : Nat) (hL : L ≤ 1000000) (hs : s.size ≤ 1000000) (f0 : 0 ≤ f) (t1 : t ≤ L) (CL : Aside0 (∀ w1, Below w.heap.size w w1 → Calls Tryd.prog 19 #[.pointer (some ⟨b, 0, none⟩)] w1 fun e w' => e = .returned (.int .i64 (L : Int)) ∧ Below w1.heap.size w1 w')) (hg : ¬ 16384 < (L : Int) - (t - f) + s.size) (l1 l2 l3 l4 : List UInt8)
    (K1 : Aside0 (∀ w1, Below w.heap.size w w1 → Calls Tryd.prog 42 #[v, .int .i64 f] w1 (MadeTwo w1 l1 l2)))
    (K2 : Aside0 (∀ w1 v2 o2, Below w.heap.size w w1 → IsOpt w1 v2 o2 → OGood o2 → otxt o2 = l2 → Calls Tryd.prog 42 #[v2, .int .i64 (t - f)] w1 (MadeTwo w1 l3 l4)))
    (KG : Aside0 (∀ w1, Below w.heap.size w w1 → Calls Tryd.prog 39 #[.string s] w1 (MadeO w1 s.data.toList)))
    (HT : Aside0 (Tb w)) (N1 : Aside0 (l1.length + s.data.toList.length ≤ 1000000)) (N2 : Aside0 ((l1 ++ s.data.toList).length + l4.length ≤ 1000000)) :
    Calls Tryd.prog 14 #[.pointer (some ⟨b, 0, none⟩), .int .i64 f, .int .i64 t, .string s] w (RopeOf w (l1 ++ s.data.toList ++ l4)) := by
  have BL := Aside0.mk (Below.refl w.heap.size w)
  have tok : True := trivial
  have W1 : IntKind.i64.wrap (t - f) = t - f := IntWalk.i64_in _ (by omega)
  have W2 : IntKind.i64.wrap ((L : Int) - (t - f)) = (L : Int) - (t - f) := IntWalk.i64_in _ (by omega)
  have W3 : IntKind.i64.wrap ((L : Int) - (t - f) + s.size) = (L : Int) - (t - f) + s.size := IntWalk.i64_in _ (by omega)
  have HC := Aside0.mk hc
  go_enter Tryd.func14, Tryd.ntmps14
  go_wp2_with (first
    | (go_at_call 41; have _t := tok; (with_reducible refine (AF.out _ BL.out).mono ?_); clear tok; rintro e w1 ⟨rfl, hb1⟩; have BL' := Aside0.mk (below_step BL.out hb1); clear BL hb1; have BL := BL'; clear BL')
    | (go_at_call 41; (with_reducible refine (AT.out _ BL.out).mono ?_); rintro e w1 ⟨rfl, hb1⟩; have BL' := Aside0.mk (below_step BL.out hb1); clear BL hb1; have BL := BL'; clear BL')
    | (go_at_call 38; (with_reducible refine (CV.out _ BL.out).mono ?_); rintro e w1 ⟨rfl, hb1⟩; have BL' := Aside0.mk (below_step BL.out hb1); clear BL hb1; have BL := BL'; clear BL')
    | (go_at_call 19; (with_reducible refine (CL.out _ BL.out).mono ?_); rintro e w1 ⟨rfl, hb1⟩; have BL' := Aside0.mk (below_step BL.out hb1); clear BL hb1; have BL := BL'; clear BL'; clear hc; have hc := pw_cell_below BL.out HC.out)
    | (go_at_call 42; (with_reducible refine (K1.out _ BL.out).mono ?_); rintro e w1 ⟨v1, v2, o1, o2, rfl, hp1, hp2, hg1, hg2, hx1, hx2, hb1⟩; have BL' := Aside0.mk (below_step BL.out hb1); clear BL hb1; have BL := BL'; clear BL'; clear hc; have P1 := Aside0.mk hp1; have P2 := Aside0.mk hp2; have G1 := Aside0.mk hg1; have G2 := Aside0.mk hg2; have X1 := Aside0.mk hx1; have X2 := Aside0.mk hx2; clear hp1 hp2 hg1 hg2 hx1 hx2)
    | (go_at_call 42; (with_reducible refine (K2.out _ _ _ BL.out P2.out G2.out X2.out).mono ?_); rintro e w1 ⟨v3, v4, o3, o4, rfl, hp3, hp4, hg3, hg4, hx3, hx4, hb1⟩; have P1' := Aside0.mk (P1.out.below hb1); have BL' := Aside0.mk (below_step BL.out hb1); clear BL hb1; have BL := BL'; clear BL'; have P4 := Aside0.mk hp4; have G4 := Aside0.mk hg4; have X4 := Aside0.mk hx4; clear hp3 hp4 hg3 hg4 hx3 hx4 P1 P2)
    | (go_at_call 39; (with_reducible refine (KG.out _ BL.out).mono ?_); rintro e w1 ⟨v5, o5, rfl, hp5, hg5, hx5, hb1⟩; have P1 := Aside0.mk (P1'.out.below hb1); have P4' := Aside0.mk (P4.out.below hb1); have BL' := Aside0.mk (below_step BL.out hb1); clear BL hb1; have BL := BL'; clear BL'; have P5 := Aside0.mk hp5; have G5 := Aside0.mk hg5; have X5 := Aside0.mk hx5; clear hp5 hg5 hx5 P1' P4; have tok2 : True := trivial)
    | (go_at_call 43; have _t := tok2; (with_reducible refine (join_opt (HT.out.below BL.out) P1.out P5.out G1.out G5.out (by rw [X1.out, X5.out]; exact N1.out)).mono ?_); clear tok2; rintro e w1 ⟨v6, o6, rfl, hp6, hg6, hx6, hb1⟩; have P4 := Aside0.mk (P4'.out.below hb1); have BL' := Aside0.mk (below_step BL.out hb1); clear BL hb1; have BL := BL'; clear BL'; have P6 := Aside0.mk hp6; have G6 := Aside0.mk hg6; have X6 := Aside0.mk hx6; clear hp6 hg6 hx6 P4' P1 P5)
    | (go_at_call 43; (with_reducible refine (join_opt (HT.out.below BL.out) P6.out P4.out G6.out G4.out (by rw [X6.out, X1.out, X5.out, X4.out]; exact N2.out)).mono ?_)))
  rintro e w2 ⟨v7, o7, rfl, hp, hg7, hx, hb1⟩
  have BL2 := Aside0.mk (below_step BL.out hb1)
  have HG := Aside0.mk hg7
  have HX := Aside0.mk hx
  rcases hp.shape with rfl | ⟨T, bb, rfl⟩
  all_goals
    have HP := Aside0.mk hp
    clear hb1 hp hg7 hx
    go_wp2
    go_ret2
    exact ⟨_, o7, rfl, ⟨w2.heap.size, _, rfl, blk_new w2 _, HP.out.below ((Below.refl _ _).alloc (Nat.le_refl _) _)⟩, HG.out, by rw [HX.out, X6.out, X1.out, X5.out, X4.out], below_step BL2.out ((Below.refl _ _).alloc (Nat.le_refl _) _)⟩

/-- What Splice comes to. -/
inductive Spliced (w : World) (l : List UInt8) (f t : Int) (s : List UInt8) (e : Ending) (w' : World) : Prop
  | range : (t < f ∨ aheadI l f = false ∨ aheadI l t = false) → NoRope w 90 e w' → Spliced w l f t s e w'
  | utf : ¬ t < f → aheadI l f = true → aheadI l t = true → validD s = false → NoRope w 10 e w' → Spliced w l f t s e w'
  | long : ¬ t < f → aheadI l f = true → aheadI l t = true → validD s = true → 16384 < (l.length : Int) - (t - f) + s.length → NoRope w 3 e w' → Spliced w l f t s e w'
  | fine : ¬ t < f → aheadI l f = true → aheadI l t = true → validD s = true → ¬ 16384 < (l.length : Int) - (t - f) + s.length → RopeOf w (l.take f.toNat ++ s ++ l.drop t.toNat) e w' → Spliced w l f t s e w'
theorem splice_calls {p : Value} {o : Option Tr} {w : World} (ht : Tb w) (h : IsRope w p o) (hg : OGood o) (hn : (otxt o).length ≤ 100000) (f t : Int) (s : ByteArray) (hs : s.size ≤ 100000) :
    Calls Tryd.prog 14 #[p, .int .i64 f, .int .i64 t, .string s] w (Spliced w (otxt o) f t s.data.toList) := by
  have hR := h
  obtain ⟨b, v, rfl, hh, ho⟩ := h
  have hc : w.cell? ⟨b, 0, none⟩ = some v := blk_cell hh 0
  by_cases h1 : t < f
  · exact (splice_wide b f t s w h1).mono fun e w' h => .range (.inl h1) h
  have AF : Aside0 (∀ w1, Below w.heap.size w w1 → Calls Tryd.prog 41 #[.pointer (some ⟨b, 0, none⟩), .int .i64 f] w1 fun e w' => e = .returned (.bool (aheadI (otxt o) f)) ∧ Below w1.heap.size w1 w') := ⟨fun w1 hb => ahead_calls (hR.below hb) (by omega) f⟩
  have AT : Aside0 (∀ w1, Below w.heap.size w w1 → Calls Tryd.prog 41 #[.pointer (some ⟨b, 0, none⟩), .int .i64 t] w1 fun e w' => e = .returned (.bool (aheadI (otxt o) t)) ∧ Below w1.heap.size w1 w') := ⟨fun w1 hb => ahead_calls (hR.below hb) (by omega) t⟩
  have CV : Aside0 (∀ w1, Below w.heap.size w w1 → Calls Tryd.prog 38 #[.string s] w1 fun e w' => e = .returned (.bool (validD s.data.toList)) ∧ Below w1.heap.size w1 w') := ⟨fun w1 hb => valid_calls s w1 (ht.below hb) (by omega)⟩
  have CL : Aside0 (∀ w1, Below w.heap.size w w1 → Calls Tryd.prog 19 #[.pointer (some ⟨b, 0, none⟩)] w1 fun e w' => e = .returned (.int .i64 ((otxt o).length : Int)) ∧ Below w1.heap.size w1 w') := ⟨fun w1 hb => len_rope (hR.below hb)⟩
  by_cases h2 : aheadI (otxt o) f = true
  · by_cases h3 : aheadI (otxt o) t = true
    · rw [h2] at AF
      rw [h3] at AT
      obtain ⟨f0, f1⟩ := aheadI_bounds h2
      obtain ⟨t0, t1⟩ := aheadI_bounds h3
      by_cases h4 : validD s.data.toList = true
      · rw [h4] at CV
        have es : (s.data.toList.length : Int) = s.size := by rw [str_size]
        by_cases h5 : 16384 < ((otxt o).length : Int) - (t - f) + s.size
        · exact (splice_long b f t s w h1 AF AT CV _ (by omega) (by omega) f0 t1 CL h5).mono fun e w' h => .long h1 h2 h3 h4 (by rw [es]; exact h5) h
        · obtain ⟨k, rfl⟩ : ∃ k : Nat, f = k := ⟨f.toNat, by omega⟩
          obtain ⟨m, rfl⟩ : ∃ m : Nat, t = m := ⟨t.toNat, by omega⟩
          rw [aheadI_nat] at h2 h3
          have e2 : edge ((otxt o).drop k) (m - k) = true := by rw [← edge_skip (by omega) (by omega)]; exact h3
          refine (splice_fine b k m s w v hc h1 AF AT CV _ (by omega) (by omega) f0 t1 CL h5 ((otxt o).take k) ((otxt o).drop k) (((otxt o).drop k).take (m - k)) (((otxt o).drop k).drop (m - k))
            ⟨fun w1 hb => cut_calls (ht.below hb) (ho.below hb) hg (by omega) k (by omega) h2⟩
            ⟨fun w1 v2 o2 hb h1 h2 h3 => ?_⟩ ⟨fun w1 hb => grow_calls s w1 (ht.below hb) (by omega) h4⟩ ⟨ht⟩ ⟨?_⟩ ⟨?_⟩).mono ?_
          · have := cut_calls (ht.below hb) h1 h2 (by rw [h3, List.length_drop]; omega) (m - k) (by rw [h3, List.length_drop]; omega) (by rw [h3]; exact e2)
            rw [h3, show ((m - k : Nat) : Int) = (m : Int) - k by omega] at this
            exact this
          · rw [List.length_take, str_size]; omega
          · rw [List.length_append, List.length_take, str_size, List.length_drop, List.length_drop]; omega
          · intro e w' hr
            refine .fine h1 (by rw [aheadI_nat]; exact h2) (by rw [aheadI_nat]; exact h3) h4 (by rw [es]; exact h5) ?_
            rw [List.drop_drop, show k + (m - k) = m by omega] at hr
            exact hr
      · have h4' : validD s.data.toList = false := by simpa using h4
        rw [h4'] at CV
        exact (splice_utf b f t s w h1 AF AT CV).mono fun e w' h => .utf h1 h2 h3 h4' h
    · have h3' : aheadI (otxt o) t = false := by simpa using h3
      rw [h2] at AF
      rw [h3'] at AT
      exact (splice_to b f t s w h1 AF AT).mono fun e w' h => .range (.inr (.inr h3')) h
  · have h2' : aheadI (otxt o) f = false := by simpa using h2
    rw [h2'] at AF
    exact (splice_from b f t s w h1 AF).mono fun e w' h => .range (.inr (.inl h2')) h
end Go.Proofs.YtobhfpepclepdaaDoor
