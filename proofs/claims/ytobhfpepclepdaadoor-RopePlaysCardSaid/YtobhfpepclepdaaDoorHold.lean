/- Ropes: contracts in the words of texts; what a rope is, when other memory grows. -/
import Derived.Test.YtobhfpepclepdaaDoorSplice
import Derived.Test.YtobhfpepclepdaaDoorRef3
namespace Go.Proofs.YtobhfpepclepdaaDoor
open Go.RowKit Go.Proofs.YtobhfpepclepdaaDoorW.PrintWords Go.Proofs.YtobhfpepclepdaaDoorW.PrintLast Go.Proofs.YtobhfpepclepdaaDoorW.PrintMore
open Go.Proofs.YtobhfpepclepdaaDoor.PRope
open Go.Lib (decodeL validD)
set_option linter.unusedVariables false
/-- A rope of this text. -/
def RopeAt (W : World) (p : Value) (x : ByteArray) : Prop := ∃ o, IsRope W p o ∧ OGood o ∧ otxt o = x.data.toList ∧ x.size ≤ 16384
theorem RopeAt.below {W W' : World} (hb : Below W.heap.size W W') {p : Value} {x : ByteArray} (h : RopeAt W p x) : RopeAt W' p x := by
  obtain ⟨o, h1, h2, h3, h4⟩ := h
  exact ⟨o, h1.below hb, h2, h3, h4⟩
theorem RopeAt.ptr {W : World} {p : Value} {x : ByteArray} (h : RopeAt W p x) : ∃ b, p = .pointer (some ⟨b, 0, none⟩) := by
  obtain ⟨o, ⟨b, v, h1, _⟩, _⟩ := h
  exact ⟨b, h1⟩
theorem RopeAt.size {W : World} {p : Value} {x : ByteArray} (h : RopeAt W p x) : x.size ≤ 16384 := by
  obtain ⟨o, _, _, _, h4⟩ := h
  exact h4
theorem RopeAt.valid {W : World} {p : Value} {x : ByteArray} (h : RopeAt W p x) : validD x.data.toList = true := by
  obtain ⟨o, _, h2, h3, _⟩ := h
  rw [← h3]; exact h2.valid
/-- What grows in a row of another type leaves the parts. -/
theorem IsPart.grown {W W' : World} {g e : Nat} {cs : Array Value} (hg : W.grownBy W' (some g)) (hh : W.heap[g]? = some (.cells cs e (0, 0))) (he : e ≠ 111 ∧ e ≠ 114) : ∀ {t : Tr} {v : Value}, IsPart W v t → IsPart W' v t
  | .leaf s, v, ⟨b, hv, h⟩ => ⟨b, hv, blk_grown h hg (fun e_ => blk_ne h hh (fun x => he.1 x.symm) (by injection e_))⟩
  | .node l r, v, ⟨b, x, y, hv, h, hl, hr⟩ => ⟨b, x, y, hv, blk_grown h hg (fun e_ => blk_ne h hh (fun x => he.2 x.symm) (by injection e_)), IsPart.grown hg hh he hl, IsPart.grown hg hh he hr⟩
theorem RopeAt.grown {W W' : World} {g e : Nat} {cs : Array Value} (hg : W.grownBy W' (some g)) (hh : W.heap[g]? = some (.cells cs e (0, 0))) (he : e ≠ 111 ∧ e ≠ 114 ∧ e ≠ 85) {p : Value} {x : ByteArray} (h : RopeAt W p x) : RopeAt W' p x := by
  obtain ⟨o, ⟨b, v, h1, h2, h3⟩, h4, h5, h6⟩ := h
  refine ⟨o, ⟨b, v, h1, blk_grown h2 hg (fun e_ => blk_ne h2 hh (fun x => he.2.2 x.symm) (by injection e_)), ?_⟩, h4, h5, h6⟩
  cases o with
  | none => exact h3
  | some t => exact IsPart.grown hg hh ⟨he.1, he.2.1⟩ h3
/-- What the call owns moves with what makes memory alone. -/
theorem ownsRow_below {w w' : World} {base : Nat} {e : TypeId} {size : Nat} {v : Value} {n : Nat} {xs : List Value} (h : w.ownsRow base e size v n xs) (hb : Below w.heap.size w w') : w'.ownsRow base e size v n xs := by
  obtain ⟨h1, h2⟩ := h
  refine ⟨h1, ?_⟩
  rcases h2 with h2 | ⟨g, cap, cur, hv, hg, hc, hrest⟩
  · exact .inl h2
  · exact .inr ⟨g, cap, cur, hv, hg, blk_below hc hb, hrest⟩
theorem ownsRow_other {w w' : World} {base : Nat} {e : TypeId} {size : Nat} {v : Value} {n : Nat} {xs : List Value} (h : w.ownsRow base e size v n xs) {g e' : Nat} {cs : Array Value} (hg : w.grownBy w' (some g)) (hh : w.heap[g]? = some (.cells cs e' (0, 0))) (he : e ≠ e') : w'.ownsRow base e size v n xs := by
  obtain ⟨h1, h2⟩ := h
  refine ⟨h1, ?_⟩
  rcases h2 with h2 | ⟨k, cap, cur, hv, hk, hc, hrest⟩
  · exact .inl h2
  · exact .inr ⟨k, cap, cur, hv, hk, blk_grown hc hg (fun e_ => blk_ne hc hh he (by injection e_)), hrest⟩
theorem new_ok (s : ByteArray) (w : World) (ht : Tb w) (hs : s.size ≤ 16384) (hv : validD s.data.toList = true) : Calls Tryd.prog 12 #[.string s] w fun e w' => ∃ b, e = .returned (.tuple #[.pointer (some ⟨b, 0, none⟩), .int .i64 0]) ∧ RopeAt w' (.pointer (some ⟨b, 0, none⟩)) s ∧ Below w.heap.size w w' := by
  refine (new_fine s w ht hs hv).mono ?_
  rintro e w' ⟨p, o, h1, h2, h3, h4, h5⟩
  obtain ⟨b, v, rfl, h6⟩ := h2
  exact ⟨b, h1, ⟨o, ⟨b, v, rfl, h6⟩, h3, h4, hs⟩, h5⟩
/-- What Splice comes to, where the reference says so. -/
theorem spl_size {x : ByteArray} {f t : Int} {s : ByteArray} (hx : x.size ≤ 16384) (h : (spl x f t s).2 = 0) : (spl x f t s).1.size ≤ 16384 ∧ (spl x f t s).1.data.toList = x.data.toList.take f.toNat ++ s.data.toList ++ x.data.toList.drop t.toNat := by
  unfold spl at h ⊢
  by_cases h1 : (decide (f ≤ t) && (aheadI x.data.toList f && aheadI x.data.toList t)) = true
  · rw [if_pos h1] at h ⊢
    simp only [Bool.and_eq_true, decide_eq_true_eq] at h1
    obtain ⟨h1, h2, h3⟩ := h1
    obtain ⟨f0, f1⟩ := aheadI_bounds h2
    obtain ⟨t0, t1⟩ := aheadI_bounds h3
    rw [len_size] at f1 t1
    by_cases h4 : validD s.data.toList = true
    · rw [if_pos h4] at h ⊢
      by_cases h5 : 16384 < (x.size : Int) - (t - f) + s.size
      · rw [if_pos h5] at h; simp at h
      · rw [if_neg h5] at h ⊢
        dsimp only
        refine ⟨?_, ?_⟩
        · rw [ByteArray.size_append, ByteArray.size_append, ext_take_size _ _ (by omega), ext_drop_size]; omega
        · rw [ByteArray.data_append, ByteArray.data_append, Array.toList_append, Array.toList_append, ext_take, ext_drop]
    · rw [if_neg h4] at h; simp at h
  · rw [if_neg h1] at h; simp at h
theorem splice_ok {p : Value} {x : ByteArray} {w : World} (ht : Tb w) (h : RopeAt w p x) (f t : Int) (s : ByteArray) (hs : s.size ≤ 100000) (h0 : (spl x f t s).2 = 0) :
    Calls Tryd.prog 14 #[p, .int .i64 f, .int .i64 t, .string s] w fun e w' => ∃ b, e = .returned (.tuple #[.pointer (some ⟨b, 0, none⟩), .int .i64 0]) ∧ RopeAt w' (.pointer (some ⟨b, 0, none⟩)) (spl x f t s).1 ∧ Below w.heap.size w w' := by
  obtain ⟨o, h1, h2, h3, h4⟩ := h
  obtain ⟨s1, s2⟩ := spl_size h4 h0
  have hl : (otxt o).length = x.size := by rw [h3, len_size]
  refine (splice_calls ht h1 h2 (by omega) f t s hs).mono ?_
  intro e w' hr
  rw [h3] at hr
  have hx := x.data.toList
  unfold spl at h0
  cases hr with
  | range a b =>
    exfalso
    rw [if_neg] at h0
    · simp at h0
    · intro hb
      simp only [Bool.and_eq_true, decide_eq_true_eq] at hb
      rcases a with a | a | a
      · omega
      · rw [a] at hb; simp at hb
      · rw [a] at hb; simp at hb
  | utf a1 a2 a3 a4 b =>
    exfalso
    rw [if_pos (by rw [a2, a3]; simp; omega), if_neg (by rw [a4]; simp)] at h0
    simp at h0
  | long a1 a2 a3 a4 a5 b =>
    exfalso
    rw [if_pos (by rw [a2, a3]; simp; omega), if_pos a4, if_pos (by rw [len_size, len_size] at a5; exact a5)] at h0
    simp at h0
  | fine a1 a2 a3 a4 a5 b =>
    obtain ⟨p', o', e1, ⟨b', v', rfl, e2⟩, e3, e4, e5⟩ := b
    exact ⟨b', e1, ⟨o', ⟨b', v', rfl, e2⟩, e3, by rw [e4, s2], s1⟩, e5⟩
theorem splice_no {p : Value} {x : ByteArray} {w : World} (ht : Tb w) (h : RopeAt w p x) (f t : Int) (s : ByteArray) (hs : s.size ≤ 100000) (h0 : (spl x f t s).2 ≠ 0) :
    Calls Tryd.prog 14 #[p, .int .i64 f, .int .i64 t, .string s] w fun e w' => e = .returned (.tuple #[.pointer none, .int .i64 (spl x f t s).2]) ∧ Below w.heap.size w w' := by
  obtain ⟨o, h1, h2, h3, h4⟩ := h
  have hl : (otxt o).length = x.size := by rw [h3, len_size]
  refine (splice_calls ht h1 h2 (by omega) f t s hs).mono ?_
  intro e w' hr
  rw [h3] at hr
  unfold spl at h0 ⊢
  cases hr with
  | range a b =>
    rw [if_neg]
    · exact b
    · intro hb
      simp only [Bool.and_eq_true, decide_eq_true_eq] at hb
      rcases a with a | a | a
      · omega
      · rw [a] at hb; simp at hb
      · rw [a] at hb; simp at hb
  | utf a1 a2 a3 a4 b =>
    rw [if_pos (by rw [a2, a3]; simp; omega), if_neg (by rw [a4]; simp)]
    exact b
  | long a1 a2 a3 a4 a5 b =>
    rw [if_pos (by rw [a2, a3]; simp; omega), if_pos a4, if_pos (by rw [len_size, len_size] at a5; exact a5)]
    exact b
  | fine a1 a2 a3 a4 a5 b =>
    exfalso
    rw [if_pos (by rw [a2, a3]; simp; omega), if_pos a4, if_neg (by rw [len_size, len_size] at a5; exact a5)] at h0
    exact h0 rfl
set_option maxHeartbeats 4000000 in
set_option maxRecDepth 100000 in
theorem alike_calls {p : Value} {s : ByteArray} {w : World} (h : RopeAt w p s) : Calls Tryd.prog 16 #[p, .string s] w fun e w' => e = .returned (.bool true) ∧ Below w.heap.size w w' := by
  obtain ⟨o, h1, h2, h3, h4⟩ := h
  have hl : (otxt o).length = s.size := by rw [h3, len_size]
  have es : (⟨(otxt o).toArray⟩ : ByteArray) = s := by rw [h3]
  have C20 : Aside0 (∀ w1, Below w.heap.size w w1 → Calls Tryd.prog 20 #[p] w1 fun e w' => e = .returned (.string s) ∧ Below w1.heap.size w1 w') := ⟨fun w1 hb => by have := text_rope (h1.below hb) (by omega); rw [es] at this; exact this⟩
  have C19 : Aside0 (∀ w1, Below w.heap.size w w1 → Calls Tryd.prog 19 #[p] w1 fun e w' => e = .returned (.int .i64 (s.size : Int)) ∧ Below w1.heap.size w1 w') := ⟨fun w1 hb => by have := len_rope (h1.below hb); rw [hl] at this; exact this⟩
  have C21 : Aside0 (∀ w1, Below w.heap.size w w1 → Calls Tryd.prog 21 #[p] w1 fun e w' => e = .returned (.int .i64 (units s.data.toList : Int)) ∧ Below w1.heap.size w1 w') := ⟨fun w1 hb => by have := units_rope (h1.below hb); rw [h3] at this; exact this⟩
  have C22 : Aside0 (∀ w1, Below w.heap.size w w1 → Calls Tryd.prog 22 #[p] w1 fun e w' => e = .returned (.int .i64 (ends s.data.toList : Int)) ∧ Below w1.heap.size w1 w') := ⟨fun w1 hb => by have := breaks_rope (h1.below hb); rw [h3] at this; exact this⟩
  have C47 : Aside0 (∀ w1, Below w.heap.size w w1 → Calls Tryd.prog 47 #[p] w1 fun e w' => e = .returned (.int .i64 (oH o)) ∧ Below w1.heap.size w1 w') := ⟨fun w1 hb => depth_rope (h1.below hb)⟩
  have C45 : Aside0 (∀ w1, Calls Tryd.prog 45 #[.string s] w1 fun e w' => e = .returned (.int .i64 (units s.data.toList : Int)) ∧ Below w1.heap.size w1 w') := ⟨fun w1 => glossatorref01_Units.calls _ s _ w1 (runits s (by omega) _ (Nat.le_refl _))⟩
  have C46 : Aside0 (∀ w1, Calls Tryd.prog 46 #[.string s] w1 fun e w' => e = .returned (.int .i64 (ends s.data.toList : Int)) ∧ Below w1.heap.size w1 w') := ⟨fun w1 => glossatorref09_Breaks.calls _ s _ w1 (rbreaks s (by omega) _ (Nat.le_refl _))⟩
  have C48 : Aside0 (∀ w1, Calls Tryd.prog 48 #[.int .i64 (s.size : Int)] w1 fun e w' => e = .returned (.int .i64 (mostL s.size)) ∧ Below w1.heap.size w1 w') := ⟨fun w1 => (glossatorref09_Most.calls _ _ _ w1 (rmost s.size (by omega) _ (Nat.le_refl _))).mono fun e w' ⟨a, b⟩ => ⟨a, b.below⟩⟩
  obtain ⟨d1, d2⟩ := deep_enough h2
  rw [hl] at d1
  obtain ⟨b, v, rfl, _⟩ := h1
  clear h2 h3 h4 hl es
  have BL := Aside0.mk (Below.refl w.heap.size w)
  go_enter Tryd.func16, Tryd.ntmps16
  go_wp2_with (first
    | (go_at_call 20; (with_reducible refine (C20.out _ BL.out).mono ?_); rintro e w1 ⟨rfl, hb1⟩; have BL' := Aside0.mk (below_step BL.out hb1); clear BL hb1; have BL := BL'; clear BL')
    | (go_at_call 19; (with_reducible refine (C19.out _ BL.out).mono ?_); rintro e w1 ⟨rfl, hb1⟩; have BL' := Aside0.mk (below_step BL.out hb1); clear BL hb1; have BL := BL'; clear BL')
    | (go_at_call 21; (with_reducible refine (C21.out _ BL.out).mono ?_); rintro e w1 ⟨rfl, hb1⟩; have BL' := Aside0.mk (below_step BL.out hb1); clear BL hb1; have BL := BL'; clear BL')
    | (go_at_call 22; (with_reducible refine (C22.out _ BL.out).mono ?_); rintro e w1 ⟨rfl, hb1⟩; have BL' := Aside0.mk (below_step BL.out hb1); clear BL hb1; have BL := BL'; clear BL')
    | (go_at_call 47; (with_reducible refine (C47.out _ BL.out).mono ?_); rintro e w1 ⟨rfl, hb1⟩; have BL' := Aside0.mk (below_step BL.out hb1); clear BL hb1; have BL := BL'; clear BL')
    | (go_at_call 45; (with_reducible refine (C45.out _).mono ?_); rintro e w1 ⟨rfl, hb1⟩; have BL' := Aside0.mk (below_step BL.out hb1); clear BL hb1; have BL := BL'; clear BL')
    | (go_at_call 46; (with_reducible refine (C46.out _).mono ?_); rintro e w1 ⟨rfl, hb1⟩; have BL' := Aside0.mk (below_step BL.out hb1); clear BL hb1; have BL := BL'; clear BL')
    | (go_at_call 48; (with_reducible refine (C48.out _).mono ?_); rintro e w1 ⟨rfl, hb1⟩; have BL' := Aside0.mk (below_step BL.out hb1); clear BL hb1; have BL := BL'; clear BL'))
  go_ret
  exact ⟨rfl, BL.out⟩
end Go.Proofs.YtobhfpepclepdaaDoor
