/- Ropes: ahead, Valid, New. -/
import Derived.Test.YtobhfpepclepdaaDoorMeths
namespace Go.Proofs.YtobhfpepclepdaaDoor
open Go.RowKit Go.Proofs.YtobhfpepclepdaaDoorW.PrintWords Go.Proofs.YtobhfpepclepdaaDoorW.PrintLast Go.Proofs.YtobhfpepclepdaaDoorW.PrintMore
open Go.Proofs.YtobhfpepclepdaaDoor.PRope
open Go.Lib (decodeL validD)
set_option linter.unusedVariables false
attribute [local go_sem] fld0 fld1 fld2 fld3 fld4 fld5 ta112 ta109t ta112f ta112t max2_int min2_int max_two min_two
/-- A place ahead of a character, or at the end, of whatever number. -/
def aheadI (l : List UInt8) (n : Int) : Bool := decide (0 ≤ n) && edge l n.toNat
theorem aheadI_neg (l : List UInt8) (n : Int) (h : n < 0) : aheadI l n = false := by unfold aheadI; rw [decide_eq_false (by omega)]; rfl
theorem aheadI_far (l : List UInt8) (n : Int) (h : (l.length : Int) < n) : aheadI l n = false := by
  unfold aheadI edge
  have e1 : (n.toNat == l.length) = false := beq_eq_false_iff_ne.2 (by omega)
  have e2 : decide (n.toNat < l.length) = false := decide_eq_false (by omega)
  rw [e1, e2]; simp
theorem aheadI_nat (l : List UInt8) (k : Nat) : aheadI l k = edge l k := by unfold aheadI; rw [decide_eq_true (by omega)]; simp
theorem aheadI_bounds {l : List UInt8} {n : Int} (h : aheadI l n = true) : 0 ≤ n ∧ n ≤ l.length := by
  by_cases h1 : n < 0
  · rw [aheadI_neg l n h1] at h; cases h
  · by_cases h2 : (l.length : Int) < n
    · rw [aheadI_far l n h2] at h; cases h
    · omega
set_option maxHeartbeats 4000000 in
set_option maxRecDepth 100000 in
theorem ahead_neg (p : Value) (n : Int) (w : World) (h : n < 0) : Calls Tryd.prog 41 #[p, .int .i64 n] w fun e w' => e = .returned (.bool false) ∧ w' = w := by
  go_enter Tryd.func41, Tryd.ntmps41
  go_wp2
  go_ret
  exact ⟨rfl, rfl⟩
set_option maxHeartbeats 4000000 in
set_option maxRecDepth 100000 in
theorem ahead_far {p : Value} {o : Option Tr} {w : World} (h : IsRope w p o) (n : Int) (h0 : ¬ n < 0) (h1 : ((otxt o).length : Int) < n) : Calls Tryd.prog 41 #[p, .int .i64 n] w fun e w' => e = .returned (.bool false) ∧ Below w.heap.size w w' := by
  have HR := Aside0.mk h
  clear h
  go_enter Tryd.func41, Tryd.ntmps41
  go_wp2_with (go_at_call 19; refine (len_rope HR.out).mono ?_; rintro e w1 ⟨rfl, hb1⟩; have BL := Aside0.mk hb1; clear hb1)
  go_ret
  exact ⟨rfl, BL.out⟩
set_option maxHeartbeats 4000000 in
set_option maxRecDepth 100000 in
theorem ahead_none {p : Value} {w : World} (k L m : Nat) (hk : k ≤ L) (hL : L ≤ 1000000) (CL : Aside0 (∀ w1, Below w.heap.size w w1 → Calls Tryd.prog 19 #[p] w1 fun e w' => e = .returned (.int .i64 (L : Int)) ∧ Below w1.heap.size w1 w')) (hm : (if (L : Int) < (k : Int) + 1 then (L : Int) else (k : Int) + 1) = m) (CB : Aside0 (∀ w1, Below w.heap.size w w1 → Calls Tryd.prog 49 #[p, .int .i64 k, .int .i64 m] w1 fun e w' => e = .returned (.string ⟨#[]⟩) ∧ Below w1.heap.size w1 w')) :
    Calls Tryd.prog 41 #[p, .int .i64 k] w fun e w' => e = .returned (.bool true) ∧ Below w.heap.size w w' := by
  have W1 : IntKind.i64.wrap ((k : Int) + 1) = (k : Int) + 1 := IntWalk.i64_in _ (by omega)
  have h0 : ¬ (k : Int) < 0 := by omega
  have h1 : ¬ (L : Int) < (k : Int) := by omega
  have BL := Aside0.mk (Below.refl w.heap.size w)
  go_enter Tryd.func41, Tryd.ntmps41
  go_wp2_with (first
    | (go_at_call 19; (with_reducible refine (CL.out _ BL.out).mono ?_); rintro e w1 ⟨rfl, hb1⟩; have BL' := Aside0.mk (below_step BL.out hb1); clear BL hb1; have BL := BL'; clear BL')
    | (go_at_call 49; (with_reducible refine (CB.out _ BL.out).mono ?_); rintro e w1 ⟨rfl, hb1⟩; have BL' := Aside0.mk (below_step BL.out hb1); clear BL hb1; have BL := BL'; clear BL'))
  go_ret
  exact ⟨rfl, BL.out⟩
set_option maxHeartbeats 4000000 in
set_option maxRecDepth 100000 in
theorem ahead_char {p : Value} {w : World} (k L m : Nat) (hk : k ≤ L) (hL : L ≤ 1000000) (CL : Aside0 (∀ w1, Below w.heap.size w w1 → Calls Tryd.prog 19 #[p] w1 fun e w' => e = .returned (.int .i64 (L : Int)) ∧ Below w1.heap.size w1 w')) (hm : (if (L : Int) < (k : Int) + 1 then (L : Int) else (k : Int) + 1) = m) (s : ByteArray) (he : s.toList.isEmpty = false) (hs : 0 < s.size) (CB : Aside0 (∀ w1, Below w.heap.size w w1 → Calls Tryd.prog 49 #[p, .int .i64 k, .int .i64 m] w1 fun e w' => e = .returned (.string s) ∧ Below w1.heap.size w1 w')) :
    Calls Tryd.prog 41 #[p, .int .i64 k] w fun e w' => e = .returned (.bool (decide ((s[0].toNat : Int) < 128) || decide (192 ≤ (s[0].toNat : Int)))) ∧ Below w.heap.size w w' := by
  have W1 : IntKind.i64.wrap ((k : Int) + 1) = (k : Int) + 1 := IntWalk.i64_in _ (by omega)
  have h0 : ¬ (k : Int) < 0 := by omega
  have h1 : ¬ (L : Int) < (k : Int) := by omega
  have BL := Aside0.mk (Below.refl w.heap.size w)
  go_enter Tryd.func41, Tryd.ntmps41
  go_wp2_with (first
    | (go_at_call 19; (with_reducible refine (CL.out _ BL.out).mono ?_); rintro e w1 ⟨rfl, hb1⟩; have BL' := Aside0.mk (below_step BL.out hb1); clear BL hb1; have BL := BL'; clear BL')
    | (go_at_call 49; (with_reducible refine (CB.out _ BL.out).mono ?_); rintro e w1 ⟨rfl, hb1⟩; have BL' := Aside0.mk (below_step BL.out hb1); clear BL hb1; have BL := BL'; clear BL'))
  all_goals (go_ret; exact ⟨rfl, BL.out⟩)

theorem mid_one (l : List UInt8) (k : Nat) (h : k < l.length) : mid l k ((k + 1 : Nat) : Int) = [l.getD k 0] := by
  unfold mid
  rw [Int.toNat_natCast, Int.toNat_natCast, List.drop_take, show k + 1 - k = 1 by omega]
  rw [List.drop_eq_getElem_cons h, List.getD, List.getElem?_eq_getElem h]; rfl
theorem ahead_calls {p : Value} {o : Option Tr} {w : World} (h : IsRope w p o) (hn : (otxt o).length ≤ 1000000) (n : Int) : Calls Tryd.prog 41 #[p, .int .i64 n] w fun e w' => e = .returned (.bool (aheadI (otxt o) n)) ∧ Below w.heap.size w w' := by
  by_cases h0 : n < 0
  · rw [aheadI_neg _ _ h0]
    exact (ahead_neg p n w h0).mono fun e w' ⟨a, b⟩ => ⟨a, b ▸ Below.refl _ _⟩
  · by_cases h1 : ((otxt o).length : Int) < n
    · rw [aheadI_far _ _ h1]; exact ahead_far h n h0 h1
    · obtain ⟨k, rfl⟩ : ∃ k : Nat, n = k := ⟨n.toNat, by omega⟩
      have hk : k ≤ (otxt o).length := by omega
      have CL : Aside0 (∀ w1, Below w.heap.size w w1 → Calls Tryd.prog 19 #[p] w1 fun e w' => e = .returned (.int .i64 ((otxt o).length : Int)) ∧ Below w1.heap.size w1 w') := ⟨fun w1 hb => len_rope (h.below hb)⟩
      rw [aheadI_nat]
      by_cases he : k = (otxt o).length
      · rw [he, edge_end, ← he]
        refine ahead_none k _ k hk hn CL ?_ ⟨fun w1 hb => between_empty (h.below hb) _ _ (Int.le_refl _)⟩
        rw [if_pos (by omega)]; omega
      · have hlt : k < (otxt o).length := by omega
        rw [edge_lt hlt]
        have hm : (if ((otxt o).length : Int) < (k : Int) + 1 then ((otxt o).length : Int) else (k : Int) + 1) = ((k + 1 : Nat) : Int) := by rw [if_neg (by omega)]; omega
        have CB : Aside0 (∀ w1, Below w.heap.size w w1 → Calls Tryd.prog 49 #[p, .int .i64 k, .int .i64 ((k + 1 : Nat) : Int)] w1 fun e w' => e = .returned (.string ⟨#[(otxt o).getD k 0]⟩) ∧ Below w1.heap.size w1 w') := ⟨fun w1 hb => by
          have := between_calls (h.below hb) hn (k : Int) ((k + 1 : Nat) : Int) (by omega) (by omega) (by omega) (by omega)
          rw [mid_one _ k hlt] at this; exact this⟩
        generalize (otxt o).getD k 0 = c at *
        have e0 : (⟨#[c]⟩ : ByteArray).toList.isEmpty = false := by rw [ByteArray.toList_eq]; rfl
        have s0 : 0 < (⟨#[c]⟩ : ByteArray).size := Nat.zero_lt_one
        have g0 : ((⟨#[c]⟩ : ByteArray)[0]'s0) = c := rfl
        have hc := c.toNat_lt
        have ec : (!amid c) = (decide (((⟨#[c]⟩ : ByteArray)[0]'s0).toNat < (128 : Int)) || decide ((192 : Int) ≤ ((⟨#[c]⟩ : ByteArray)[0]'s0).toNat)) := by
          rw [g0]
          unfold amid
          rw [Bool.eq_iff_iff]
          simp only [Bool.not_eq_true', beq_eq_false_iff_ne, Bool.or_eq_true, decide_eq_true_eq]
          omega
        rw [ec]
        exact ahead_char k _ _ hk hn CL hm _ e0 s0 CB
set_option maxHeartbeats 4000000 in
set_option maxRecDepth 100000 in
theorem valid_calls (s : ByteArray) (w : World) (ht : Tb w) (hs : s.size ≤ 9223372036854775807) : Calls Tryd.prog 38 #[.string s] w fun e w' => e = .returned (.bool (validD s.data.toList)) ∧ Below w.heap.size w w' := by
  have CV := Aside0.mk (Tryd.utf8_ValidString s w hs ht.u)
  clear ht hs
  go_enter Tryd.func38, Tryd.ntmps38
  go_wp2_with (go_at_call 60; (with_reducible refine CV.out.mono ?_); rintro e w1 ⟨rfl, hb1⟩; have BL := Aside0.mk hb1; clear hb1)
  go_ret
  exact ⟨rfl, BL.out⟩
theorem IsOpt.shape {w : World} {v : Value} {o : Option Tr} (h : IsOpt w v o) : v = .nilIface ∨ ∃ T b, v = .iface T (.pointer (some ⟨b, 0, none⟩)) := by
  cases o with
  | none => exact .inl h
  | some t =>
    have hp : IsPart w v t := h
    obtain ⟨T, b, _, hv, _⟩ := hp.view
    exact .inr ⟨T, b, hv⟩
/-- What New and Splice come to: a rope of this text. -/
def RopeOf (w : World) (l : List UInt8) (e : Ending) (w' : World) : Prop := ∃ p o, e = .returned (.tuple #[p, .int .i64 0]) ∧ IsRope w' p o ∧ OGood o ∧ otxt o = l ∧ Below w.heap.size w w'
def NoRope (w : World) (n : Int) (e : Ending) (w' : World) : Prop := e = .returned (.tuple #[.pointer none, .int .i64 n]) ∧ Below w.heap.size w w'
set_option maxHeartbeats 4000000 in
set_option maxRecDepth 100000 in
theorem new_long (s : ByteArray) (w : World) (hs : 16384 < s.size) : Calls Tryd.prog 12 #[.string s] w (NoRope w 3) := by
  have h1 : (16384 : Int) < (s.size : Int) := by omega
  clear hs
  go_enter Tryd.func12, Tryd.ntmps12
  go_wp2
  go_ret2
  exact ⟨rfl, Below.refl _ _⟩
set_option maxHeartbeats 4000000 in
set_option maxRecDepth 100000 in
theorem new_bad (s : ByteArray) (w : World) (ht : Tb w) (hs : s.size ≤ 16384) (hv : validD s.data.toList = false) : Calls Tryd.prog 12 #[.string s] w (NoRope w 10) := by
  have h1 : ¬ (16384 : Int) < (s.size : Int) := by omega
  have CV := Aside0.mk (valid_calls s w ht (by omega))
  rw [hv] at CV
  clear hs ht hv
  go_enter Tryd.func12, Tryd.ntmps12
  go_wp2_with (go_at_call 38; (with_reducible refine CV.out.mono ?_); rintro e w1 ⟨rfl, hb1⟩; have BL := Aside0.mk hb1; clear hb1)
  go_ret2
  exact ⟨rfl, BL.out⟩
set_option maxHeartbeats 4000000 in
set_option maxRecDepth 100000 in
theorem new_fine (s : ByteArray) (w : World) (ht : Tb w) (hs : s.size ≤ 16384) (hv : validD s.data.toList = true) : Calls Tryd.prog 12 #[.string s] w (RopeOf w s.data.toList) := by
  have h1 : ¬ (16384 : Int) < (s.size : Int) := by omega
  have CV := Aside0.mk (valid_calls s w ht (by omega))
  have CG : Aside0 (∀ w1, Below w.heap.size w w1 → Calls Tryd.prog 39 #[.string s] w1 (MadeO w1 s.data.toList)) := ⟨fun w1 hb => grow_calls s w1 (ht.below hb) (by omega) hv⟩
  rw [hv] at CV
  clear hs ht hv
  go_enter Tryd.func12, Tryd.ntmps12
  go_wp2_with (first
    | (go_at_call 38; (with_reducible refine CV.out.mono ?_); rintro e w1 ⟨rfl, hb1⟩; have BL := Aside0.mk hb1; clear hb1)
    | (go_at_call 39; (with_reducible refine (CG.out _ BL.out).mono ?_)))
  rintro e w2 ⟨v, o, rfl, hp, hg, hx, hb1⟩
  have BL2 := Aside0.mk (below_step BL.out hb1)
  have HG := Aside0.mk hg
  have HX := Aside0.mk hx
  rcases hp.shape with rfl | ⟨T, b, rfl⟩
  all_goals
    have HP := Aside0.mk hp
    clear hb1 hp hg hx
    go_wp2
    go_ret2
    exact ⟨_, o, rfl, ⟨w2.heap.size, _, rfl, blk_new w2 _, HP.out.below ((Below.refl _ _).alloc (Nat.le_refl _) _)⟩, HG.out, HX.out, below_step BL2.out ((Below.refl _ _).alloc (Nat.le_refl _) _)⟩
end Go.Proofs.YtobhfpepclepdaaDoor
