/- Plain laws: where a text of whole characters may be cut, and what its pieces have. -/
import Derived.Test.YtobhfpepclepdaaDoorUtf
namespace Go.Proofs.YtobhfpepclepdaaDoor
open Go.Lib
set_option linter.unusedVariables false
/-- A byte amid a character. -/
def amid (c : UInt8) : Bool := c.toNat / 64 == 2
/-- A place ahead of a character, or at the end. -/
def edge (l : List UInt8) (k : Nat) : Bool := k == l.length || (k < l.length && !amid (l.getD k 0))
theorem edge_zero (l : List UInt8) (h : validD l = true) : edge l 0 = true := by
  by_cases hne : l = []
  · subst hne; rfl
  · obtain ⟨hb, _⟩ := not_bad hne h
    have hl : 0 < l.length := List.length_pos_iff.2 hne
    unfold bad at hb
    rw [decodeL_N] at hb
    unfold edge amid
    have : ¬ ((l.getD 0 0).toNat / 64 = 2) := by
      intro h2
      rcases decodeN_shape l.length (l.getD 0 0).toNat (l.getD 1 0).toNat (l.getD 2 0).toNat (l.getD 3 0).toNat with ⟨c, e⟩ | ⟨c1, c2, c3, c4, e⟩ | ⟨c1, c2, c3, c4, c5, c6, e⟩ | ⟨c1, c2, c3, c4, c5, c6, c7, e⟩ | e
      · omega
      · omega
      · omega
      · omega
      · rw [e] at hb; exact hb ⟨rfl, rfl⟩
    rw [decide_eq_true hl, beq_eq_false_iff_ne.2 this]; simp
theorem edge_lt {l : List UInt8} {k : Nat} (h : k < l.length) : edge l k = !amid (l.getD k 0) := by
  unfold edge
  rw [decide_eq_true h, show (k == l.length) = false from beq_eq_false_iff_ne.2 (by omega)]; simp
theorem edge_end (l : List UInt8) : edge l l.length = true := by simp [edge]
/-- Within the first character no place is an edge; and what it is made of. -/
theorem first_amid {l : List UInt8} (hne : l ≠ []) (hb : ¬ bad l) : ∀ k, 0 < k → k < (decodeL l).2 → amid (l.getD k 0) = true := by
  intro k h0 hk
  unfold bad at hb
  rw [decodeL_N] at hb hk
  unfold amid
  rcases decodeN_shape l.length (l.getD 0 0).toNat (l.getD 1 0).toNat (l.getD 2 0).toNat (l.getD 3 0).toNat with ⟨c, e⟩ | ⟨c1, c2, c3, c4, e⟩ | ⟨c1, c2, c3, c4, c5, c6, e⟩ | ⟨c1, c2, c3, c4, c5, c6, c7, e⟩ | e
  · rw [e] at hk; dsimp only at hk; omega
  · rw [e] at hk; dsimp only at hk
    obtain rfl : k = 1 := by omega
    rw [beq_iff_eq]; exact c3
  · rw [e] at hk; dsimp only at hk
    have : k = 1 ∨ k = 2 := by omega
    rcases this with rfl | rfl
    · rw [beq_iff_eq]; exact c3
    · rw [beq_iff_eq]; exact c4
  · rw [e] at hk; dsimp only at hk
    have : k = 1 ∨ k = 2 ∨ k = 3 := by omega
    rcases this with rfl | rfl | rfl
    · rw [beq_iff_eq]; exact c3
    · rw [beq_iff_eq]; exact c4
    · rw [beq_iff_eq]; exact c5
  · rw [e] at hb; exact absurd ⟨rfl, rfl⟩ hb
theorem width_le4 (l : List UInt8) : (decodeL l).2 ≤ 4 := by
  rw [decodeL_N]
  rcases decodeN_shape l.length (l.getD 0 0).toNat (l.getD 1 0).toNat (l.getD 2 0).toNat (l.getD 3 0).toNat with ⟨c, e⟩ | ⟨c1, c2, c3, c4, e⟩ | ⟨c1, c2, c3, c4, c5, c6, e⟩ | ⟨c1, c2, c3, c4, c5, c6, c7, e⟩ | e
  all_goals (rw [e]; dsimp only; omega)
/-- The first character by itself. -/
theorem take_char {l : List UInt8} (hne : l ≠ []) (hb : ¬ bad l) : ¬ bad (l.take (decodeL l).2) ∧ decodeL (l.take (decodeL l).2) = decodeL l ∧ l.take (decodeL l).2 ≠ [] := by
  have hw := decodeL_width l
  have hle := decodeL_le l hne
  have key : ∀ n, n = (decodeL l).2 → decodeL (l.take n) = decodeL l := by
    intro n hn
    have hlen : (l.take n).length = n := by rw [List.length_take]; omega
    have hget : ∀ k, k < n → (l.take n).getD k 0 = l.getD k 0 := fun k hk => by simp [List.getD, List.getElem?_take, hk]
    have hl0 : 0 < n := by omega
    unfold bad at hb
    rw [decodeL_N] at hb hn ⊢
    rw [decodeL_N l, hlen, hget 0 hl0]
    rcases decodeN_shape l.length (l.getD 0 0).toNat (l.getD 1 0).toNat (l.getD 2 0).toNat (l.getD 3 0).toNat with ⟨c, e⟩ | ⟨c1, c2, c3, c4, e⟩ | ⟨c1, c2, c3, c4, c5, c6, e⟩ | ⟨c1, c2, c3, c4, c5, c6, c7, e⟩ | e
    · rw [e]; unfold decodeN; rw [if_pos c]
    · rw [e] at hn ⊢
      dsimp only at hn
      rw [hget 1 (by omega)]; unfold decodeN
      rw [if_neg (by omega), if_pos ⟨c1, by omega, c3⟩, if_pos c4]
    · rw [e] at hn ⊢
      dsimp only at hn
      rw [hget 1 (by omega), hget 2 (by omega)]; unfold decodeN
      rw [if_neg (by omega), if_neg (by omega), if_pos ⟨c1, ⟨by omega, c3⟩, by omega, c4⟩, if_pos (by omega)]
    · rw [e] at hn ⊢
      dsimp only at hn
      rw [hget 1 (by omega), hget 2 (by omega), hget 3 (by omega)]; unfold decodeN
      rw [if_neg (by omega), if_neg (by omega), if_neg (by omega), if_pos ⟨c1, ⟨by omega, c3⟩, ⟨by omega, c4⟩, by omega, c5⟩, if_pos (by omega)]
    · rw [e] at hb; exact absurd ⟨rfl, rfl⟩ hb
  have k1 := key _ rfl
  refine ⟨?_, k1, ?_⟩
  · unfold bad at hb ⊢; rw [k1]; exact hb
  · intro h
    have := congrArg List.length h
    rw [List.length_take] at this
    simp only [List.length_nil] at this
    have hl : 0 < l.length := List.length_pos_iff.2 hne
    omega
theorem valid_char {l : List UInt8} (hne : l ≠ []) (hb : ¬ bad l) : validD (l.take (decodeL l).2) = true := by
  obtain ⟨h1, h2, h3⟩ := take_char hne hb
  rw [validD_step _ h3, if_neg (by unfold bad at h1; exact h1), h2, List.drop_of_length_le (by rw [List.length_take]; omega)]
  rfl
theorem edge_skip {l : List UInt8} {n k : Nat} (hn : n ≤ l.length) (hk : n ≤ k) : edge l k = edge (l.drop n) (k - n) := by
  unfold edge
  rw [List.length_drop]
  have e1 : (k == l.length) = (k - n == l.length - n) := by
    rw [Bool.eq_iff_iff]; simp only [beq_iff_eq]; omega
  have e2 : decide (k < l.length) = decide (k - n < l.length - n) := by
    rw [Bool.eq_iff_iff]; simp only [decide_eq_true_eq]; omega
  have e3 : (l.drop n).getD (k - n) 0 = l.getD k 0 := by
    simp only [List.getD, List.getElem?_drop]
    rw [show n + (k - n) = k by omega]
  rw [e1, e2, e3]
/-- At an edge a text of whole characters is two of them. -/
theorem cut_valid {l : List UInt8} (h : validD l = true) : ∀ k, k ≤ l.length → edge l k = true → validD (l.take k) = true ∧ validD (l.drop k) = true := by
  refine valid_ind (P := fun l => ∀ k, k ≤ l.length → edge l k = true → validD (l.take k) = true ∧ validD (l.drop k) = true) ?_ ?_ l.length l (Nat.le_refl _) h
  · intro k _ _; simp [validD_nil]
  · intro l hne hb hd ih k hk he
    have hw := decodeL_width l
    have hle := decodeL_le l hne
    by_cases h0 : k = 0
    · subst h0
      refine ⟨by simp [validD_nil], ?_⟩
      rw [List.drop_zero, validD_step l hne, if_neg (by unfold bad at hb; exact hb)]; exact hd
    · by_cases hlt : k < (decodeL l).2
      · have ha := first_amid hne hb k (by omega) hlt
        rw [edge_lt (by omega), ha] at he
        simp at he
      · rw [edge_skip hle (by omega)] at he
        obtain ⟨i1, i2⟩ := ih (k - (decodeL l).2) (by rw [List.length_drop]; omega) he
        have e1 : l.take k = l.take (decodeL l).2 ++ (l.drop (decodeL l).2).take (k - (decodeL l).2) := by
          rw [← List.take_add]; congr 1; omega
        refine ⟨?_, ?_⟩
        · rw [e1, valid_app _ _ (valid_char hne hb)]; exact i1
        · rw [List.drop_drop] at i2; rw [show k = (decodeL l).2 + (k - (decodeL l).2) by omega]; exact i2
/-- Of four places in a row one is an edge. -/
theorem near_edge {l : List UInt8} (h : validD l = true) : ∀ k, k ≤ l.length → ∃ j, j ≤ 3 ∧ j ≤ k ∧ edge l (k - j) = true ∧ ∀ i, i < j → edge l (k - i) = false := by
  refine valid_ind (P := fun l => ∀ k, k ≤ l.length → ∃ j, j ≤ 3 ∧ j ≤ k ∧ edge l (k - j) = true ∧ ∀ i, i < j → edge l (k - i) = false) ?_ ?_ l.length l (Nat.le_refl _) h
  · intro k hk
    simp at hk
    subst hk
    exact ⟨0, by omega, by omega, rfl, fun i hi => by omega⟩
  · intro l hne hb hd ih k hk
    have hw := decodeL_width l
    have hle := decodeL_le l hne
    have h4 := width_le4 l
    have hz : edge l 0 = true := edge_zero l (by rw [validD_step l hne, if_neg (by unfold bad at hb; exact hb)]; exact hd)
    by_cases hlt : k < (decodeL l).2
    · refine ⟨k, by omega, Nat.le_refl _, by rw [Nat.sub_self]; exact hz, fun i hi => ?_⟩
      have ha := first_amid hne hb (k - i) (by omega) (by omega)
      rw [edge_lt (by omega), ha]
      rfl
    · obtain ⟨j, j1, j2, j3, j4⟩ := ih (k - (decodeL l).2) (by rw [List.length_drop]; omega)
      refine ⟨j, j1, by omega, ?_, fun i hi => ?_⟩
      · rw [edge_skip hle (by omega), show k - j - (decodeL l).2 = k - (decodeL l).2 - j by omega]; exact j3
      · rw [edge_skip hle (by omega), show k - i - (decodeL l).2 = k - (decodeL l).2 - i by omega]; exact j4 i hi
theorem edge_take {l : List UInt8} {k j : Nat} (hj : j < k) (hk : k ≤ l.length) : edge (l.take k) j = edge l j := by
  unfold edge
  have e : (l.take k).getD j 0 = l.getD j 0 := by simp [List.getD, List.getElem?_take, hj]
  rw [e, List.length_take, Nat.min_eq_left hk]
  have e1 : (j == k) = false := by rw [beq_eq_false_iff_ne]; omega
  have e2 : (j == l.length) = false := by rw [beq_eq_false_iff_ne]; omega
  have e3 : decide (j < k) = true := by simp; omega
  have e4 : decide (j < l.length) = true := by simp; omega
  rw [e1, e2, e3, e4]
end Go.Proofs.YtobhfpepclepdaaDoor
