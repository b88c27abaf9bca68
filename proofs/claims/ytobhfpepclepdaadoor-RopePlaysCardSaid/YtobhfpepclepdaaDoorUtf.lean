/- Plain laws on UTF-8 texts, units and ends of lines: what a text put together has. -/
import Derived.Lib.ValidLaws
import Derived.Lib.MapLaws
namespace Go.Proofs.YtobhfpepclepdaaDoor
open Go.Lib
set_option linter.unusedVariables false

/-- Units of UTF-16. -/
def unitsF : Nat → List UInt8 → Nat
  | 0, _ => 0
  | n + 1, l => if l = [] then 0 else (if 65536 ≤ (decodeL l).1 then 2 else 1) + unitsF n (l.drop (decodeL l).2)
def units (l : List UInt8) : Nat := unitsF l.length l
/-- Ends of lines: 10, and 13 without a 10 behind it. -/
def ends : List UInt8 → Nat
  | [] => 0
  | c :: r => (if c = 10 ∨ (c = 13 ∧ r.head? ≠ some 10) then 1 else 0) + ends r
def begins (l : List UInt8) : Bool := l.head? == some 10
def closes (l : List UInt8) : Bool := l.getLast? == some 13
/-- No character begins a text. -/
def bad (l : List UInt8) : Prop := (decodeL l).1 = 65533 ∧ (decodeL l).2 = 1

theorem unitsF_fuel : ∀ (n m : Nat) (l : List UInt8), l.length ≤ n → l.length ≤ m → unitsF n l = unitsF m l
  | 0, m, l, hn, _ => by
    obtain rfl : l = [] := List.eq_nil_of_length_eq_zero (by omega)
    cases m <;> simp [unitsF]
  | n + 1, 0, l, _, hm => by
    obtain rfl : l = [] := List.eq_nil_of_length_eq_zero (by omega)
    simp [unitsF]
  | n + 1, m + 1, l, hn, hm => by
    unfold unitsF
    by_cases hne : l = []
    · rw [if_pos hne, if_pos hne]
    · have hw := decodeL_width l
      have hl : 0 < l.length := List.length_pos_iff.2 hne
      rw [if_neg hne, if_neg hne, unitsF_fuel n m (l.drop (decodeL l).2) (by rw [List.length_drop]; omega) (by rw [List.length_drop]; omega)]
theorem units_nil : units [] = 0 := rfl
theorem units_step (l : List UInt8) (hne : l ≠ []) : units l = (if 65536 ≤ (decodeL l).1 then 2 else 1) + units (l.drop (decodeL l).2) := by
  have hl : 0 < l.length := List.length_pos_iff.2 hne
  have hw := decodeL_width l
  obtain ⟨n, hn⟩ : ∃ n, l.length = n + 1 := ⟨l.length - 1, by omega⟩
  unfold units
  rw [hn]
  show (if l = [] then 0 else _) = _
  rw [if_neg hne, unitsF_fuel n (l.drop (decodeL l).2).length _ (by rw [List.length_drop]; omega) (Nat.le_refl _)]
theorem getD_app (a b : List UInt8) (k : Nat) (h : k < a.length) : (a ++ b).getD k 0 = a.getD k 0 := by
  simp [List.getD, List.getElem?_append_left h]
/-- A character that begins a text begins it still with more behind it. -/
theorem decodeL_app (a b : List UInt8) (ha : a ≠ []) (hv : ¬ bad a) : decodeL (a ++ b) = decodeL a := by
  have hl : 0 < a.length := List.length_pos_iff.2 ha
  unfold bad at hv
  rw [decodeL_N] at hv
  rw [decodeL_N a, decodeL_N (a ++ b), List.length_append, getD_app a b 0 hl]
  rcases decodeN_shape a.length (a.getD 0 0).toNat (a.getD 1 0).toNat (a.getD 2 0).toNat (a.getD 3 0).toNat with ⟨c, e⟩ | ⟨c1, c2, c3, c4, e⟩ | ⟨c1, c2, c3, c4, c5, c6, e⟩ | ⟨c1, c2, c3, c4, c5, c6, c7, e⟩ | e
  · rw [e]; unfold decodeN; rw [if_pos c]
  · rw [e, getD_app a b 1 c2]; unfold decodeN
    rw [if_neg (by omega), if_pos ⟨c1, by omega, c3⟩, if_pos c4]
  · rw [e, getD_app a b 1 (by omega), getD_app a b 2 c2]; unfold decodeN
    rw [if_neg (by omega), if_neg (by omega), if_pos ⟨c1, ⟨by omega, c3⟩, by omega, c4⟩, if_pos (by omega)]
  · rw [e, getD_app a b 1 (by omega), getD_app a b 2 (by omega), getD_app a b 3 c2]; unfold decodeN
    rw [if_neg (by omega), if_neg (by omega), if_neg (by omega), if_pos ⟨c1, ⟨by omega, c3⟩, ⟨by omega, c4⟩, by omega, c5⟩, if_pos (by omega)]
  · rw [e] at hv; exact absurd ⟨rfl, rfl⟩ hv
theorem not_bad {l : List UInt8} (hne : l ≠ []) (h : validD l = true) : ¬ bad l ∧ validD (l.drop (decodeL l).2) = true := by
  rw [validD_step l hne] at h
  by_cases hb : (decodeL l).1 = 65533 ∧ (decodeL l).2 = 1
  · rw [if_pos hb] at h; cases h
  · rw [if_neg hb] at h; exact ⟨hb, h⟩
/-- Texts of whole characters: one by one. -/
theorem valid_ind {P : List UInt8 → Prop} (h0 : P []) (h1 : ∀ l, l ≠ [] → ¬ bad l → validD (l.drop (decodeL l).2) = true → P (l.drop (decodeL l).2) → P l) : ∀ (n : Nat) (l : List UInt8), l.length ≤ n → validD l = true → P l
  | 0, l, hn, _ => by
    obtain rfl : l = [] := List.eq_nil_of_length_eq_zero (by omega)
    exact h0
  | n + 1, l, hn, hv => by
    by_cases hne : l = []
    · subst hne; exact h0
    · obtain ⟨hb, hd⟩ := not_bad hne hv
      have hw := decodeL_width l
      have hl : 0 < l.length := List.length_pos_iff.2 hne
      exact h1 l hne hb hd (valid_ind h0 h1 n _ (by rw [List.length_drop]; omega) hd)
theorem drop_app {a b : List UInt8} (ha : a ≠ []) : (a ++ b).drop (decodeL a).2 = a.drop (decodeL a).2 ++ b := by
  rw [List.drop_append_of_le_length (decodeL_le a ha)]
theorem valid_app (a b : List UInt8) (ha : validD a = true) : validD (a ++ b) = validD b := by
  refine valid_ind (P := fun a => validD (a ++ b) = validD b) rfl ?_ a.length a (Nat.le_refl _) ha
  intro l hne hb hd ih
  rw [validD_step (l ++ b) (by simp [hne]), decodeL_app l b hne hb, if_neg (show ¬ ((decodeL l).1 = 65533 ∧ (decodeL l).2 = 1) from hb), drop_app hne]
  exact ih
theorem units_app (a b : List UInt8) (ha : validD a = true) : units (a ++ b) = units a + units b := by
  refine valid_ind (P := fun a => units (a ++ b) = units a + units b) (by simp [units_nil]) ?_ a.length a (Nat.le_refl _) ha
  intro l hne hb hd ih
  rw [units_step (l ++ b) (by simp [hne]), decodeL_app l b hne hb, drop_app hne, ih, units_step l hne]
  omega
theorem units_le : ∀ (n : Nat) (l : List UInt8), l.length ≤ n → units l ≤ l.length
  | 0, l, hn => by
    obtain rfl : l = [] := List.eq_nil_of_length_eq_zero (by omega)
    simp [units_nil]
  | n + 1, l, hn => by
    by_cases hne : l = []
    · subst hne; simp [units_nil]
    · have hw := decodeL_width l
      have hle := decodeL_le l hne
      have hl : 0 < l.length := List.length_pos_iff.2 hne
      have ih := units_le n (l.drop (decodeL l).2) (by rw [List.length_drop]; omega)
      rw [List.length_drop] at ih
      rw [units_step l hne]
      by_cases h2 : 65536 ≤ (decodeL l).1
      · have h3 : 2 ≤ (decodeL l).2 := by
          rw [decodeL_N] at h2 ⊢
          rcases decodeN_shape l.length (l.getD 0 0).toNat (l.getD 1 0).toNat (l.getD 2 0).toNat (l.getD 3 0).toNat with ⟨c, e⟩ | ⟨c1, c2, c3, c4, e⟩ | ⟨c1, c2, c3, c4, c5, c6, e⟩ | ⟨c1, c2, c3, c4, c5, c6, c7, e⟩ | e
          all_goals (rw [e] at h2 ⊢; dsimp only at h2 ⊢; omega)
        rw [if_pos h2]; omega
      · rw [if_neg h2]; omega
theorem ends_le (l : List UInt8) : ends l ≤ l.length := by
  induction l with
  | nil => simp [ends]
  | cons c r ih =>
    unfold ends
    rw [List.length_cons]
    split <;> omega
theorem ends_app : ∀ (a b : List UInt8), ends (a ++ b) + (if closes a = true ∧ begins b = true then 1 else 0) = ends a + ends b
  | [], b => by simp [ends, closes]
  | [c], b => by
    simp only [List.cons_append, List.nil_append, ends, closes, begins, List.head?_nil, List.getLast?_singleton]
    by_cases h1 : c = 10
    · subst h1; simp
    · by_cases h2 : c = 13
      · subst h2
        by_cases h3 : b.head? = some 10
        · simp [h3]; omega
        · simp [h3]
      · simp [h1, h2]
  | c :: d :: r, b => by
    have ih := ends_app (d :: r) b
    have hc : closes (c :: d :: r) = closes (d :: r) := by simp [closes]
    rw [hc]
    have e1 : ends ((c :: d :: r) ++ b) = (if c = 10 ∨ (c = 13 ∧ (some d) ≠ some 10) then 1 else 0) + ends ((d :: r) ++ b) := rfl
    have e2 : ends (c :: d :: r) = (if c = 10 ∨ (c = 13 ∧ (some d) ≠ some 10) then 1 else 0) + ends (d :: r) := rfl
    rw [e1, e2]
    omega
theorem ends_closes {a : List UInt8} (h : closes a = true) : 1 ≤ ends a := by
  have := ends_app a [10]
  have h1 : begins [10] = true := rfl
  rw [if_pos ⟨h, h1⟩] at this
  have h2 : ends ([10] : List UInt8) = 1 := rfl
  have h3 : 1 ≤ ends (a ++ [10]) := by
    clear this h h1 h2
    induction a with
    | nil => simp [ends]
    | cons c r ih =>
      rw [List.cons_append]; unfold ends; omega
  omega
theorem begins_app (a b : List UInt8) (h : a ≠ []) : begins (a ++ b) = begins a := by
  cases a with
  | nil => exact absurd rfl h
  | cons c r => simp [begins]
theorem closes_app (a b : List UInt8) (h : b ≠ []) : closes (a ++ b) = closes b := by
  unfold closes
  rw [List.getLast?_append, List.getLast?_eq_some_getLast h]
  rfl
end Go.Proofs.YtobhfpepclepdaaDoor
