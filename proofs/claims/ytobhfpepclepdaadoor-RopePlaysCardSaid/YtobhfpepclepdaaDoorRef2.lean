/- The document's answers of layers 1, 2 and 9, as plain functions on lists of bytes. -/
import Derived.Test.YtobhfpepclepdaaDoorRef1
import Derived.Test.YtobhfpepclepdaaDoorAhead
namespace Go.Proofs.YtobhfpepclepdaaDoor
open Go.RowKit Go.Proofs.YtobhfpepclepdaaDoorW.PrintWords Go.Proofs.YtobhfpepclepdaaDoorW.PrintLast Go.Proofs.YtobhfpepclepdaaDoorW.PrintMore
open Go.Proofs.YtobhfpepclepdaaDoor.PRope
open Go.Lib
set_option linter.unusedVariables false
theorem drop_ne {l : List UInt8} {p : Nat} (h : p < l.length) : l.drop p ≠ [] := by
  intro e
  have := congrArg List.length e
  rw [List.length_drop] at this
  simp at this
  omega
theorem pk_bad {d : Nat × Nat} (h : d.1 = 65533 ∧ d.2 = 1) : pk d = (0, 0, false) := by unfold pk; rw [if_pos h]
theorem pk_ok {d : Nat × Nat} (h : ¬ (d.1 = 65533 ∧ d.2 = 1)) : pk d = ((d.1 : Int), (d.2 : Int), true) := by unfold pk; rw [if_neg h]
/-! ### Valid -/
theorem rvalid_step (k : Nat) (x0 : ByteArray) (x3 : Int) : glossatorref01_Valid.l0 (k + 1) x0 x3 = if x3 < (x0.size : Int) then ((glossatorref01_Next.f k x0 x3).bind fun bt115 => (if bt115.2.2 = true then (glossatorref01_Valid.l0 k x0 (wrap64 (x3 + bt115.2.1))) else (some false))) else (some true) := by simp only [glossatorref01_Valid.l0]
theorem rvalid_l0 (s : ByteArray) (hs : s.size ≤ 140737488351232) : ∀ (d p : Nat), p ≤ s.size → s.size - p ≤ d → ∀ k, d + 11 ≤ k → glossatorref01_Valid.l0 k s p = some (validD (s.data.toList.drop p)) := by
  intro d
  induction d with
  | zero =>
    intro p hp hd k hk
    obtain ⟨k, rfl⟩ : ∃ m, k = m + 1 := ⟨k - 1, by omega⟩
    rw [rvalid_step, if_neg (by omega), List.drop_of_length_le (by rw [len_size]; omega)]
    rfl
  | succ d ih =>
    intro p hp hd k hk
    obtain ⟨k, rfl⟩ : ∃ m, k = m + 1 := ⟨k - 1, by omega⟩
    by_cases h : p < s.size
    · have hne : s.data.toList.drop p ≠ [] := drop_ne (by rw [len_size]; exact h)
      have hw := decodeL_width (s.data.toList.drop p)
      have hle := decodeL_le _ hne
      rw [List.length_drop, len_size] at hle
      rw [rvalid_step, if_pos (by omega), next_at s p h hs k (by omega)]
      unfold nxI
      simp only [Option.bind_some]
      rw [validD_step _ hne]
      by_cases hb : (decodeL (s.data.toList.drop p)).1 = 65533 ∧ (decodeL (s.data.toList.drop p)).2 = 1
      · rw [pk_bad hb, if_pos hb]; rfl
      · rw [pk_ok hb, if_neg hb, if_pos rfl]
        dsimp only
        generalize (decodeL (s.data.toList.drop p)).2 = c at *
        rw [w64 (by omega) (by omega), show (p : Int) + (c : Int) = ((p + c : Nat) : Int) by omega, ih (p + c) (by omega) (by omega) k (by omega), List.drop_drop]
    · rw [rvalid_step, if_neg (by omega), List.drop_of_length_le (by rw [len_size]; omega)]
      rfl
theorem rvalid (s : ByteArray) (hs : s.size ≤ 140737488351232) (k : Nat) (hk : s.size + 11 ≤ k) : glossatorref01_Valid.f k s = some (validD s.data.toList) := by
  have := rvalid_l0 s hs s.size 0 (by omega) (by omega) k hk
  rw [List.drop_zero] at this
  exact this
/-! ### step, Units -/
theorem rstep (s : ByteArray) (p : Nat) (hp : p < s.size) (hs : s.size ≤ 140737488351232) (k : Nat) (hk : 10 ≤ k) : glossatorref01_step.f k s p = some (((decodeL (s.data.toList.drop p)).2 : Int), (uo (decodeL (s.data.toList.drop p)).1 : Int)) := by
  unfold glossatorref01_step.f
  rw [next_at s p hp hs k hk]
  unfold nxI
  simp only [Option.bind_some]
  by_cases hb : (decodeL (s.data.toList.drop p)).1 = 65533 ∧ (decodeL (s.data.toList.drop p)).2 = 1
  · rw [pk_bad hb, hb.1, hb.2]; rfl
  · rw [pk_ok hb, if_pos rfl]
    unfold uo
    by_cases h6 : 65536 ≤ (decodeL (s.data.toList.drop p)).1
    · rw [if_pos (by omega), if_pos h6]; rfl
    · rw [if_neg (by omega), if_neg h6]; rfl
theorem runits_step (k : Nat) (x0 : ByteArray) (x3 x4 : Int) : glossatorref01_Units.l0 (k + 1) x0 x3 x4 = if x3 < (x0.size : Int) then ((glossatorref01_step.f k x0 x3).bind fun bt126 => (glossatorref01_Units.l0 k x0 (wrap64 (x3 + bt126.1)) (wrap64 (x4 + bt126.2)))) else (some x4) := by simp only [glossatorref01_Units.l0]
theorem uo_units (l : List UInt8) (hne : l ≠ []) : units l = uo (decodeL l).1 + units (l.drop (decodeL l).2) := units_step l hne
theorem runits_l0 (s : ByteArray) (hs : s.size ≤ 140737488351232) : ∀ (d p a : Nat), p ≤ s.size → s.size - p ≤ d → a ≤ 2 * p → ∀ k, d + 11 ≤ k → glossatorref01_Units.l0 k s p a = some ((a + units (s.data.toList.drop p) : Nat) : Int) := by
  intro d
  induction d with
  | zero =>
    intro p a hp hd ha k hk
    obtain ⟨k, rfl⟩ : ∃ m, k = m + 1 := ⟨k - 1, by omega⟩
    rw [runits_step, if_neg (by omega), List.drop_of_length_le (by rw [len_size]; omega)]
    rfl
  | succ d ih =>
    intro p a hp hd ha k hk
    obtain ⟨k, rfl⟩ : ∃ m, k = m + 1 := ⟨k - 1, by omega⟩
    by_cases h : p < s.size
    · have hne : s.data.toList.drop p ≠ [] := drop_ne (by rw [len_size]; exact h)
      have hw := decodeL_width (s.data.toList.drop p)
      have hle := decodeL_le _ hne
      rw [List.length_drop, len_size] at hle
      rw [runits_step, if_pos (by omega), rstep s p h hs k (by omega), uo_units _ hne]
      simp only [Option.bind_some]
      have hu := uo_le (decodeL (s.data.toList.drop p)).1
      generalize uo (decodeL (s.data.toList.drop p)).1 = u at *
      generalize (decodeL (s.data.toList.drop p)).2 = c at *
      rw [w64 (n := (p : Int) + (c : Int)) (by omega) (by omega), w64 (n := (a : Int) + (u : Int)) (by omega) (by omega), show (p : Int) + (c : Int) = ((p + c : Nat) : Int) by omega, show (a : Int) + (u : Int) = ((a + u : Nat) : Int) by omega, ih (p + c) (a + u) (by omega) (by omega) (by omega) k (by omega), List.drop_drop, Nat.add_assoc]
    · rw [runits_step, if_neg (by omega), List.drop_of_length_le (by rw [len_size]; omega)]
      rfl
theorem runits (s : ByteArray) (hs : s.size ≤ 140737488351232) (k : Nat) (hk : s.size + 11 ≤ k) : glossatorref01_Units.f k s = some (units s.data.toList : Int) := by
  have := runits_l0 s hs s.size 0 0 (by omega) (by omega) (by omega) k hk
  rw [List.drop_zero, Nat.zero_add] at this
  exact this
/-! ### New, Ahead, may, Splice -/
theorem rnew (s : ByteArray) (hs : s.size ≤ 140737488351232) (k : Nat) (hk : s.size + 11 ≤ k) : glossatorref09_New.f k s = some (if 16384 < s.size then (⟨#[]⟩, 3) else if validD s.data.toList = true then (s, 0) else (⟨#[]⟩, 10)) := by
  unfold glossatorref09_New.f
  by_cases h : 16384 < s.size
  · rw [if_pos (by omega), if_pos h]
  · rw [if_neg (by omega), if_neg h, rvalid s hs k hk]
    simp only [Option.bind_some]
    by_cases hv : validD s.data.toList = true
    · rw [if_pos hv, if_pos hv]
    · rw [if_neg hv, if_neg hv]
theorem rahead (s : ByteArray) (n : Int) : glossatorref09_Ahead.f s n = some (aheadI s.data.toList n) := by
  unfold glossatorref09_Ahead.f
  by_cases h0 : 0 ≤ n
  · rw [if_pos (by omega)]
    by_cases h1 : n ≤ (s.size : Int)
    · obtain ⟨k, rfl⟩ : ∃ k : Nat, n = k := ⟨n.toNat, by omega⟩
      rw [if_pos h1, aheadI_nat]
      by_cases h2 : (k : Int) = (s.size : Int)
      · rw [if_pos h2, show k = s.data.toList.length by rw [len_size]; omega, edge_end]
      · rw [if_neg h2, if_pos h0, if_pos (by omega), edge_lt (by rw [len_size]; omega), bt_getD]
        congr 1
        unfold amid
        generalize s.data.toList.getD k 0 = c
        have hc := c.toNat_lt
        generalize c.toNat = b at *
        rw [Int.tdiv_eq_ediv_of_nonneg (by omega)]
        rw [Bool.eq_iff_iff]
        simp only [bne_iff_ne, ne_eq, Bool.not_eq_true', beq_eq_false_iff_ne]
        omega
    · rw [if_neg h1, aheadI_far _ _ (by rw [len_size]; omega)]
  · rw [if_neg (by omega), aheadI_neg _ _ (by omega)]
theorem rmay (s : ByteArray) (f t : Int) : glossatorref09_may.f s f t = some (decide (f ≤ t) && (aheadI s.data.toList f && aheadI s.data.toList t)) := by
  unfold glossatorref09_may.f
  by_cases h : f ≤ t
  · rw [if_pos h, rahead, rahead, decide_eq_true h]
    simp only [Option.bind_some, Bool.true_and]
    cases aheadI s.data.toList f <;> simp
  · rw [if_neg h, decide_eq_false h]; rfl
/-- What the reference's Splice tells. -/
def spl (s : ByteArray) (f t : Int) (x : ByteArray) : ByteArray × Int :=
  if (decide (f ≤ t) && (aheadI s.data.toList f && aheadI s.data.toList t)) = true then
    if validD x.data.toList = true then
      if 16384 < (s.size : Int) - (t - f) + x.size then (s, 3) else ((s.extract 0 f.toNat ++ x) ++ s.extract t.toNat s.size, 0)
    else (s, 10)
  else (s, 90)
theorem rsplice (s : ByteArray) (f t : Int) (x : ByteArray) (hs : s.size ≤ 1000000) (hx : x.size ≤ 1000000) (k : Nat) (hk : x.size + 11 ≤ k) : glossatorref09_Splice.f k s f t x = some (spl s f t x) := by
  unfold glossatorref09_Splice.f spl
  rw [rmay]
  simp only [Option.bind_some]
  by_cases hm : (decide (f ≤ t) && (aheadI s.data.toList f && aheadI s.data.toList t)) = true
  · rw [if_pos hm, if_pos hm, rvalid x (by omega) k hk]
    simp only [Option.bind_some]
    simp only [Bool.and_eq_true, decide_eq_true_eq] at hm
    obtain ⟨h1, h2, h3⟩ := hm
    obtain ⟨f0, f1⟩ := aheadI_bounds h2
    obtain ⟨t0, t1⟩ := aheadI_bounds h3
    rw [len_size] at f1 t1
    by_cases hv : validD x.data.toList = true
    · rw [if_pos hv, if_pos hv, w64 (n := (s.size : Int) - t) (by omega) (by omega), w64 (n := (s.size : Int) - t + f) (by omega) (by omega), w64 (by omega) (by omega)]
      by_cases hl : 16384 < (s.size : Int) - (t - f) + x.size
      · rw [if_pos (by omega), if_pos hl]
      · have e1 : (s.extract 0 f.toNat).size ≤ 1000000 := by rw [ext_take_size _ _ (by omega)]; omega
        have e2 : (s.extract t.toNat s.size).size ≤ 1000000 := by rw [ext_drop_size]; omega
        have e3 : ((s.extract 0 f.toNat) ++ x).size = (s.extract 0 f.toNat).size + x.size := ByteArray.size_append
        rw [if_neg (by omega), if_neg hl, if_pos f0, if_pos f1, if_pos (by omega), if_pos t0, if_pos t1, if_pos (by omega)]
    · rw [if_neg hv, if_neg hv]
  · rw [if_neg hm, if_neg hm]
end Go.Proofs.YtobhfpepclepdaaDoor
