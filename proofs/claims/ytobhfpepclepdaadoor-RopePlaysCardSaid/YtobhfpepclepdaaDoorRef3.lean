/- The document's answers on lines and depth, as plain functions; how deep a balanced tree is. -/
import Derived.Test.YtobhfpepclepdaaDoorRef2
namespace Go.Proofs.YtobhfpepclepdaaDoor
open Go.RowKit Go.Proofs.YtobhfpepclepdaaDoorW.PrintWords Go.Proofs.YtobhfpepclepdaaDoorW.PrintLast Go.Proofs.YtobhfpepclepdaaDoorW.PrintMore
open Go.Proofs.YtobhfpepclepdaaDoor.PRope
open Go.Lib
set_option linter.unusedVariables false
/-! ### ends of lines -/
/-- How many bytes a line's end has that begins a text. -/
def endL (l : List UInt8) : Nat := if l.head? = some 10 then 1 else if l.head? = some 13 then (if l.tail.head? = some 10 then 2 else 1) else 0
/-- The places behind the ends of lines; the text begins at p. -/
def stpF : Nat → Nat → List UInt8 → List Int
  | 0, _, _ => []
  | n + 1, p, l => if l = [] then [] else if endL l = 0 then stpF n (p + 1) l.tail else ((p + endL l : Nat) : Int) :: stpF n (p + endL l) (l.drop (endL l))
def stp (p : Nat) (l : List UInt8) : List Int := stpF l.length p l
theorem ite_le {P : Prop} [Decidable P] {a b n : Nat} (ha : a ≤ n) (hb : b ≤ n) : (if P then a else b) ≤ n := by split <;> assumption
theorem endL_le {l : List UInt8} (h : l ≠ []) : endL l ≤ l.length ∧ endL l ≤ 2 := by
  unfold endL
  cases l with
  | nil => exact absurd rfl h
  | cons c r =>
    cases r with
    | nil =>
      have e : (if ([] : List UInt8).head? = some 10 then 2 else 1) = 1 := rfl
      rw [List.tail_cons, e, List.length_singleton]
      exact ⟨ite_le (Nat.le_refl _) (ite_le (Nat.le_refl _) (by omega)), ite_le (by omega) (ite_le (by omega) (by omega))⟩
    | cons d r =>
      rw [List.length_cons, List.length_cons]
      exact ⟨ite_le (by omega) (ite_le (ite_le (by omega) (by omega)) (by omega)), ite_le (by omega) (ite_le (ite_le (by omega) (by omega)) (by omega))⟩
theorem stpF_fuel : ∀ (n m p : Nat) (l : List UInt8), l.length ≤ n → l.length ≤ m → stpF n p l = stpF m p l
  | 0, m, p, l, hn, _ => by
    obtain rfl : l = [] := List.eq_nil_of_length_eq_zero (by omega)
    cases m <;> simp [stpF]
  | n + 1, 0, p, l, _, hm => by
    obtain rfl : l = [] := List.eq_nil_of_length_eq_zero (by omega)
    simp [stpF]
  | n + 1, m + 1, p, l, hn, hm => by
    unfold stpF
    by_cases hne : l = []
    · rw [if_pos hne, if_pos hne]
    · have hl : 0 < l.length := List.length_pos_iff.2 hne
      rw [if_neg hne, if_neg hne]
      by_cases h0 : endL l = 0
      · rw [if_pos h0, if_pos h0]
        exact stpF_fuel n m _ _ (by rw [List.length_tail]; omega) (by rw [List.length_tail]; omega)
      · rw [if_neg h0, if_neg h0, stpF_fuel n m _ _ (by rw [List.length_drop]; omega) (by rw [List.length_drop]; omega)]
theorem stp_nil (p : Nat) : stp p [] = [] := rfl
theorem stp_step (p : Nat) (l : List UInt8) (h : l ≠ []) : stp p l = if endL l = 0 then stp (p + 1) l.tail else ((p + endL l : Nat) : Int) :: stp (p + endL l) (l.drop (endL l)) := by
  have hl : 0 < l.length := List.length_pos_iff.2 h
  obtain ⟨n, hn⟩ : ∃ n, l.length = n + 1 := ⟨l.length - 1, by omega⟩
  unfold stp
  rw [hn]
  show (if l = [] then [] else _) = _
  rw [if_neg h]
  by_cases h0 : endL l = 0
  · rw [if_pos h0, if_pos h0, stpF_fuel n l.tail.length _ _ (by rw [List.length_tail]; omega) (Nat.le_refl _)]
  · rw [if_neg h0, if_neg h0, stpF_fuel n (l.drop (endL l)).length _ _ (by rw [List.length_drop]; omega) (Nat.le_refl _)]
theorem ends_endL (l : List UInt8) (h : l ≠ []) : ends l = (if endL l = 0 then ends l.tail else 1 + ends (l.drop (endL l))) := by
  cases l with
  | nil => exact absurd rfl h
  | cons c r =>
    unfold endL
    by_cases h1 : c = 10
    · subst h1; simp [ends]
    · by_cases h2 : c = 13
      · subst h2
        cases r with
        | nil => simp [ends]
        | cons d r =>
          by_cases h3 : d = 10
          · subst h3; simp [ends]
          · simp [ends, h3]
      · simp [ends, h1, h2]
theorem stp_length : ∀ (n p : Nat) (l : List UInt8), l.length ≤ n → (stp p l).length = ends l
  | 0, p, l, hn => by
    obtain rfl : l = [] := List.eq_nil_of_length_eq_zero (by omega)
    rfl
  | n + 1, p, l, hn => by
    by_cases h : l = []
    · subst h; rfl
    · rw [stp_step p l h, ends_endL l h]
      have hl : 0 < l.length := List.length_pos_iff.2 h
      by_cases h0 : endL l = 0
      · rw [if_pos h0, if_pos h0]
        exact stp_length n _ _ (by rw [List.length_tail]; omega)
      · rw [if_neg h0, if_neg h0, List.length_cons, stp_length n _ _ (by rw [List.length_drop]; omega)]
        omega
theorem head_drop (l : List UInt8) (p : Nat) (h : p < l.length) : (l.drop p).head? = some (l.getD p 0) := by
  rw [List.head?_drop, List.getD, List.getElem?_eq_getElem h]; rfl
theorem tail_drop (l : List UInt8) (p : Nat) : (l.drop p).tail = l.drop (p + 1) := by rw [List.tail_drop]
theorem rend_j0 (k : Nat) (x0 : ByteArray) (x1 : Int) : glossatorref02_end.j0 (k + 1) x0 x1 false = if 0 ≤ x1 then (if x1 < (x0.size : Int) then (if (bt x0 x1) = 13 then (if (wrap64 (x1 + 1)) < (x0.size : Int) then (if 0 ≤ (wrap64 (x1 + 1)) then (if (bt x0 (wrap64 (x1 + 1))) = 10 then (some 2) else (some 1)) else (none)) else (some 1)) else (some 1)) else (none)) else (none) := by simp only [glossatorref02_end.j0]; rfl
theorem rend (s : ByteArray) (hs : s.size ≤ 140737488351232) (p : Nat) (hp : p < s.size) (k : Nat) (hk : 1 ≤ k) : glossatorref02_end.f k s p = some (endL (s.data.toList.drop p) : Int) := by
  obtain ⟨k, rfl⟩ : ∃ m, k = m + 1 := ⟨k - 1, by omega⟩
  have hl : p < s.data.toList.length := by rw [len_size]; exact hp
  unfold glossatorref02_end.f endL
  rw [if_neg (by omega), if_pos (by omega), if_pos (by omega), head_drop _ _ hl, tail_drop, bt_getD]
  have hc := (s.data.toList.getD p 0).toNat_lt
  have e10 : ∀ c : UInt8, ((c.toNat : Int) = 10 ↔ some c = some 10) := by
    intro c
    rw [Option.some.injEq, ← UInt8.toNat_inj, show (10 : UInt8).toNat = 10 from rfl]
    omega
  have e13' : ∀ c : UInt8, ((c.toNat : Int) = 13 ↔ some c = some 13) := by
    intro c
    rw [Option.some.injEq, ← UInt8.toNat_inj, show (13 : UInt8).toNat = 13 from rfl]
    omega
  by_cases h1 : some (s.data.toList.getD p 0) = some 10
  · rw [if_pos ((e10 _).2 h1), if_pos h1, rend_j0, if_pos (by omega), if_pos (by omega), bt_getD]
    have : ¬ (((s.data.toList.getD p 0).toNat : Int) = 13) := by
      rw [e13', h1]; decide
    rw [if_neg this]; rfl
  · rw [if_neg (fun h => h1 ((e10 _).1 h)), if_neg h1]
    by_cases h2 : some (s.data.toList.getD p 0) = some 13
    · have e13 : (((s.data.toList.getD p 0).toNat : Int) = 13) := (e13' _).2 h2
      have eb : ((((s.data.toList.getD p 0).toNat : Int)) != 13) = false := by rw [e13]; rfl
      rw [eb, rend_j0, if_pos (by omega), if_pos (by omega), bt_getD, if_pos e13, if_pos h2, w64 (by omega) (by omega)]
      by_cases h3 : p + 1 < s.size
      · rw [if_pos (by omega), if_pos (by omega), show (p : Int) + 1 = ((p + 1 : Nat) : Int) by omega, bt_getD, head_drop _ _ (by rw [len_size]; exact h3)]
        by_cases h4 : some (s.data.toList.getD (p + 1) 0) = some 10
        · rw [if_pos ((e10 _).2 h4), if_pos h4]; rfl
        · rw [if_neg (fun h => h4 ((e10 _).1 h)), if_neg h4]; rfl
      · rw [if_neg (by omega), List.drop_of_length_le (l := s.data.toList) (i := p + 1) (by rw [len_size]; omega)]
        rfl
    · have e13 : ¬ (((s.data.toList.getD p 0).toNat : Int) = 13) := fun h => h2 ((e13' _).1 h)
      have eb : ((((s.data.toList.getD p 0).toNat : Int)) != 13) = true := by rw [bne_iff_ne]; exact e13
      rw [eb, if_neg h2]
      simp only [glossatorref02_end.j0]
      rfl
theorem rstarts_step (k : Nat) (x0 : ByteArray) (x3 : List Int) (x4 : Int) : glossatorref02_Starts.l0 (k + 1) x0 x3 x4 = if x4 < (x0.size : Int) then ((glossatorref02_end.f k x0 x4).bind fun t131 => (if t131 > 0 then (if x3.length < 17592186044416 then (glossatorref02_Starts.l0 k x0 (x3 ++ [wrap64 (x4 + t131)]) (wrap64 (x4 + t131))) else (none)) else (glossatorref02_Starts.l0 k x0 x3 (wrap64 (x4 + 1))))) else (some x3) := by simp only [glossatorref02_Starts.l0]
theorem rstarts_l0 (s : ByteArray) (hs : s.size ≤ 1000000) : ∀ (d p : Nat) (a : List Int), p ≤ s.size → s.size - p ≤ d → a.length ≤ p + 1 → ∀ k, d + 2 ≤ k → glossatorref02_Starts.l0 k s a p = some (a ++ stp p (s.data.toList.drop p)) := by
  intro d
  induction d with
  | zero =>
    intro p a hp hd ha k hk
    obtain ⟨k, rfl⟩ : ∃ m, k = m + 1 := ⟨k - 1, by omega⟩
    rw [rstarts_step, if_neg (by omega), List.drop_of_length_le (by rw [len_size]; omega), stp_nil, List.append_nil]
  | succ d ih =>
    intro p a hp hd ha k hk
    obtain ⟨k, rfl⟩ : ∃ m, k = m + 1 := ⟨k - 1, by omega⟩
    by_cases h : p < s.size
    · have hne : s.data.toList.drop p ≠ [] := drop_ne (by rw [len_size]; exact h)
      have hle := endL_le hne
      rw [List.length_drop, len_size] at hle
      rw [rstarts_step, if_pos (by omega), rend s (by omega) p h k (by omega), stp_step p _ hne, tail_drop, List.drop_drop]
      simp only [Option.bind_some]
      generalize endL (s.data.toList.drop p) = e at *
      by_cases h0 : e = 0
      · rw [if_neg (by omega), if_pos h0, w64 (by omega) (by omega), show (p : Int) + 1 = ((p + 1 : Nat) : Int) by omega, ih (p + 1) a (by omega) (by omega) (by omega) k (by omega)]
      · rw [if_pos (by omega), if_neg h0, if_pos (by omega), w64 (by omega) (by omega), show (p : Int) + (e : Int) = ((p + e : Nat) : Int) by omega, ih (p + e) _ (by omega) (by omega) (by rw [List.length_append, List.length_singleton]; omega) k (by omega), List.append_assoc, List.singleton_append]
    · rw [rstarts_step, if_neg (by omega), List.drop_of_length_le (by rw [len_size]; omega), stp_nil, List.append_nil]
/-- Where the lines of a text begin. -/
def starts (l : List UInt8) : List Int := 0 :: stp 0 l
theorem rstarts (s : ByteArray) (hs : s.size ≤ 1000000) (k : Nat) (hk : s.size + 2 ≤ k) : glossatorref02_Starts.f k s = some (starts s.data.toList) := by
  have := rstarts_l0 s hs s.size 0 [0] (by omega) (by omega) (by simp) k hk
  rw [List.drop_zero] at this
  exact this
theorem starts_length (l : List UInt8) : (starts l).length = ends l + 1 := by
  unfold starts
  rw [List.length_cons, stp_length _ _ _ (Nat.le_refl _)]
theorem rbreaks (s : ByteArray) (hs : s.size ≤ 1000000) (k : Nat) (hk : s.size + 2 ≤ k) : glossatorref09_Breaks.f k s = some (ends s.data.toList : Int) := by
  unfold glossatorref09_Breaks.f
  rw [rstarts s hs k hk]
  simp only [Option.bind_some]
  have h1 := ends_le s.data.toList
  rw [len_size] at h1
  rw [starts_length, w64 (by omega) (by omega)]
  congr 1
  omega
/-! ### depth -/
/-- How many digits a number has, in base 2. -/
def dgF : Nat → Nat → Nat
  | 0, _ => 0
  | n + 1, x => if x = 0 then 0 else 1 + dgF n (x / 2)
def dg (x : Nat) : Nat := dgF x x
theorem dgF_fuel : ∀ (n m x : Nat), x ≤ n → x ≤ m → dgF n x = dgF m x
  | 0, m, x, hn, _ => by
    obtain rfl : x = 0 := by omega
    cases m <;> simp [dgF]
  | n + 1, 0, x, _, hm => by
    obtain rfl : x = 0 := by omega
    simp [dgF]
  | n + 1, m + 1, x, hn, hm => by
    unfold dgF
    by_cases h : x = 0
    · rw [if_pos h, if_pos h]
    · rw [if_neg h, if_neg h, dgF_fuel n m (x / 2) (by omega) (by omega)]
theorem dg_zero : dg 0 = 0 := rfl
theorem dg_step (x : Nat) (h : 0 < x) : dg x = 1 + dg (x / 2) := by
  obtain ⟨n, rfl⟩ : ∃ n, x = n + 1 := ⟨x - 1, by omega⟩
  unfold dg
  show (if n + 1 = 0 then 0 else _) = _
  rw [if_neg (by omega), dgF_fuel n ((n + 1) / 2) _ (by omega) (Nat.le_refl _)]
theorem dg_mono : ∀ (n a b : Nat), b ≤ n → a ≤ b → dg a ≤ dg b
  | 0, a, b, hn, h => by
    obtain rfl : a = 0 := by omega
    rw [dg_zero]; omega
  | n + 1, a, b, hn, h => by
    by_cases h0 : a = 0
    · subst h0; rw [dg_zero]; omega
    · rw [dg_step a (by omega), dg_step b (by omega)]
      have := dg_mono n (a / 2) (b / 2) (by omega) (by omega)
      omega
theorem dg_two (a b n : Nat) (ha : 0 < a) (hn : a + b ≤ n) (h : a ≤ b) : 1 + dg a ≤ dg n := by
  rw [dg_step n (by omega)]
  have := dg_mono _ a (n / 2) (Nat.le_refl _) (by omega)
  omega
theorem ht_dg : ∀ (t : Tr), t.Ok → t.Bal → t.ht ≤ 2 * dg t.txt.length
  | .leaf s, o, _ => by
    have h := List.length_pos_iff.2 o.1
    show 1 ≤ 2 * dg s.data.toList.length
    rw [dg_step _ h]
    omega
  | .node l r, o, b => by
    have h1 := ht_dg l o.1 b.1
    have h2 := ht_dg r o.2 b.2.1
    have k1 := b.2.2.1
    have k2 := b.2.2.2
    have p1 := List.length_pos_iff.2 o.1.ne
    have p2 := List.length_pos_iff.2 o.2.ne
    have e : (Tr.node l r).txt.length = l.txt.length + r.txt.length := by rw [Tr.txt_node, List.length_append]
    rw [e]
    show max l.ht r.ht + 1 ≤ _
    by_cases h : l.txt.length ≤ r.txt.length
    · have := dg_two l.txt.length r.txt.length (l.txt.length + r.txt.length) p1 (Nat.le_refl _) h
      omega
    · have := dg_two r.txt.length l.txt.length (l.txt.length + r.txt.length) p2 (by omega) (by omega)
      omega
theorem rmost_step (k : Nat) (x0 x3 : Int) : glossatorref09_Most.l0 (k + 1) x0 x3 = if x0 > 0 then (glossatorref09_Most.l0 k (wrap64 (Int.tdiv x0 2)) (wrap64 (x3 + 1))) else (if x3 = 0 then (some (4 + (2 * 1))) else (some (wrap64 (4 + (wrap64 (2 * x3)))))) := by simp only [glossatorref09_Most.l0]
theorem rmost_l0 : ∀ (d n a : Nat), n ≤ d → n + a ≤ 1000000 → ∀ k, d + 1 ≤ k → glossatorref09_Most.l0 k n a = some (if a + dg n = 0 then 6 else 4 + 2 * ((a + dg n : Nat) : Int)) := by
  intro d
  induction d with
  | zero =>
    intro n a hn ha k hk
    obtain ⟨k, rfl⟩ : ∃ m, k = m + 1 := ⟨k - 1, by omega⟩
    obtain rfl : n = 0 := by omega
    rw [rmost_step, if_neg (by omega), dg_zero, Nat.add_zero]
    by_cases h : a = 0
    · rw [if_pos (by omega), if_pos h]; rfl
    · rw [if_neg (by omega), if_neg h, w64 (n := 2 * (a : Int)) (by omega) (by omega), w64 (by omega) (by omega)]
  | succ d ih =>
    intro n a hn ha k hk
    obtain ⟨k, rfl⟩ : ∃ m, k = m + 1 := ⟨k - 1, by omega⟩
    by_cases h0 : n = 0
    · subst h0
      rw [rmost_step, if_neg (by omega), dg_zero, Nat.add_zero]
      by_cases h : a = 0
      · rw [if_pos (by omega), if_pos h]; rfl
      · rw [if_neg (by omega), if_neg h, w64 (n := 2 * (a : Int)) (by omega) (by omega), w64 (by omega) (by omega)]
    · rw [rmost_step, if_pos (by omega), Int.tdiv_eq_ediv_of_nonneg (by omega), w64 (n := (n : Int) / 2) (by omega) (by omega), w64 (by omega) (by omega), show (n : Int) / 2 = ((n / 2 : Nat) : Int) by omega, show (a : Int) + 1 = ((a + 1 : Nat) : Int) by omega, ih (n / 2) (a + 1) (by omega) (by omega) k (by omega), dg_step n (by omega), show a + 1 + dg (n / 2) = a + (1 + dg (n / 2)) by omega]
/-- How deep a text of so many bytes may be. -/
def mostL (n : Nat) : Int := if dg n = 0 then 6 else 4 + 2 * (dg n : Int)
theorem rmost (n : Nat) (h : n ≤ 1000000) (k : Nat) (hk : n + 1 ≤ k) : glossatorref09_Most.f k n = some (mostL n) := by
  have := rmost_l0 n n 0 (Nat.le_refl _) (by omega) k hk
  rw [Nat.zero_add] at this
  exact this
theorem deep_enough {o : Option Tr} (h : OGood o) : oH o ≤ mostL (otxt o).length ∧ 0 ≤ oH o := by
  cases o with
  | none => decide
  | some t =>
    have := ht_dg t h.1 h.2
    show cH t ≤ mostL t.txt.length ∧ 0 ≤ cH t
    unfold cH mostL
    split <;> omega
/-! ### great -/
theorem great_step (k : Nat) (x1 : List S34) (x5 x6 : Int) : glossatorlaw09_great.l0 (k + 1) x1 x5 x6 = if x6 < (x1.length : Int) then (if 0 ≤ x6 then (glossatorlaw09_great.l0 k x1 (wrap64 (x5 + (((rd_T34 x1 x6).f2).size : Int))) (wrap64 (x6 + 1))) else (none)) else (if x5 > 70000 then (some true) else (some (decide ((x1.length : Int) > 60)))) := by simp only [glossatorlaw09_great.l0]
theorem great_many (l : List S34) (hl : 60 < l.length) (hm : l.length ≤ 140737488351232) : ∀ (d i : Nat) (x : Int), i ≤ l.length → l.length - i ≤ d → ∀ k, d + 1 ≤ k → glossatorlaw09_great.l0 k l x i = some true := by
  intro d
  induction d with
  | zero =>
    intro i x hi hd k hk
    obtain ⟨k, rfl⟩ : ∃ m, k = m + 1 := ⟨k - 1, by omega⟩
    rw [great_step, if_neg (by omega)]
    split
    · rfl
    · rw [decide_eq_true (by omega)]
  | succ d ih =>
    intro i x hi hd k hk
    obtain ⟨k, rfl⟩ : ∃ m, k = m + 1 := ⟨k - 1, by omega⟩
    by_cases h : i < l.length
    · rw [great_step, if_pos (by omega), if_pos (by omega), w64 (n := (i : Int) + 1) (by omega) (by omega), show (i : Int) + 1 = ((i + 1 : Nat) : Int) by omega]
      exact ih (i + 1) _ (by omega) (by omega) k (by omega)
    · rw [great_step, if_neg (by omega)]
      split
      · rfl
      · rw [decide_eq_true (by omega)]
/-- All that is handed in, in bytes. -/
def sumL (l : List S34) : Nat := (l.map (fun x => x.f2.size)).sum
theorem sumL_drop (l : List S34) (i : Nat) (h : i < l.length) : sumL (l.drop i) = (l.getD i z34).f2.size + sumL (l.drop (i + 1)) := by
  unfold sumL
  rw [List.drop_eq_getElem_cons h, List.map_cons, List.sum_cons, List.getD, List.getElem?_eq_getElem h]; rfl
theorem great_few (l : List S34) (hl : l.length ≤ 60) (hb : ∀ x ∈ l, x.f2.size ≤ 140737488351232) : ∀ (d i a : Nat), i ≤ l.length → l.length - i ≤ d → a ≤ (i + 1) * 140737488351232 → ∀ k, d + 1 ≤ k → glossatorlaw09_great.l0 k l a i = some (decide (70000 < a + sumL (l.drop i))) := by
  intro d
  induction d with
  | zero =>
    intro i a hi hd ha k hk
    obtain ⟨k, rfl⟩ : ∃ m, k = m + 1 := ⟨k - 1, by omega⟩
    rw [great_step, if_neg (by omega), List.drop_of_length_le (by omega)]
    show _ = some (decide (70000 < a + 0))
    by_cases h : 70000 < a
    · rw [if_pos (by omega), decide_eq_true (by omega)]
    · rw [if_neg (by omega), decide_eq_false (by omega), decide_eq_false (by omega)]
  | succ d ih =>
    intro i a hi hd ha k hk
    obtain ⟨k, rfl⟩ : ∃ m, k = m + 1 := ⟨k - 1, by omega⟩
    by_cases h : i < l.length
    · have hx : (l.getD i z34).f2.size ≤ 140737488351232 := by
        rw [List.getD, List.getElem?_eq_getElem h]
        exact hb _ (List.getElem_mem h)
      have er : rd_T34 l (i : Int) = l.getD i z34 := by unfold rd_T34; rw [Int.toNat_natCast]
      rw [great_step, if_pos (by omega), if_pos (by omega), er, sumL_drop l i h]
      generalize (l.getD i z34).f2.size = x at *
      rw [w64 (n := (i : Int) + 1) (by omega) (by omega), w64 (by omega) (by omega), show (i : Int) + 1 = ((i + 1 : Nat) : Int) by omega, show (a : Int) + (x : Int) = ((a + x : Nat) : Int) by omega, ih (i + 1) (a + x) (by omega) (by omega) (by omega) k (by omega), Nat.add_assoc]
    · rw [great_step, if_neg (by omega), List.drop_of_length_le (by omega)]
      show _ = some (decide (70000 < a + 0))
      by_cases h : 70000 < a
      · rw [if_pos (by omega), decide_eq_true (by omega)]
      · rw [if_neg (by omega), decide_eq_false (by omega), decide_eq_false (by omega)]
/-- What is great. -/
def greatB (s : ByteArray) (l : List S34) : Bool := decide (60 < l.length) || decide (70000 < s.size + sumL l)
theorem rgreat (s : ByteArray) (l : List S34) (hs : s.size ≤ 140737488351232) (hm : l.length ≤ 140737488351232) (hb : ∀ x ∈ l, x.f2.size ≤ 140737488351232) (k : Nat) (hk : l.length + 1 ≤ k) : glossatorlaw09_great.f k s l = some (greatB s l) := by
  unfold glossatorlaw09_great.f greatB
  by_cases h : 60 < l.length
  · rw [decide_eq_true h]
    exact great_many l h hm l.length 0 _ (by omega) (by omega) k hk
  · rw [decide_eq_false h, Bool.false_or]
    have := great_few l (by omega) hb l.length 0 s.size (by omega) (by omega) (by omega) k hk
    rw [List.drop_zero] at this
    exact this
end Go.Proofs.YtobhfpepclepdaaDoor
