import Derived.Test.YtobhfpepclepdaaDoorLeaf
import Derived.Lib.SplitLaws
import Derived.Outline
import Derived.Deep.RegionHeld3
namespace Go.Proofs.YtobhfpepclepdaaDoor
open Go.RowKit Go.Proofs.YtobhfpepclepdaaDoorW.PrintWords Go.Proofs.YtobhfpepclepdaaDoorW.PrintLast Go.Proofs.YtobhfpepclepdaaDoorW.PrintMore
open Go.Proofs.YtobhfpepclepdaaDoor.PRope
open Go.Lib (decodeL validD)
set_option linter.unusedVariables false
attribute [local go_sem] fld0 fld1 fld2 fld3 fld4 fld5
/-- How often a text stands in another. -/
@[irreducible] def cnt (s sep : ByteArray) : Nat := Go.Lib.countB s sep
theorem count_calls (s sep : ByteArray) (m : Int) (w : World) (hs : s.size ≤ 1000000) (hm : w.cell? ⟨2, 0, none⟩ = some (.int .i64 m)) (h1 : 1 ≤ sep.size) :
    Calls Tryd.prog 71 #[.string s, .string sep] w fun e w' => e = .returned (.int .i64 (cnt s sep)) ∧ w' = w := by
  unfold cnt
  exact Tryd.strings_Count_any s sep m w (by omega) hm h1
theorem first_eq (s : ByteArray) (h : 0 < s.size) : ((s[0].toNat : Int) == 10) = begins s.data.toList := by
  have e : s[0] = s.data.toList[0]'(by rw [Array.length_toList]; exact h) := rfl
  rw [e]
  unfold begins
  rw [List.head?_eq_getElem?, List.getElem?_eq_getElem (by rw [Array.length_toList]; exact h)]
  rw [Bool.eq_iff_iff]
  simp only [beq_iff_eq, Option.some.injEq]
  constructor
  · intro h; exact UInt8.toNat_inj.1 (by rw [show (10 : UInt8).toNat = 10 from rfl]; omega)
  · intro h; rw [h]; rfl
theorem last_eq (s : ByteArray) (h : 0 < s.size) (h' : s.size - 1 < s.size) : ((s[s.size - 1].toNat : Int) == 13) = closes s.data.toList := by
  have e : s[s.size - 1] = s.data.toList[s.size - 1]'(by rw [Array.length_toList]; exact h') := rfl
  rw [e]
  unfold closes
  rw [List.getLast?_eq_getElem?]
  have e2 : s.data.toList.length - 1 = s.size - 1 := by rw [Array.length_toList]; rfl
  rw [e2, List.getElem?_eq_getElem (by rw [Array.length_toList]; exact h')]
  rw [Bool.eq_iff_iff]
  simp only [beq_iff_eq, Option.some.injEq]
  constructor
  · intro h; exact UInt8.toNat_inj.1 (by rw [show (13 : UInt8).toNat = 13 from rfl]; omega)
  · intro h; rw [h]; rfl
/-- \r\n's. -/
def crlf : List UInt8 → Nat
  | [] => 0
  | c :: r => (if c = 13 ∧ r.head? = some 10 then 1 else 0) + crlf r
theorem counts_plain : ∀ l : List UInt8, l.count 10 + l.count 13 = ends l + crlf l
  | [] => rfl
  | c :: r => by
    have ih := counts_plain r
    rw [List.count_cons, List.count_cons]
    unfold ends crlf
    by_cases h1 : c = 10
    · subst h1; simp; omega
    · by_cases h2 : c = 13
      · subst h2
        by_cases h3 : r.head? = some 10
        · simp [h3]; omega
        · simp [h3]; omega
      · simp [h1, h2]; omega
theorem count_skip (b : UInt8) (l sub : List UInt8) (hs : sub ≠ []) (h : sub.isPrefixOf (b :: l) = false) : Go.Lib.count (b :: l) sub = Go.Lib.count l sub := by
  have e : Go.Lib.index (b :: l) sub = if Go.Lib.index l sub == -1 then -1 else Go.Lib.index l sub + 1 := by
    conv => lhs; unfold Go.Lib.index
    rw [h]; rfl
  by_cases hm : Go.Lib.index l sub = -1
  · rw [Go.Lib.count_miss hm, Go.Lib.count_miss (by rw [e, hm]; rfl)]
  · have hg := Go.Lib.index_ge l sub
    obtain ⟨i, hi⟩ : ∃ i : Nat, Go.Lib.index l sub = i := ⟨(Go.Lib.index l sub).toNat, by omega⟩
    have e2 : Go.Lib.index (b :: l) sub = ((i + 1 : Nat) : Int) := by rw [e, hi, if_neg (by simp only [beq_iff_eq]; omega)]; rfl
    rw [Go.Lib.count_hit hs hi, Go.Lib.count_hit hs e2]
    rw [show i + 1 + sub.length = (i + sub.length) + 1 by omega, List.drop_succ_cons]
theorem crlf_count : ∀ (n : Nat) (l : List UInt8), l.length ≤ n → crlf l = Go.Lib.count l [13, 10]
  | _, [], _ => rfl
  | 0, c :: r, h => by simp at h
  | n + 1, [c], h => by
    rw [count_skip c [] _ (by simp) (by simp [List.isPrefixOf])]
    simp [crlf]; rfl
  | n + 1, c :: d :: r, h => by
    simp only [List.length_cons] at h
    by_cases hc : c = 13 ∧ d = 10
    · obtain ⟨rfl, rfl⟩ := hc
      have e : Go.Lib.index (13 :: 10 :: r) [13, 10] = ((0 : Nat) : Int) := by unfold Go.Lib.index; rfl
      rw [Go.Lib.count_hit (by simp) e]
      have ih := crlf_count n r (by omega)
      simp [crlf, ih]
    · rw [count_skip c (d :: r) _ (by simp) (by simp [List.isPrefixOf]; intro h1; exact fun h2 => hc ⟨h1.symm, h2.symm⟩)]
      have ih := crlf_count n (d :: r) (by simp; omega)
      rw [← ih]
      conv => lhs; unfold crlf
      rw [if_neg (fun h => hc ⟨h.1, by simpa using h.2⟩), Nat.zero_add]
theorem counts_ends (s : ByteArray) : cnt s ⟨#[10]⟩ + cnt s ⟨#[13]⟩ = ends s.data.toList + cnt s ⟨#[13, 10]⟩ := by
  unfold cnt
  show Go.Lib.count s.data.toList [10] + Go.Lib.count s.data.toList [13] = _ + Go.Lib.count s.data.toList [13, 10]
  rw [Go.Lib.count_one, Go.Lib.count_one, ← crlf_count _ _ (Nat.le_refl _)]
  exact counts_plain _
theorem cnt_one_le (s : ByteArray) (c : UInt8) : cnt s ⟨#[c]⟩ ≤ s.size := by
  unfold cnt
  show Go.Lib.count s.data.toList [c] ≤ _
  rw [Go.Lib.count_one]
  have := List.count_le_length (a := c) (l := s.data.toList)
  rw [Array.length_toList] at this
  exact this
set_option maxHeartbeats 2000000 in
set_option maxRecDepth 100000 in
theorem leaf_calls (s : ByteArray) (w : World) (hs : s.size ≤ 1000000) (h0 : 0 < s.size) (m : Int) (hm : w.cell? ⟨2, 0, none⟩ = some (.int .i64 m)) :
    Calls Tryd.prog 61 #[.string s] w fun e w' => ∃ v, e = .returned v ∧ IsPart w' v (.leaf s) ∧ Below w.heap.size w w' := by
  have HM := Aside0.mk hm
  clear hm
  have h0i : (0 : Int) < (s.size : Int) := by omega
  have he : s.toList.isEmpty = false := by
    cases h : s.toList with
    | nil => exfalso; rw [ByteArray.toList_eq] at h; have := congrArg List.length h; simp at this; rw [this] at h0; simp at h0
    | cons c r => rfl
  have HN := Aside0.mk (counts_ends s)
  have hb1 : cnt s ⟨#[10]⟩ ≤ 1000000 := Nat.le_trans (cnt_one_le s 10) hs
  have hb2 : cnt s ⟨#[13]⟩ ≤ 1000000 := Nat.le_trans (cnt_one_le s 13) hs
  have hb3 : cnt s ⟨#[13, 10]⟩ ≤ cnt s ⟨#[10]⟩ + cnt s ⟨#[13]⟩ := by have := HN.out; omega
  generalize hn1 : cnt s ⟨#[10]⟩ = n1 at HN hb1 hb3
  generalize hn2 : cnt s ⟨#[13]⟩ = n2 at HN hb2 hb3
  generalize hn3 : cnt s ⟨#[13, 10]⟩ = n3 at HN hb3
  go_enter Tryd.func61, Tryd.ntmps61
  go_wp2_with (go_at_call 71; refine (count_calls _ _ m _ (by assumption) HM.out (by decide)).mono ?_; rintro e w1 ⟨rfl, rfl⟩; (try rw [hn1]); (try rw [hn2]); (try rw [hn3]))
  have hbd : Below w1.heap.size w1 w1.drew := ⟨rfl, rfl, rfl, Nat.le_refl _, fun _ _ => rfl⟩
  have hw1 : IntKind.i64.wrap ((s.size : Int) - 1) = (s.size : Int) - 1 := IntWalk.i64_in _ (by omega)
  have hi1 : (0 : Int) ≤ (s.size : Int) - 1 := by omega
  have hi2 : (s.size : Int) - 1 < (s.size : Int) := by omega
  go_region_held3 (fun w2 => Below w1.heap.size w1 w2) (first | assumption | exact Below.alloc (by assumption) (Below.size (by assumption)) _) (first
    | (go_at_call 55; refine (units_calls s _ hs).mono ?_; rintro e w3 ⟨rfl, hb⟩; have hb' := below_step (by assumption) hb; clear hb))
  all_goals (go_wp2; go_ret; refine ⟨_, rfl, ⟨w3.heap.size, rfl, ?_⟩, by assumption⟩)
  all_goals
    have e1 : (n1 : Int) + n2 - n3 = cE (.leaf s) := by have := HN.out; show _ = ((ends s.data.toList : Nat) : Int); omega
    rw [first_eq s h0, last_eq s h0 (by omega), e1]
    exact blk_new w3 _
end Go.Proofs.YtobhfpepclepdaaDoor
