/- Ropes: the counts of two parts put together. -/
import Derived.Test.YtobhfpepclepdaaDoorRope
namespace Go.Proofs.YtobhfpepclepdaaDoor
open Go.RowKit Go.Proofs.YtobhfpepclepdaaDoorW.PrintWords Go.Proofs.YtobhfpepclepdaaDoorW.PrintLast Go.Proofs.YtobhfpepclepdaaDoorW.PrintMore
open Go.Proofs.YtobhfpepclepdaaDoor.PRope
open Go.Lib (decodeL validD)
set_option linter.unusedVariables false


/-! ### sum of two -/
def cN (t : Tr) : S95 := ⟨cB t, cU t, cE t, cH t, begins t.txt, closes t.txt⟩
theorem bounds {t : Tr} (h : t.Ok) (hn : t.txt.length ≤ 1000000) : 1 ≤ cB t ∧ cB t ≤ 1000000 ∧ 0 ≤ cU t ∧ cU t ≤ 1000000 ∧ 0 ≤ cE t ∧ cE t ≤ 1000000 ∧ 1 ≤ cH t ∧ cH t ≤ 1000000 := by
  have h1 := List.length_pos_iff.2 h.ne
  have h2 := units_le _ t.txt (Nat.le_refl _)
  have h3 := ends_le t.txt
  have h4 := h.ht_le
  have h5 : 1 ≤ t.ht := by cases t <;> simp [Tr.ht]
  unfold cB cU cE cH
  omega
theorem wz (n : Int) (h0 : -3000000 ≤ n) (h1 : n ≤ 3000000) : wrap64 n = n := by unfold wrap64; omega
theorem mx_le {a b c : Int} (h0 : 0 ≤ a) (h : a ≤ c) (k : b ≤ c) : 0 ≤ mx a b ∧ mx a b ≤ c := by unfold mx; split <;> omega
theorem sum_plain (aB aU aE aH bB bU bE bH : Int) (aF aL bF bL : Bool) (ha : 0 ≤ aB ∧ aB ≤ 1000000 ∧ 0 ≤ aU ∧ aU ≤ 1000000 ∧ 0 ≤ aE ∧ aE ≤ 1000000 ∧ 0 ≤ aH ∧ aH ≤ 1000000) (hb : 0 ≤ bB ∧ bB ≤ 1000000 ∧ 0 ≤ bU ∧ bU ≤ 1000000 ∧ 0 ≤ bE ∧ bE ≤ 1000000 ∧ 0 ≤ bH ∧ bH ≤ 1000000) :
    rope_sum.f 2 [(⟨aB, aU, aE, aH, aF, aL⟩ : S95), (⟨bB, bU, bE, bH, bF, bL⟩ : S95)] = some (aB + bB, aU + bU, (if aL = true then (if bF = true then aE - 1 + bE else aE + bE) else aE + bE), mx aH bH + 1, aF, bL) := by
  have em := mx_le ha.2.2.2.2.2.2.1 ha.2.2.2.2.2.2.2 hb.2.2.2.2.2.2.2
  have w1 : wrap64 (aB + bB) = aB + bB := wz _ (by omega) (by omega)
  have w2 : wrap64 (aU + bU) = aU + bU := wz _ (by omega) (by omega)
  have w3 : wrap64 (aE + bE) = aE + bE := wz _ (by omega) (by omega)
  have w40 : wrap64 (aE - 1) = aE - 1 := wz _ (by omega) (by omega)
  have w4 : wrap64 ((wrap64 (aE - 1)) + bE) = aE - 1 + bE := by rw [w40]; exact wz _ (by omega) (by omega)
  have w5 : wrap64 (mx aH bH + 1) = mx aH bH + 1 := wz _ (by omega) (by omega)
  have r0 : rd_T95 [(⟨aB, aU, aE, aH, aF, aL⟩ : S95), (⟨bB, bU, bE, bH, bF, bL⟩ : S95)] 0 = ⟨aB, aU, aE, aH, aF, aL⟩ := rfl
  have r1 : rd_T95 [(⟨bB, bU, bE, bH, bF, bL⟩ : S95)] 0 = ⟨bB, bU, bE, bH, bF, bL⟩ := rfl
  have one : wrap64 (0 + 1) = 1 := wz _ (by omega) (by omega)
  have last : ¬ (wrap64 (0 + 1) < ((1 : Nat) : Int)) := by rw [one]; simp
  unfold rope_sum.f
  rw [if_pos (by simp), if_pos (by simp)]
  simp only [Option.bind_some, List.drop_succ_cons, List.drop_zero, rope_sum.l0, r0, r1, List.length_singleton]
  rw [if_pos (by simp), if_pos (by simp), if_pos (by simp)]
  by_cases h1 : aL = true
  · rw [if_pos h1, if_pos h1]
    by_cases h2 : bF = true
    · rw [if_pos h2, if_pos h2, if_neg last, w1, w2, w4, w5]
    · rw [if_neg h2, if_neg h2, if_neg last, w1, w2, w3, w5]
  · rw [if_neg h1, if_neg h1, if_neg last, w1, w2, w3, w5]
theorem sum_two {a b : Tr} (ha : a.Ok) (hb : b.Ok) (hn : (Tr.node a b).txt.length ≤ 1000000) : rope_sum.f 2 [cN a, cN b] = some (cB (.node a b), cU (.node a b), cE (.node a b), cH (.node a b), begins (Tr.node a b).txt, closes (Tr.node a b).txt) := by
  have hl : a.txt.length + b.txt.length ≤ 1000000 := by rw [← List.length_append]; exact hn
  obtain ⟨a1, a2, a3, a4, a5, a6, a7, a8⟩ := bounds ha (Nat.le_trans (Nat.le_add_right _ _) hl)
  obtain ⟨b1, b2, b3, b4, b5, b6, b7, b8⟩ := bounds hb (Nat.le_trans (Nat.le_add_left _ _) hl)
  unfold cN
  rw [sum_plain _ _ _ _ _ _ _ _ _ _ _ _ ⟨Int.le_trans (by decide) a1, a2, a3, a4, a5, a6, Int.le_trans (by decide) a7, a8⟩ ⟨Int.le_trans (by decide) b1, b2, b3, b4, b5, b6, Int.le_trans (by decide) b7, b8⟩]
  have eB : cB (.node a b) = cB a + cB b := by unfold cB; rw [Tr.txt_node, List.length_append]; rfl
  have eU : cU (.node a b) = cU a + cU b := by unfold cU; rw [Tr.txt_node, units_app _ _ ha.valid]; rfl
  have eH : cH (.node a b) = mx (cH a) (cH b) + 1 := by
    unfold cH mx; rw [Tr.ht_node]
    generalize a.ht = x
    generalize b.ht = y
    split <;> omega
  have eF : begins (Tr.node a b).txt = begins a.txt := by rw [Tr.txt_node, begins_app _ _ ha.ne]
  have eL : closes (Tr.node a b).txt = closes b.txt := by rw [Tr.txt_node, closes_app _ _ hb.ne]
  have eE : (if closes a.txt = true then (if begins b.txt = true then cE a - 1 + cE b else cE a + cE b) else cE a + cE b) = cE (.node a b) := by
    have e := ends_app a.txt b.txt
    have f := @ends_closes a.txt
    unfold cE
    rw [Tr.txt_node]
    generalize ends (a.txt ++ b.txt) = n at *
    generalize ends a.txt = x at *
    generalize ends b.txt = y at *
    by_cases h1 : closes a.txt = true
    · by_cases h2 : begins b.txt = true
      · rw [if_pos ⟨h1, h2⟩] at e; rw [if_pos h1, if_pos h2]; have := f h1; omega
      · rw [if_neg (fun h => h2 h.2)] at e; rw [if_pos h1, if_neg h2]; omega
    · rw [if_neg (fun h => h1 h.1)] at e; rw [if_neg h1]; omega
  rw [eB, eU, eH, eF, eL, eE]
theorem C_two {W : World} {g : Nat} {a b : Tr} (h : W.heap[g]? = some (.cells #[.int .i64 (cB a), .int .i64 (cU a), .int .i64 (cE a), .int .i64 (cH a), .bool (begins a.txt), .bool (closes a.txt), .int .i64 (cB b), .int .i64 (cU b), .int .i64 (cE b), .int .i64 (cH b), .bool (begins b.txt), .bool (closes b.txt)] 95 (0, 0))) :
    Kd.C k95 W (some ⟨g, 0, none⟩) 2 [cN a, cN b] := by
  have row : ∀ i u, (#[Value.int .i64 (cB a), .int .i64 (cU a), .int .i64 (cE a), .int .i64 (cH a), .bool (begins a.txt), .bool (closes a.txt), .int .i64 (cB b), .int .i64 (cU b), .int .i64 (cE b), .int .i64 (cH b), .bool (begins b.txt), .bool (closes b.txt)])[i]? = some u → W.cell? ((⟨g, 0, none⟩ : Addr).add i) = some u := by
    intro i u hu
    rw [add_plain, blk_cell h i, hu]
  refine ⟨rfl, by decide, fun _ => ⟨⟨g, 0, none⟩, rfl, fun j p hj => ?_⟩⟩
  match j, hj with
  | 0, hj =>
    obtain rfl : cN a = p := by simpa using hj
    refine ⟨[.int .i64 (cB a), .int .i64 (cU a), .int .i64 (cE a), .int .i64 (cH a), .bool (begins a.txt), .bool (closes a.txt)], rfl, k95_mk W (cN a), fun i u hu => row _ u ?_⟩
    have hi : i < 6 := (List.getElem?_eq_some_iff.1 hu).1
    match i, hi with
    | 0, _ => exact hu
    | 1, _ => exact hu
    | 2, _ => exact hu
    | 3, _ => exact hu
    | 4, _ => exact hu
    | 5, _ => exact hu
  | 1, hj =>
    obtain rfl : cN b = p := by simpa using hj
    refine ⟨[.int .i64 (cB b), .int .i64 (cU b), .int .i64 (cE b), .int .i64 (cH b), .bool (begins b.txt), .bool (closes b.txt)], rfl, k95_mk W (cN b), fun i u hu => row _ u ?_⟩
    have hi : i < 6 := (List.getElem?_eq_some_iff.1 hu).1
    match i, hi with
    | 0, _ => exact hu
    | 1, _ => exact hu
    | 2, _ => exact hu
    | 3, _ => exact hu
    | 4, _ => exact hu
    | 5, _ => exact hu
  | j + 2, hj => simp at hj
end Go.Proofs.YtobhfpepclepdaaDoor
