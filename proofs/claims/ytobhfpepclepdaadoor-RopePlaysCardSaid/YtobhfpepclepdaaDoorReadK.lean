/- Ropes: what came in as data, in the words of the kinds: splices. -/
import Derived.Test.YtobhfpepclepdaaDoorRead
import Derived.Test.YtobhfpepclepdaaDoorPRopex0
namespace Go.Proofs.YtobhfpepclepdaaDoor
open Go.RowKit Go.Proofs.YtobhfpepclepdaaDoorW.PrintWords Go.Proofs.YtobhfpepclepdaaDoorW.PrintLast Go.Proofs.YtobhfpepclepdaaDoorW.PrintMore
open Go.Proofs.YtobhfpepclepdaaDoor.PRope Go.Proofs.YtobhfpepclepdaaDoor.Read
set_option linter.unusedVariables false
section
variable {H : Type} {enc : TypeId × Value → H} {W : World} {sp : Nat → Bool} {held : Bool}
theorem c3 : Tryd.prog.cellsOf 3 = 1 := by kernel_rfl
theorem c4 : Tryd.prog.cellsOf 4 = 1 := by kernel_rfl
theorem c9 : Tryd.prog.cellsOf 9 = 1 := by kernel_rfl
theorem c34 : Tryd.prog.cellsOf 34 = 3 := by kernel_rfl
theorem b34 : Tryd.prog.bytesOf 34 = 32 := by kernel_rfl
theorem take3 {cs : List Value} (h : cs.length = 3) : ∃ a b c, cs = [a, b, c] := by
  match cs, h with
  | [a, b, c], _ => exact ⟨a, b, c, rfl⟩
/-- A splice that came in. -/
def GoodOp (x : S34) : Prop := ((Lit.int .i64 x.f0).wf = true ∧ (Lit.int .i64 x.f1).wf = true) ∧ x.f2.size ≤ reachBytes
theorem rd_op (N : Nat) : Rd enc Tryd.prog W sp held (N + 1) 34 k34 GoodOp := by
  intro fuel hf cs x ht hw
  obtain ⟨n, rfl, hl, hfs⟩ := fields_of Tryd.underlying34 ht hw
  rw [c34] at hl
  obtain ⟨y0, e0, w0⟩ := hfs 0 _ rfl
  obtain ⟨y1, e1, w1⟩ := hfs 1 _ rfl
  obtain ⟨y2, e2, w2⟩ := hfs 2 _ rfl
  change DataW.trod enc Tryd.prog W 0 sp held n 3 ((cs.drop 0).take (Tryd.prog.cellsOf 3)) = some y0 at e0
  change DataW.trod enc Tryd.prog W 0 sp held n 3 ((cs.drop 1).take (Tryd.prog.cellsOf 3)) = some y1 at e1
  change DataW.trod enc Tryd.prog W 0 sp held n 9 ((cs.drop 2).take (Tryd.prog.cellsOf 9)) = some y2 at e2
  change ∀ m ∈ y0.1.weights Tryd.prog 3, m ≤ reachBytes at w0
  change ∀ m ∈ y1.1.weights Tryd.prog 3, m ≤ reachBytes at w1
  change ∀ m ∈ y2.1.weights Tryd.prog 9, m ≤ reachBytes at w2
  rw [c3] at e0 e1
  rw [c9] at e2
  obtain ⟨i, hi, gi⟩ := rd_int n Tryd.underlying3 n (Nat.le_refl _) _ _ e0 w0
  obtain ⟨j, hj, gj⟩ := rd_int n Tryd.underlying3 n (Nat.le_refl _) _ _ e1 w1
  obtain ⟨s, hs, gs⟩ := rd_string n Tryd.underlying9 n (Nat.le_refl _) _ _ e2 w2
  obtain ⟨a, b, c, rfl⟩ := take3 hl
  have hi' : ([a, b, c].drop 0).take 1 = [.int .i64 i] := hi
  have hj' : ([a, b, c].drop 1).take 1 = [.int .i64 j] := hj
  have hs' : ([a, b, c].drop 2).take 1 = [.string s] := hs
  simp at hi' hj' hs'
  subst hi' hj' hs'
  exact ⟨⟨i, j, s⟩, k34_mk W ⟨i, j, s⟩, ⟨gi, gj⟩, gs⟩
/-- Splices that came in. -/
theorem rd_ops {fuel : Nat} {v : Value} {x : DataW H × List MemPlace} (h : DataW.trod enc Tryd.prog W 0 sp held fuel 22 [v] = some x) (hw : ∀ n ∈ x.1.weights Tryd.prog 22, n ≤ reachBytes) :
    ∃ l A c, v = .slice A l.length c ∧ l.length ≤ c ∧ Kd.C k34 W A l.length l ∧ l.length * 32 ≤ reachBytes ∧ ∀ a ∈ l, GoodOp a := by
  have hr : Rd enc Tryd.prog W sp held (fuel + 2) 22 (Kd.slice 34 k34) (fun l => l.length * Tryd.prog.bytesOf 34 ≤ reachBytes ∧ ∀ a ∈ l, GoodOp a) := rd_slice (rd_op fuel) Tryd.underlying22 c34
  obtain ⟨l, ⟨A, c, hv, hc, hC⟩, hz, hg⟩ := hr fuel (by omega) _ _ h hw
  rw [b34] at hz
  injection hv with hv
  exact ⟨l, A, c, hv, hc, hC, hz, hg⟩
end
end Go.Proofs.YtobhfpepclepdaaDoor
