/- What came in as an api.Value reads as the kind k25 says; its lists are within the reach. -/
import Derived.Test.YtahedgkdgnlcfaaRead
import Derived.Test.YtahedgkdgnlcfaaPlain
namespace Go.Proofs.Ytahedgkdgnlcfaa.PJsonGets
open Go.RowKit Go.Proofs.YtahedgkdgnlcfaaW.PrintWords Go.Proofs.YtahedgkdgnlcfaaW.PrintLast Go.Proofs.YtahedgkdgnlcfaaW.PrintMore Go.Proofs.Ytahedgkdgnlcfaa.Read
section
variable {H : Type} {enc : TypeId × Value → H} {W : World} {sp : Nat → Bool} {held : Bool}
theorem c5 : Try.prog.cellsOf 5 = 1 := by kernel_rfl
theorem c9 : Try.prog.cellsOf 9 = 1 := by kernel_rfl
theorem c22 : Try.prog.cellsOf 22 = 1 := by kernel_rfl
theorem c23 : Try.prog.cellsOf 23 = 1 := by kernel_rfl
theorem c25 : Try.prog.cellsOf 25 = 4 := by kernel_rfl
theorem c32 : Try.prog.cellsOf 32 = 5 := by kernel_rfl
theorem b25 : Try.prog.bytesOf 25 = 72 := by kernel_rfl
theorem b32 : Try.prog.bytesOf 32 = 88 := by kernel_rfl
theorem take4 {cs : List Value} (h : cs.length = 4) : ∃ a b c d, cs = [a, b, c, d] := by
  match cs, h with
  | [a, b, c, d], _ => exact ⟨a, b, c, d, rfl⟩
theorem rd_field {N : Nat} (h : Rd enc Try.prog W sp held N 25 k25 (Fits 1954687338266)) : Rd enc Try.prog W sp held (N + 1) 32 k32 (fun y => Fits 1954687338266 y.f1) := by
  intro fuel hf cs x ht hw
  obtain ⟨n, rfl, hl, hfs⟩ := fields_of Try.underlying32 ht hw
  rw [c32] at hl
  obtain ⟨y0, e0, w0⟩ := hfs 0 _ rfl
  obtain ⟨y1, e1, w1⟩ := hfs 1 _ rfl
  change DataW.trod enc Try.prog W 0 sp held n 9 ((cs.drop 0).take (Try.prog.cellsOf 9)) = some y0 at e0
  change DataW.trod enc Try.prog W 0 sp held n 25 ((cs.drop 1).take (Try.prog.cellsOf 25)) = some y1 at e1
  change ∀ m ∈ y0.1.weights Try.prog 9, m ≤ reachBytes at w0
  change ∀ m ∈ y1.1.weights Try.prog 25, m ≤ reachBytes at w1
  rw [c9] at e0
  rw [c25] at e1
  obtain ⟨s, hs, _⟩ := rd_string n Try.underlying9 n (Nat.le_refl _) _ _ e0 w0
  obtain ⟨v, hv, hg⟩ := h n (by omega) _ _ e1 w1
  refine ⟨⟨s, v⟩, ?_, hg⟩
  have hs' : (cs.drop 0).take 1 = [.string s] := hs
  have : cs = [.string s] ++ (cs.drop 1).take 4 := by
    rw [← hs', List.drop_zero]
    have : (cs.drop 1).take 4 = cs.drop 1 := List.take_of_length_le (by rw [List.length_drop]; omega)
    rw [this, List.take_append_drop]
  rw [this]
  exact ⟨_, _, rfl, rfl, hv⟩
theorem rd_value (N : Nat) : Rd enc Try.prog W sp held N 25 k25 (Fits 1954687338266) := by
  induction N with
  | zero =>
    intro fuel hf cs x ht hw
    obtain rfl : fuel = 0 := by omega
    simp [DataW.trod] at ht
  | succ N ih =>
    intro fuel hf cs x ht hw
    obtain ⟨n, rfl, hl, hfs⟩ := fields_of Try.underlying25 ht hw
    rw [c25] at hl
    obtain ⟨y0, e0, w0⟩ := hfs 0 _ rfl
    obtain ⟨y1, e1, w1⟩ := hfs 1 _ rfl
    obtain ⟨y2, e2, w2⟩ := hfs 2 _ rfl
    obtain ⟨y3, e3, w3⟩ := hfs 3 _ rfl
    change DataW.trod enc Try.prog W 0 sp held n 5 ((cs.drop 0).take (Try.prog.cellsOf 5)) = some y0 at e0
    change ∀ m ∈ y0.1.weights Try.prog 5, m ≤ reachBytes at w0
    change DataW.trod enc Try.prog W 0 sp held n 9 ((cs.drop 1).take (Try.prog.cellsOf 9)) = some y1 at e1
    change ∀ m ∈ y1.1.weights Try.prog 9, m ≤ reachBytes at w1
    change DataW.trod enc Try.prog W 0 sp held n 22 ((cs.drop 2).take (Try.prog.cellsOf 22)) = some y2 at e2
    change ∀ m ∈ y2.1.weights Try.prog 22, m ≤ reachBytes at w2
    change DataW.trod enc Try.prog W 0 sp held n 23 ((cs.drop 3).take (Try.prog.cellsOf 23)) = some y3 at e3
    change ∀ m ∈ y3.1.weights Try.prog 23, m ≤ reachBytes at w3
    rw [c5] at e0
    rw [c9] at e1
    rw [c22] at e2
    rw [c23] at e3
    obtain ⟨i, hi, _⟩ := rd_int n Try.underlying5 n (Nat.le_refl _) _ _ e0 w0
    obtain ⟨s, hs, _⟩ := rd_string n Try.underlying9 n (Nat.le_refl _) _ _ e1 w1
    obtain ⟨l, ⟨A2, p2, hl2, hn2, hC2⟩, hz2, hg2⟩ := (rd_slice ih Try.underlying22 c25) n (by omega) _ _ e2 w2
    obtain ⟨m, ⟨A3, p3, hl3, hn3, hC3⟩, hz3, hg3⟩ := (rd_slice (rd_field ih) Try.underlying23 c32) n (by omega) _ _ e3 w3
    rw [b25] at hz2
    rw [b32] at hz3
    have hi' : (cs.drop 0).take 1 = [.int .u8 i] := hi
    have hs' : (cs.drop 1).take 1 = [.string s] := hs
    obtain ⟨a, b, c, d, rfl⟩ := take4 hl
    simp at hi' hs' hl2 hl3
    subst hi' hs' hl2 hl3
    refine ⟨⟨i, s, l, m⟩, k25_mk W ⟨i, s, l, m⟩ hn2 hC2 hn3 hC3, ⟨_, ?_, ?_, hg2, hg3⟩⟩
    · show l.length ≤ _; unfold reachBytes at hz2; omega
    · show m.length ≤ _; unfold reachBytes at hz3; omega
end
end Go.Proofs.Ytahedgkdgnlcfaa.PJsonGets
