/- What came in as data reads as a kind says: for whole numbers, bools, strings, slices, structs, kinds nested in themselves. Over any program. -/
import Derived.Test.YtobhfpepclepdaaDoorWWords
import Derived.ProofKit
import Derived.SizedLaws
import Derived.ChangeArms
import Derived.DataElems
namespace Go.Proofs.YtobhfpepclepdaaDoor.Read
open Go.RowKit Go.Proofs.YtobhfpepclepdaaDoorW.PrintWords
section
variable {H : Type} {enc : TypeId × Value → H} {P : Program} {W : World} {sp : Nat → Bool} {held : Bool}

theorem weightsAll_mem {e : TypeId} : ∀ {l : List (DataW H)} {d : DataW H}, d ∈ l → ∀ n ∈ d.weights P e, n ∈ DataW.weightsAll P e l
  | d' :: r, d, hd, n, hn => by
    simp only [DataW.weightsAll, List.mem_append]
    rcases List.mem_cons.1 hd with rfl | h
    · exact Or.inl hn
    · exact Or.inr (weightsAll_mem h n hn)

/-- All that is read of type t with at most N rounds is of kind d, and good. -/
def Rd (enc : TypeId × Value → H) (P : Program) (W : World) (sp : Nat → Bool) (held : Bool) (N : Nat) (t : TypeId) {α : Type} (d : Kd α) (good : α → Prop) : Prop :=
  ∀ fuel, fuel ≤ N → ∀ cs x, DataW.trod enc P W 0 sp held fuel t cs = some x → (∀ n ∈ x.1.weights P t, n ≤ reachBytes) → ∃ a, d.K W a cs ∧ good a
theorem Rd.lower {N M : Nat} {t : TypeId} {α : Type} {d : Kd α} {good : α → Prop} (h : Rd enc P W sp held N t d good) (hm : M ≤ N) : Rd enc P W sp held M t d good := fun fuel hf => h fuel (Nat.le_trans hf hm)
theorem rd_int (N : Nat) {t : TypeId} {k : IntKind} (ht : P.underlying t = some (.int k)) : Rd enc P W sp held N t (Kd.int k) (fun n => (Lit.int k n).wf = true) := by
  intro fuel _ cs x h _
  obtain ⟨n, rfl, _, hw⟩ := DataW.trod_int ht h
  exact ⟨n, rfl, hw⟩
theorem rd_bool (N : Nat) {t : TypeId} (ht : P.underlying t = some .bool) : Rd enc P W sp held N t Kd.bool (fun _ => True) := by
  intro fuel _ cs x h _
  obtain ⟨n, rfl, _⟩ := DataW.trod_bool ht h
  exact ⟨n, rfl, trivial⟩
theorem rd_string (N : Nat) {t : TypeId} (ht : P.underlying t = some .string) : Rd enc P W sp held N t Kd.string (fun s => s.size ≤ reachBytes) := by
  intro fuel _ cs x h hw
  obtain ⟨s, rfl, rfl, _⟩ := DataW.trod_string ht h
  refine ⟨s, rfl, ?_⟩
  have := hw s.data.toList.length (by simp [DataW.weights])
  rw [Array.length_toList] at this
  exact this
theorem list_of {α : Type} {Q : Nat → α → Prop} : ∀ (n : Nat), (∀ i, i < n → ∃ a, Q i a) → ∃ l : List α, l.length = n ∧ ∀ i a, l[i]? = some a → Q i a
  | 0, _ => ⟨[], rfl, fun i a h => by simp at h⟩
  | n + 1, h => by
    obtain ⟨l, hl, hq⟩ := list_of n (fun i hi => h i (by omega))
    obtain ⟨a, ha⟩ := h n (by omega)
    refine ⟨l ++ [a], by simp [hl], fun i b hb => ?_⟩
    by_cases hi : i < n
    · rw [List.getElem?_append_left (by omega)] at hb; exact hq i b hb
    · rw [List.getElem?_append_right (by omega)] at hb
      have : i = n := by
        have := (List.getElem?_eq_some_iff.1 hb).1
        simp at this; omega
      subst this
      simp [hl] at hb
      subst hb
      exact ha
theorem rd_slice {N : Nat} {t e : TypeId} {α : Type} {d : Kd α} {good : α → Prop} (hd : Rd enc P W sp held N e d good) (ht : P.underlying t = some (.slice e)) (hz : P.cellsOf e = d.sz) :
    Rd enc P W sp held (N + 1) t (Kd.slice e d) (fun l => l.length * P.bytesOf e ≤ reachBytes ∧ ∀ a ∈ l, good a) := by
  intro fuel hf cs x h hw
  rcases DataW.trod_slice ht h with ⟨rfl, _⟩ | ⟨a, len, cap, elems, rest, n, rfl, rfl, rfl, _, hl, hm, hlen, hel, _, _⟩
  · refine ⟨[], ⟨none, 0, rfl, Nat.le_refl _, rfl, by simp, fun hp => absurd hp (Nat.lt_irrefl 0)⟩, by simp, by simp⟩
  · have hw2 : ∀ y ∈ elems, ∀ n ∈ y.1.weights P e, n ≤ reachBytes := by
      intro y hy m hm2
      refine hw m ?_
      simp only [DataW.weights, ht]
      exact List.mem_cons_of_mem _ (List.mem_append_left _ (weightsAll_mem (List.mem_map_of_mem hy) m hm2))
    have hw1 : (elems.length + rest.length) * P.bytesOf e ≤ reachBytes := by
      refine hw _ ?_
      simp only [DataW.weights, ht, List.length_map]
      exact List.mem_cons_self
    have one : ∀ i, i < len → ∃ b, good b ∧ ∃ c, c.length = d.sz ∧ d.K W b c ∧ ∀ j u, c[j]? = some u → W.cell? (a.add (i * d.sz + j)) = some u := by
      intro i hi
      have h1 := hel i hi
      have hil : i < elems.length := by omega
      rw [List.getElem?_eq_getElem hil] at h1
      obtain ⟨cs', h2, h3⟩ := Option.bind_eq_some_iff.1 h1
      obtain ⟨_, hcl, hcc⟩ := World.cells?_some h2
      obtain ⟨b, hK, hg⟩ := hd n (by omega) cs' _ h3 (hw2 _ (List.getElem_mem hil))
      refine ⟨b, hg, cs', by rw [hcl, hz], hK, fun j u hu => ?_⟩
      have hj : j < cs'.length := (List.getElem?_eq_some_iff.1 hu).1
      rw [← Addr.add_add, ← hz, hcc j (by omega), hu]
    obtain ⟨l, hll, hlq⟩ := list_of len one
    refine ⟨l, ⟨some a, cap, by rw [hll], by omega, ?_⟩, ?_, ?_⟩
    · refine ⟨rfl, by unfold maxLen at hm; omega, fun _ => ⟨a, rfl, fun j p hj => ?_⟩⟩
      exact (hlq j p hj).2
    · rw [hll, ← hlen]
      exact Nat.le_trans (Nat.mul_le_mul_right _ (Nat.le_add_right _ _)) hw1
    · intro b hb
      obtain ⟨i, hi⟩ := List.getElem?_of_mem hb
      exact (hlq i b hi).1
/-- A struct's fields, each with what it reads as. -/
theorem fields_of {fs : Array Field} {fuel : Nat} {t : TypeId} {cs : List Value} {x : DataW H × List MemPlace} (ht : P.underlying t = some (.struct fs)) (h : DataW.trod enc P W 0 sp held fuel t cs = some x) (hw : ∀ n ∈ x.1.weights P t, n ≤ reachBytes) :
    ∃ n, fuel = n + 1 ∧ cs.length = P.cellsOf t ∧ ∀ (i : Nat) (f : Field), fs[i]? = some f → ∃ y, DataW.trod enc P W 0 sp held n f.type ((cs.drop f.offset).take (P.cellsOf f.type)) = some y ∧ ∀ m ∈ y.1.weights P f.type, m ≤ reachBytes := by
  obtain ⟨xs, n, rfl, rfl, hl, hlen, hf⟩ := DataW.trod_struct ht h
  refine ⟨n, rfl, hl, fun i f hi => ?_⟩
  have hil : i < xs.length := by
    have := (Array.getElem?_eq_some_iff.1 hi).1
    omega
  have h1 := hf i f hi
  rw [List.getElem?_eq_getElem hil] at h1
  refine ⟨xs[i], h1, fun m hm => hw m ?_⟩
  simp only [DataW.weights, ht]
  refine DataW.weights_mem_each (j := i) (t := f.type) (d := xs[i].1) ?_ ?_ m hm
  · rw [List.getElem?_map, Array.getElem?_toList, hi]; rfl
  · rw [List.getElem?_map, List.getElem?_eq_getElem hil]; rfl
end
end Go.Proofs.YtobhfpepclepdaaDoor.Read
