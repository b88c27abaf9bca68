/- A slice that is only read, of which is told besides: if it is not empty, its row is a block of the call's own (VW). -/
import Derived.Test.YtahedgkdgnlcfaaPJsonGetsx0
namespace Go.Proofs.Ytahedgkdgnlcfaa.PJsonGets
open Go.RowKit Go.Proofs.YtahedgkdgnlcfaaW.PrintWords Go.Proofs.YtahedgkdgnlcfaaW.PrintLast Go.Proofs.YtahedgkdgnlcfaaW.PrintMore

/-- An empty slice, or a row (elements of type e, sz cells each) in a block from base on that may be written. -/
def W0 (e sz : Nat) (W : World) (base : Nat) (ok : Nat → Prop) (v : Value) (n : Nat) : Prop :=
  n = 0 ∨ ∃ g cap cells, v = .slice (some ⟨g, 0, none⟩) n cap ∧ ok g ∧ base ≤ g ∧ W.heap[g]? = some (.cells cells e (0, 0)) ∧ n * sz ≤ cells.size
theorem W0_step {e sz : Nat} {W w1 : World} {base : Nat} {ok : Nat → Prop} {v : Value} {n : Nat} (h : W0 e sz W base ok v n) (hm : ∀ k, ok k → k < W.heap.size → w1.heap[k]? = W.heap[k]?) : W0 e sz w1 base ok v n := by
  rcases h with h | ⟨g, cap, cells, hv, ho, hb, hh, hn⟩
  · exact .inl h
  · exact .inr ⟨g, cap, cells, hv, ho, hb, (hm g ho (Array.getElem?_eq_some_iff.1 hh).1).trans hh, hn⟩
theorem W0_mono {e sz : Nat} {W : World} {base : Nat} {ok ok' : Nat → Prop} {v : Value} {n : Nat} (h : W0 e sz W base ok v n) (hok : ∀ k, ok k → ok' k) : W0 e sz W base ok' v n := by
  rcases h with h | ⟨g, cap, cells, hv, ho, r⟩
  · exact .inl h
  · exact .inr ⟨g, cap, cells, hv, hok g ho, r⟩
theorem W0_bound {e sz : Nat} {W : World} {base : Nat} {ok : Nat → Prop} {v : Value} {n : Nat} (h : W0 e sz W base ok v n) : W0 e sz W base (fun k => ok k ∧ k < W.heap.size) v n := by
  rcases h with h | ⟨g, cap, cells, hv, ho, hb, hh, hn⟩
  · exact .inl h
  · exact .inr ⟨g, cap, cells, hv, ⟨ho, (Array.getElem?_eq_some_iff.1 hh).1⟩, hb, hh, hn⟩
namespace Kd
def VW {α : Type} (d : Kd α) (e : Nat) (W : World) (base : Nat) (ok : Nat → Prop) (v : Value) (xs : List α) : Prop := Kd.V d e W base ok v xs ∧ W0 e d.sz W base ok v xs.length
section
variable {α : Type} {d : Kd α} {e base base' n c g N' : Nat} {ok ok' : Nat → Prop} {w W w1 : World} {A : Option Addr} {u v v1 : Value} {xs : List α}
theorem VW_V (h : Kd.VW d e W base ok v xs) : Kd.V d e W base' ok v xs := h.1
theorem VW_fst (h : Kd.VW d e W base ok v xs) : Kd.V d e W base ok v xs := h.1
theorem VW_step (h : Kd.VW d e W base ok v xs) (hm : ∀ k, ok k → k < W.heap.size → w1.heap[k]? = W.heap[k]?) : Kd.VW d e w1 base ok v xs := ⟨Kd.V_step h.1 hm, W0_step h.2 hm⟩
theorem VW_mono (h : Kd.VW d e W base ok v xs) (hok : ∀ k, ok k → ok' k) : Kd.VW d e W base ok' v xs := ⟨Kd.V_mono h.1 hok, W0_mono h.2 hok⟩
theorem VW_bound (h : Kd.VW d e W base ok v xs) : Kd.VW d e W base (fun k => ok k ∧ k < W.heap.size) v xs := ⟨Kd.V_bound h.1, W0_bound h.2⟩
theorem VW_lower (h : Kd.VW d e W base ok v xs) (hb : base' ≤ base) : Kd.VW d e W base' ok v xs := ⟨h.1, by
  rcases h.2 with h2 | ⟨g, cap, cells, hv, ho, hb2, r⟩
  · exact .inl h2
  · exact .inr ⟨g, cap, cells, hv, ho, Nat.le_trans hb hb2, r⟩⟩
theorem VW_below (h : Kd.VW d e W base ok v xs) (hb : Below W.heap.size W w1) : Kd.VW d e w1 base ok v xs := VW_step h (fun k _ hk => hb.block k hk)
theorem VW_alloc (h : Kd.VW d e W base ok v xs) (o : Obj) : Kd.VW d e (W.alloc o) base ok v xs := VW_below h ((Below.refl _ _).alloc (Nat.le_refl _) o)
theorem VW_drew (h : Kd.VW d e W base ok v xs) : Kd.VW d e W.drew base ok v xs := VW_below h (below_drew (Below.refl _ _))
theorem VW_drewN (h : Kd.VW d e W base ok v xs) (m : Nat) : Kd.VW d e (W.drewN m) base ok v xs := VW_below h (pw_below_drewN (Below.refl _ _) m)
theorem VW_grown (h : Kd.VW d e W base ok v xs) {row : Option Nat} (hg : W.grownBy w1 row) (hok : ∀ k, ok k → some k ≠ row) : Kd.VW d e w1 base ok v xs := VW_step h (fun k ho hk => hg.block k hk (hok k ho))
theorem VW_far (h : Kd.VW d e W base ok v xs) {p : Addr} (hok : ∀ k, ok k → k ≠ p.block) (u : Value) : Kd.VW d e (W.setCell p u) base ok v xs := VW_step h (fun k ho _ => Below.heap_setCell W p u k (hok k ho))
theorem VW_elderB (h : Kd.VW d e W base ok v xs) (a : Nat) (ha : W.heap.size ≤ a) : Kd.VW d e W base (fun k => ok k ∧ k ≠ a) v xs := VW_mono (VW_bound h) (fun k hk => ⟨hk.1, by omega⟩)
theorem VW_elder' (h : Kd.VW d e W base ok v xs) (hbase : ∀ k, u.ownBlock = some k → W.heap.size ≤ k) (hb : Below W.heap.size W w1) : Kd.VW d e w1 base (fun k => ok k ∧ some k ≠ u.ownBlock) v xs :=
  VW_mono (VW_below (VW_bound h) hb) (fun k hk => ⟨hk.1, fun e_ => by have := hbase k e_.symm; omega⟩)
theorem VW_slice (h : Kd.VW d e W base ok v xs) : ∃ A c, v = .slice A xs.length c := Kd.V_slice h.1
theorem VW_after (h : Kd.VW d e W base (fun k => ok k ∧ some k ≠ u.ownBlock) v xs) (hg : W.grownBy w1 u.ownBlock) (hat : v1.ownBlock = u.ownBlock ∨ ∃ b, v1.ownBlock = some b ∧ W.heap.size ≤ b) : Kd.VW d e w1 base (fun k => ok k ∧ some k ≠ v1.ownBlock) v xs :=
  VW_mono (VW_grown (VW_bound h) hg (fun _ hk => hk.1.2)) (fun k hk => ⟨hk.1.1, by
    rcases hat with h1 | ⟨b, h1, h2⟩
    · rw [h1]; exact hk.1.2
    · rw [h1]; intro e_; injection e_ with e_; have := hk.2; omega⟩)
theorem VW_nil (h : Kd.V d e W base ok v xs) (hn : xs.length = 0) : Kd.VW d e W base' ok v xs := ⟨h, .inl hn⟩
theorem N_VW (h : Kd.N d e W base ok v xs) : Kd.VW d e W base ok v xs := by
  refine ⟨Kd.N_V h, ?_⟩
  obtain ⟨h0, rows, hl, hr, _⟩ := h
  obtain ⟨_, inner, ⟨ho1, ho2⟩, hi⟩ := hr
  rcases ho2 with ⟨rfl, hz⟩ | ⟨g, cap, cur, rfl, hb, hh, hnc, hcm, hcs, ht⟩
  · exact .inl (by omega)
  · refine .inr ⟨g, cap, cur, by rw [← hl], h0 g (by simp [Value.ownBlock]), hb, hh, ?_⟩
    have : cap * d.sz = cur.size := hcs.symm
    rw [← this, ← hl]; exact Nat.mul_le_mul_right _ hnc
end
end Kd
end Go.Proofs.Ytahedgkdgnlcfaa.PJsonGets
