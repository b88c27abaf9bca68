/- Ropes: two parts as a joint. -/
import Derived.Test.YtobhfpepclepdaaDoorSum
namespace Go.Proofs.YtobhfpepclepdaaDoor
open Go.RowKit Go.Proofs.YtobhfpepclepdaaDoorW.PrintWords Go.Proofs.YtobhfpepclepdaaDoorW.PrintLast Go.Proofs.YtobhfpepclepdaaDoorW.PrintMore
open Go.Proofs.YtobhfpepclepdaaDoor.PRope
open Go.Lib (decodeL validD)
set_option linter.unusedVariables false
attribute [local go_sem] fld0 fld1 fld2 fld3 fld4 fld5



set_option maxHeartbeats 2000000 in
set_option maxRecDepth 100000 in
theorem pair_calls {va vb : Value} {a b : Tr} {w : World} (ha : IsPart w va a) (hb : IsPart w vb b) (oa : a.Ok) (ob : b.Ok) (hn : (Tr.node a b).txt.length ≤ 1000000) :
    Calls Tryd.prog 65 #[va, vb] w fun e w' => ∃ v, e = .returned v ∧ IsPart w' v (.node a b) ∧ Below w.heap.size w w' := by
  have HA := Aside0.mk ha
  have HB := Aside0.mk hb
  have HS := Aside0.mk (sum_two oa ob hn)
  obtain ⟨T, ba, hT, rfl, h0, h1, h2, h3, h4, h5⟩ := ha.view
  have hm := meth hT ba _ _ _ _ _ _ w h0 h1 h2 h3 h4 h5
  clear h0 h1 h2 h3 h4 h5 ha
  obtain ⟨T', bb, hT', rfl, hrest⟩ := hb.view
  clear hb hrest oa ob hn
  have HT := Aside0.mk hT
  have HT' := Aside0.mk hT'
  rcases hT with rfl | rfl <;> rcases hT' with rfl | rfl
  all_goals
    go_enter Tryd.func65, Tryd.ntmps65
    have tok : True := trivial
    go_wp2_with (first
      | (go_at_call 108; have _t := tok; refine (has_calls _ _ _ _ _ _ _).mono ?_; rintro e w1 ⟨rfl, hb1⟩; clear tok hm; obtain ⟨_, _, _, hv, h0, h1, h2, h3, h4, h5⟩ := (HB.out.below hb1).view; cases hv; have hm := meth HT'.out bb _ _ _ _ _ _ w1 h0 h1 h2 h3 h4 h5; clear h0 h1 h2 h3 h4 h5; have BL1 := Aside0.mk hb1; clear hb1)
      | (go_at_call 108; refine (has_calls _ _ _ _ _ _ _).mono ?_; rintro e w2 ⟨rfl, hb2⟩; clear hm; have BL2 := Aside0.mk (below_step BL1.out hb2); clear hb2 BL1)
      | (go_at_call 78; refine (rope_sum.calls 2 (some ⟨w2.heap.size, 0, none⟩) 2 [cN a, cN b] _ _ _ _ _ _ _ (C_two (blk_new w2 _)) (Nat.le_refl _) HS.out).mono ?_; rintro e w3 ⟨rfl, hb3⟩; have BL3 := Aside0.mk (below_step BL2.out (below_step ((Below.refl _ _).alloc (Nat.le_refl _) _) hb3)); clear hb3 BL2))
    go_ret
    exact ⟨_, rfl, ⟨w3.heap.size, _, _, rfl, blk_new w3 _, IsPart.below (below_step BL3.out ((Below.refl _ _).alloc (Nat.le_refl _) _)) HA.out, IsPart.below (below_step BL3.out ((Below.refl _ _).alloc (Nat.le_refl _) _)) HB.out⟩, below_step BL3.out ((Below.refl _ _).alloc (Nat.le_refl _) _)⟩
end Go.Proofs.YtobhfpepclepdaaDoor
