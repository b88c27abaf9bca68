/- Ropes: join. -/
import Derived.Test.YtobhfpepclepdaaDoorLevel
import Derived.Test.YtobhfpepclepdaaDoorLeaf2
import Derived.Deep.QuietTactic
import Derived.BigQuiet
import Derived.WalkSmall
import Derived.Outline
namespace Go.Proofs.YtobhfpepclepdaaDoor
open Go.RowKit Go.Proofs.YtobhfpepclepdaaDoorW.PrintWords Go.Proofs.YtobhfpepclepdaaDoorW.PrintLast Go.Proofs.YtobhfpepclepdaaDoorW.PrintMore
open Go.Proofs.YtobhfpepclepdaaDoor.PRope
open Go.Lib (decodeL validD)
set_option linter.unusedVariables false
theorem Tr.Ok.left {l r : Tr} (h : (Tr.node l r).Ok) : l.Ok := h.1
theorem Tr.Ok.right {l r : Tr} (h : (Tr.node l r).Ok) : r.Ok := h.2
/-- What a contract says that makes a part. -/
def Made (w : World) (P : Tr → Prop) (e : Ending) (w' : World) : Prop := ∃ v t, e = .returned v ∧ IsPart w' v t ∧ P t ∧ Below w.heap.size w w'
theorem level_calls {va vb : Value} {a b : Tr} {w : World} (ha : IsPart w va a) (hb : IsPart w vb b) (oa : a.Ok) (ob : b.Ok) (hn : a.txt.length + b.txt.length ≤ 1000000) :
    Calls Tryd.prog 64 #[va, vb] w (Made w (fun t => t = Tr.level a b)) := by
  have fin : ∀ {t : Tr}, t = Tr.level a b → (Calls Tryd.prog 64 #[va, vb] w fun e w' => ∃ v, e = .returned v ∧ IsPart w' v t ∧ Below w.heap.size w w') → Calls Tryd.prog 64 #[va, vb] w (Made w (fun t => t = Tr.level a b)) := by
    intro t ht h
    exact h.mono fun e w' ⟨v, h1, h2, h3⟩ => ⟨v, t, h1, h2, ht, h3⟩
  by_cases c1 : b.ht + 1 < a.ht
  · cases a with
    | leaf s => exact absurd c1 (by have := b.ht_pos; simp [Tr.ht])
    | node l r =>
      by_cases c2 : r.ht ≤ l.ht
      · exact fin (by unfold Tr.level; rw [if_pos c1]; exact (if_pos c2).symm) (level_left1 ha hb oa ob hn c1 c2)
      · cases r with
        | leaf s => exact absurd c2 (by have := l.ht_pos; simp [Tr.ht]; omega)
        | node p q => exact fin (by unfold Tr.level; rw [if_pos c1]; exact (if_neg c2).symm) (level_left2 ha hb oa ob hn c1 c2)
  · by_cases c3 : a.ht + 1 < b.ht
    · cases b with
      | leaf s => exact absurd c3 (by have := a.ht_pos; simp [Tr.ht])
      | node l r =>
        by_cases c2 : l.ht ≤ r.ht
        · exact fin (by unfold Tr.level; rw [if_neg c1, if_pos c3]; exact (if_pos c2).symm) (level_right1 hb ha ob oa (by omega) c3 c2)
        · cases l with
          | leaf s => exact absurd c2 (by have := r.ht_pos; simp [Tr.ht]; omega)
          | node p q => exact fin (by unfold Tr.level; rw [if_neg c1, if_pos c3]; exact (if_neg c2).symm) (level_right2 hb ha ob oa (by omega) c3 c2)
    · exact fin (by unfold Tr.level; rw [if_neg c1, if_neg c3]) (level_pair ha hb oa ob (by simp [Tr.txt]; exact hn) c1 c3)

/-- The tables of Go's library, as they are laid. -/
structure Tb (w : World) : Prop where
  m : ∃ m : Int, w.cell? ⟨2, 0, none⟩ = some (.int .i64 m)
  u : Go.Lib.Utf8Tabs 0 1 w
theorem Tb.below {w w' : World} (h : Tb w) (hb : Below w.heap.size w w') : Tb w' := by
  obtain ⟨⟨m, hm⟩, h1, h2⟩ := h
  exact ⟨⟨m, pw_cell_below hb hm⟩, fun c hc => pw_cell_below hb (h1 c hc), fun i hi => ⟨pw_cell_below hb (h2 i hi).1, pw_cell_below hb (h2 i hi).2⟩⟩
theorem ta109t (p : Value) (w : World) : (Instr.typeAssert (.iface 109 p) 82 109 true).run Tryd.prog w = .ok (.tuple #[p, .bool true]) w := by kernel_rfl
theorem ta112f (p : Value) (w : World) : (Instr.typeAssert (.iface 112 p) 82 109 true).run Tryd.prog w = .ok (.tuple #[.pointer none, .bool false]) w := by kernel_rfl
attribute [local go_sem] fld0 fld1 fld2 fld3 fld4 fld5 ta112 ta109t ta112f
theorem IsPart.string {w : World} {v : Value} {s : ByteArray} (h : IsPart w v (.leaf s)) : ∃ b, v = .iface 109 (.pointer (some ⟨b, 0, none⟩)) ∧ w.cell? ⟨b, 6, none⟩ = some (.string s) := by
  obtain ⟨b, hv, hh⟩ := h
  exact ⟨b, hv, blk_cell hh 6⟩
set_option maxHeartbeats 4000000 in
set_option maxRecDepth 100000 in
theorem join_nil_left (vb : Value) (w : World) : Calls Tryd.prog 43 #[.nilIface, vb] w fun e w' => e = .returned vb ∧ w' = w := by
  go_enter Tryd.func43, Tryd.ntmps43
  go_wp2
  go_ret
  exact ⟨rfl, rfl⟩
set_option maxHeartbeats 4000000 in
set_option maxRecDepth 100000 in
theorem join_nil_right {va : Value} {a : Tr} {w : World} (ha : IsPart w va a) : Calls Tryd.prog 43 #[va, .nilIface] w fun e w' => e = .returned va ∧ w' = w := by
  obtain ⟨T, b, hT, rfl, h0⟩ := ha.view
  clear h0 ha
  rcases hT with rfl | rfl
  all_goals
    go_enter Tryd.func43, Tryd.ntmps43
    go_wp2
    go_ret
    exact ⟨rfl, rfl⟩
set_option maxHeartbeats 4000000 in
set_option maxRecDepth 100000 in
theorem join_leafs {va vb : Value} {s t : ByteArray} {w : World} (ha : IsPart w va (.leaf s)) (hb : IsPart w vb (.leaf t)) (h0 : 0 < s.size) (hn : s.size + t.size ≤ 128) (m : Int) (hm : w.cell? ⟨2, 0, none⟩ = some (.int .i64 m)) :
    Calls Tryd.prog 43 #[va, vb] w fun e w' => ∃ v, e = .returned v ∧ IsPart w' v (.leaf (s ++ t)) ∧ Below w.heap.size w w' := by
  obtain ⟨ba, rfl, c6⟩ := ha.string
  obtain ⟨bb, rfl, d6⟩ := hb.string
  have HM := Aside0.mk hm
  have hs : (s ++ t).size = s.size + t.size := ByteArray.size_append
  have k1 : (s ++ t).size ≤ 1000000 := by omega
  have k2 : 0 < (s ++ t).size := by omega
  have W1 : IntKind.i64.wrap ((s.size : Int) + t.size) = (s.size : Int) + t.size := IntWalk.i64_in _ (by omega)
  have hle : (s.size : Int) + t.size ≤ 128 := by omega
  have hcat : ¬ (9223372036854775807 < s.size + t.size) := by omega
  have HS := Aside0.mk hs
  have K1 := Aside0.mk k1
  have K2 := Aside0.mk k2
  have C6 := Aside0.mk c6
  have D6 := Aside0.mk d6
  clear ha hb hm hs k1 k2 hn
  go_enter Tryd.func43, Tryd.ntmps43
  go_wp2
  go_quiet (fail)
  go_wp2
  have d1 : (w.drewN nq).drew.cell? ⟨ba, 6, none⟩ = some (.string s) := c6
  have d2 : (w.drewN nq).drew.cell? ⟨bb, 6, none⟩ = some (.string t) := d6
  have bd : Below w.heap.size w (w.drewN nq).drew := below_drew1 (below_drewN (Below.refl _ _) nq)
  go_region_held3 (fun w2 => Below w.heap.size w w2 ∧ w2.cell? ⟨ba, 6, none⟩ = some (.string s) ∧ w2.cell? ⟨bb, 6, none⟩ = some (.string t)) (first | (refine ⟨?_, ?_, ?_⟩ <;> assumption) | assumption) (first
    | (go_at_call 61; refine (leaf_calls (s ++ t) _ K1.out K2.out m (pw_cell_below (by assumption) HM.out)).mono ?_; rintro e w3 ⟨v, rfl, hp, hb1⟩; have hb2 := below_step (by assumption) hb1; have f6 := pw_cell_below hb2 C6.out; have f7 := pw_cell_below hb2 D6.out))
  go_wp2
  go_ret
  exact ⟨v, rfl, hp, hb2⟩
-- GENERATED by gen/join2.py
set_option maxHeartbeats 4000000 in
set_option maxRecDepth 100000 in
theorem join_pair_leafs {va vb : Value} {s t : ByteArray} {w : World} (ha : IsPart w va (Tr.leaf s)) (hb : IsPart w vb (Tr.leaf t)) (oa : (Tr.leaf s).Ok) (ob : (Tr.leaf t).Ok) (hn : (Tr.leaf s).txt.length + (Tr.leaf t).txt.length ≤ 1000000) (g : ¬ s.size + t.size ≤ 128) :
    Calls Tryd.prog 43 #[va, vb] w fun e w' => ∃ v, e = .returned v ∧ IsPart w' v (.node (Tr.leaf s) (Tr.leaf t)) ∧ Below w.heap.size w w' := by
  have HA := Aside0.mk ha
  have HB := Aside0.mk hb
  have bA := cH_bounds oa (by omega)
  have bB := cH_bounds ob (by omega)
  have W1 : IntKind.i64.wrap (cH (Tr.leaf t) + 1) = cH (Tr.leaf t) + 1 := IntWalk.i64_in _ (by omega)
  have W2 : IntKind.i64.wrap (cH (Tr.leaf s) + 1) = cH (Tr.leaf s) + 1 := IntWalk.i64_in _ (by omega)
  have e1 : ¬ (cH (Tr.leaf t) + 1 < cH (Tr.leaf s)) := by simp [cH, Tr.ht]
  have e2 : ¬ (cH (Tr.leaf s) + 1 < cH (Tr.leaf t)) := by simp [cH, Tr.ht]
  have HO := Aside0.mk (And.intro oa ob)
  have HN : Aside0 ((Tr.node (Tr.leaf s) (Tr.leaf t)).txt.length ≤ 1000000) := ⟨by simp [Tr.txt] at hn ⊢; omega⟩
  have BL0 := Aside0.mk (Below.refl w.heap.size w)
  obtain ⟨ba, hva, c6⟩ := ha.string
  obtain ⟨bb, hvb, d6⟩ := hb.string
  have l1 : s.size ≤ 1000000 := by simp [Tr.txt] at hn; omega
  have l2 : t.size ≤ 1000000 := by simp [Tr.txt] at hn; omega
  have WW : IntKind.i64.wrap ((s.size : Int) + t.size) = (s.size : Int) + t.size := IntWalk.i64_in _ (by omega)
  have hle : ¬ ((s.size : Int) + t.size ≤ 128) := by omega
  subst hva hvb
  clear ha hb oa ob hn g l1 l2
  all_goals
   go_enter Tryd.func43, Tryd.ntmps43
   go_wp2
   go_quiet (fail)
   have BL := Aside0.mk (below_drewN BL0.out nq)
   clear BL0
   go_wp2_with (first
    | (go_at_call 63; (with_reducible refine (high_calls (HA.out.below BL.out)).mono ?_); rintro e w1 ⟨rfl, hb1⟩; have BL' := Aside0.mk (below_step BL.out hb1); clear BL hb1; have BL := BL'; clear BL')
    | (go_at_call 63; (with_reducible refine (high_calls (HB.out.below BL.out)).mono ?_); rintro e w1 ⟨rfl, hb1⟩; have BL' := Aside0.mk (below_step BL.out hb1); clear BL hb1; have BL := BL'; clear BL')
    | (go_at_call 65; (with_reducible refine (pair_calls (HA.out.below BL.out) (HB.out.below BL.out) HO.out.1 HO.out.2 HN.out).mono ?_); rintro e w1 ⟨v1, rfl, hp, hb1⟩; have BL' := Aside0.mk (below_step BL.out hb1); clear BL hb1; have BL := BL'; clear BL'; have HP := Aside0.mk hp; clear hp))
   go_ret
   exact ⟨_, rfl, HP.out, BL.out⟩

set_option maxHeartbeats 4000000 in
set_option maxRecDepth 100000 in
theorem join_pair_mixed1 {va vb : Value} {l r b : Tr} {w : World} (ha : IsPart w va (Tr.node l r)) (hb : IsPart w vb b) (oa : (Tr.node l r).Ok) (ob : b.Ok) (hn : (Tr.node l r).txt.length + b.txt.length ≤ 1000000) (g1 : ¬ b.ht + 1 < (Tr.node l r).ht) (g2 : ¬ (Tr.node l r).ht + 1 < b.ht) :
    Calls Tryd.prog 43 #[va, vb] w fun e w' => ∃ v, e = .returned v ∧ IsPart w' v (.node (Tr.node l r) b) ∧ Below w.heap.size w w' := by
  have HA := Aside0.mk ha
  have HB := Aside0.mk hb
  have bA := cH_bounds oa (by omega)
  have bB := cH_bounds ob (by omega)
  have W1 : IntKind.i64.wrap (cH b + 1) = cH b + 1 := IntWalk.i64_in _ (by omega)
  have W2 : IntKind.i64.wrap (cH (Tr.node l r) + 1) = cH (Tr.node l r) + 1 := IntWalk.i64_in _ (by omega)
  have e1 : ¬ (cH b + 1 < cH (Tr.node l r)) := by unfold cH; omega
  have e2 : ¬ (cH (Tr.node l r) + 1 < cH b) := by unfold cH; omega
  have HO := Aside0.mk (And.intro oa ob)
  have HN : Aside0 ((Tr.node (Tr.node l r) b).txt.length ≤ 1000000) := ⟨by simp [Tr.txt] at hn ⊢; omega⟩
  have BL0 := Aside0.mk (Below.refl w.heap.size w)
  obtain ⟨ba, x, y, hva, c6, c7, hl, hr⟩ := ha.cells
  obtain ⟨T, bb, hT, hvb, h0⟩ := hb.view
  subst hva hvb
  clear ha hb oa ob hn g1 g2 hl hr c6 c7 h0
  rcases hT with rfl | rfl
  all_goals
   go_enter Tryd.func43, Tryd.ntmps43
   go_wp2
   go_quiet (fail)
   have BL := Aside0.mk (below_drewN BL0.out nq)
   clear BL0
   go_wp2_with (first
    | (go_at_call 63; (with_reducible refine (high_calls (HA.out.below BL.out)).mono ?_); rintro e w1 ⟨rfl, hb1⟩; have BL' := Aside0.mk (below_step BL.out hb1); clear BL hb1; have BL := BL'; clear BL')
    | (go_at_call 63; (with_reducible refine (high_calls (HB.out.below BL.out)).mono ?_); rintro e w1 ⟨rfl, hb1⟩; have BL' := Aside0.mk (below_step BL.out hb1); clear BL hb1; have BL := BL'; clear BL')
    | (go_at_call 65; (with_reducible refine (pair_calls (HA.out.below BL.out) (HB.out.below BL.out) HO.out.1 HO.out.2 HN.out).mono ?_); rintro e w1 ⟨v1, rfl, hp, hb1⟩; have BL' := Aside0.mk (below_step BL.out hb1); clear BL hb1; have BL := BL'; clear BL'; have HP := Aside0.mk hp; clear hp))
   go_ret
   exact ⟨_, rfl, HP.out, BL.out⟩

set_option maxHeartbeats 4000000 in
set_option maxRecDepth 100000 in
theorem join_pair_mixed2 {va vb : Value} {l r a : Tr} {w : World} (ha : IsPart w va a) (hb : IsPart w vb (Tr.node l r)) (oa : a.Ok) (ob : (Tr.node l r).Ok) (hn : a.txt.length + (Tr.node l r).txt.length ≤ 1000000) (g1 : ¬ (Tr.node l r).ht + 1 < a.ht) (g2 : ¬ a.ht + 1 < (Tr.node l r).ht) :
    Calls Tryd.prog 43 #[va, vb] w fun e w' => ∃ v, e = .returned v ∧ IsPart w' v (.node a (Tr.node l r)) ∧ Below w.heap.size w w' := by
  have HA := Aside0.mk ha
  have HB := Aside0.mk hb
  have bA := cH_bounds oa (by omega)
  have bB := cH_bounds ob (by omega)
  have W1 : IntKind.i64.wrap (cH (Tr.node l r) + 1) = cH (Tr.node l r) + 1 := IntWalk.i64_in _ (by omega)
  have W2 : IntKind.i64.wrap (cH a + 1) = cH a + 1 := IntWalk.i64_in _ (by omega)
  have e1 : ¬ (cH (Tr.node l r) + 1 < cH a) := by unfold cH; omega
  have e2 : ¬ (cH a + 1 < cH (Tr.node l r)) := by unfold cH; omega
  have HO := Aside0.mk (And.intro oa ob)
  have HN : Aside0 ((Tr.node a (Tr.node l r)).txt.length ≤ 1000000) := ⟨by simp [Tr.txt] at hn ⊢; omega⟩
  have BL0 := Aside0.mk (Below.refl w.heap.size w)
  obtain ⟨bb, x, y, hvb, c6, c7, hl, hr⟩ := hb.cells
  obtain ⟨T, ba, hT, hva, h0⟩ := ha.view
  subst hva hvb
  clear ha hb oa ob hn g1 g2 hl hr c6 c7 h0
  rcases hT with rfl | rfl
  all_goals
   go_enter Tryd.func43, Tryd.ntmps43
   go_wp2
   go_quiet (fail)
   have BL := Aside0.mk (below_drewN BL0.out nq)
   clear BL0
   go_wp2_with (first
    | (go_at_call 63; (with_reducible refine (high_calls (HA.out.below BL.out)).mono ?_); rintro e w1 ⟨rfl, hb1⟩; have BL' := Aside0.mk (below_step BL.out hb1); clear BL hb1; have BL := BL'; clear BL')
    | (go_at_call 63; (with_reducible refine (high_calls (HB.out.below BL.out)).mono ?_); rintro e w1 ⟨rfl, hb1⟩; have BL' := Aside0.mk (below_step BL.out hb1); clear BL hb1; have BL := BL'; clear BL')
    | (go_at_call 65; (with_reducible refine (pair_calls (HA.out.below BL.out) (HB.out.below BL.out) HO.out.1 HO.out.2 HN.out).mono ?_); rintro e w1 ⟨v1, rfl, hp, hb1⟩; have BL' := Aside0.mk (below_step BL.out hb1); clear BL hb1; have BL := BL'; clear BL'; have HP := Aside0.mk hp; clear hp))
   go_ret
   exact ⟨_, rfl, HP.out, BL.out⟩

set_option maxHeartbeats 4000000 in
set_option maxRecDepth 100000 in
theorem join_left {va vb : Value} {l r t : Tr} {w : World} (ha : IsPart w va (Tr.node l r)) (hb : IsPart w vb t) (oa : (Tr.node l r).Ok) (ob : t.Ok) (hn : (Tr.node l r).txt.length + t.txt.length ≤ 1000000) (g1 : t.ht + 1 < (Tr.node l r).ht)
    (ih : ∀ (v1 : Value) (w1 : World), Below w.heap.size w w1 → IsPart w1 v1 r → Calls Tryd.prog 43 #[v1, vb] w1 (Made w1 (fun u => Tr.Joins r t u))) :
    Calls Tryd.prog 43 #[va, vb] w (Made w (fun z => ∃ u, Tr.Joins r t u ∧ z = Tr.level l u)) := by
  have IH := Aside0.mk ih
  clear ih
  have HA := Aside0.mk ha
  have HB := Aside0.mk hb
  have bA := cH_bounds oa (by omega)
  have bB := cH_bounds ob (by omega)
  have W1 : IntKind.i64.wrap (cH t + 1) = cH t + 1 := IntWalk.i64_in _ (by omega)
  have W2 : IntKind.i64.wrap (cH (Tr.node l r) + 1) = cH (Tr.node l r) + 1 := IntWalk.i64_in _ (by omega)
  have e1 : cH t + 1 < cH (Tr.node l r) := by unfold cH; omega
  have HO := Aside0.mk (And.intro oa ob)
  have HN : Aside0 (l.txt.length + r.txt.length + t.txt.length ≤ 1000000) := ⟨by simp [Tr.txt] at hn ⊢; omega⟩
  have BL0 := Aside0.mk (Below.refl w.heap.size w)
  obtain ⟨bj, x, y, hvj, c6, c7, hl, hr⟩ := ha.cells
  obtain ⟨T, bt, hT, hvt, h0⟩ := hb.view
  have C6 := Aside0.mk c6
  have C7 := Aside0.mk c7
  have HL := Aside0.mk hl
  have HR := Aside0.mk hr
  subst hvj hvt
  clear ha hb oa ob hn g1 hl hr c6 c7 h0
  rcases hT with rfl | rfl
  all_goals
   go_enter Tryd.func43, Tryd.ntmps43
   go_wp2
   go_quiet (fail)
   have BL := Aside0.mk (below_drewN BL0.out nq)
   clear BL0
   go_wp2_with (first
    | (go_at_call 63; (with_reducible refine (high_calls (HA.out.below BL.out)).mono ?_); rintro e w1 ⟨rfl, hb1⟩; have BL' := Aside0.mk (below_step BL.out hb1); clear BL hb1; have BL := BL'; clear BL')
    | (go_at_call 63; (with_reducible refine (high_calls (HB.out.below BL.out)).mono ?_); rintro e w1 ⟨rfl, hb1⟩; have BL' := Aside0.mk (below_step BL.out hb1); clear BL hb1; have BL := BL'; clear BL'))
   have bd : Below w.heap.size w w1.drew := below_drew1 BL.out
   have d6 : w1.drew.cell? ⟨bj, 6, none⟩ = some x := pw_cell_below bd C6.out
   have d7 : w1.drew.cell? ⟨bj, 7, none⟩ = some y := pw_cell_below bd C7.out
   go_region_held3 (fun w2 => Below w.heap.size w w2 ∧ w2.cell? ⟨bj, 6, none⟩ = some x ∧ w2.cell? ⟨bj, 7, none⟩ = some y) (first | (refine ⟨?_, ?_, ?_⟩ <;> assumption) | assumption) (first
    | (go_at_call 43; (with_reducible refine (IH.out y _ (by assumption) (HR.out.below (by assumption))).mono ?_); rintro e w4 ⟨v0, u, rfl, hp0, hj0, hb1⟩; have hbx := below_step (by assumption) hb1; have f6 := pw_cell_below hbx C6.out; have f7 := pw_cell_below hbx C7.out; have HJ := Aside0.mk hj0; clear hj0; have LN : Aside0 (l.txt.length + u.txt.length ≤ 1000000) := ⟨by rw [HJ.out.txt, List.length_append]; have := HN.out; omega⟩)
    | (go_at_call 64; (with_reducible refine (level_calls (HL.out.below (by assumption)) hp0 (Tr.Ok.left HO.out.1) HJ.out.ok LN.out).mono ?_); rintro e w4 ⟨v1, z, rfl, hp1, hz, hb1⟩; have hbx := below_step (by assumption) hb1; have f6 := pw_cell_below hbx C6.out; have f7 := pw_cell_below hbx C7.out; have HZ := Aside0.mk hz; clear hz))
   go_wp2
   go_ret
   exact ⟨_, _, rfl, hp1, ⟨u, HJ.out, HZ.out⟩, hbx⟩

set_option maxHeartbeats 4000000 in
set_option maxRecDepth 100000 in
theorem join_right {va vb : Value} {l r t : Tr} {w : World} (ha : IsPart w va t) (hb : IsPart w vb (Tr.node l r)) (oa : t.Ok) (ob : (Tr.node l r).Ok) (hn : t.txt.length + (Tr.node l r).txt.length ≤ 1000000) (g1 : t.ht + 1 < (Tr.node l r).ht)
    (ih : ∀ (v1 : Value) (w1 : World), Below w.heap.size w w1 → IsPart w1 v1 l → Calls Tryd.prog 43 #[va, v1] w1 (Made w1 (fun u => Tr.Joins t l u))) :
    Calls Tryd.prog 43 #[va, vb] w (Made w (fun z => ∃ u, Tr.Joins t l u ∧ z = Tr.level u r)) := by
  have IH := Aside0.mk ih
  clear ih
  have HA := Aside0.mk ha
  have HB := Aside0.mk hb
  have bA := cH_bounds oa (by omega)
  have bB := cH_bounds ob (by omega)
  have W1 : IntKind.i64.wrap (cH (Tr.node l r) + 1) = cH (Tr.node l r) + 1 := IntWalk.i64_in _ (by omega)
  have W2 : IntKind.i64.wrap (cH t + 1) = cH t + 1 := IntWalk.i64_in _ (by omega)
  have e1 : ¬ (cH (Tr.node l r) + 1 < cH t) := by unfold cH; omega
  have e2 : cH t + 1 < cH (Tr.node l r) := by unfold cH; omega
  have HO := Aside0.mk (And.intro oa ob)
  have HN : Aside0 (l.txt.length + r.txt.length + t.txt.length ≤ 1000000) := ⟨by simp [Tr.txt] at hn ⊢; omega⟩
  have BL0 := Aside0.mk (Below.refl w.heap.size w)
  obtain ⟨bj, x, y, hvj, c6, c7, hl, hr⟩ := hb.cells
  obtain ⟨T, bt, hT, hvt, h0⟩ := ha.view
  have C6 := Aside0.mk c6
  have C7 := Aside0.mk c7
  have HL := Aside0.mk hl
  have HR := Aside0.mk hr
  subst hvj hvt
  clear ha hb oa ob hn g1 hl hr c6 c7 h0
  rcases hT with rfl | rfl
  all_goals
   go_enter Tryd.func43, Tryd.ntmps43
   go_wp2
   go_quiet (fail)
   have BL := Aside0.mk (below_drewN BL0.out nq)
   clear BL0
   go_wp2_with (first
    | (go_at_call 63; (with_reducible refine (high_calls (HA.out.below BL.out)).mono ?_); rintro e w1 ⟨rfl, hb1⟩; have BL' := Aside0.mk (below_step BL.out hb1); clear BL hb1; have BL := BL'; clear BL')
    | (go_at_call 63; (with_reducible refine (high_calls (HB.out.below BL.out)).mono ?_); rintro e w1 ⟨rfl, hb1⟩; have BL' := Aside0.mk (below_step BL.out hb1); clear BL hb1; have BL := BL'; clear BL'))
   have bd : Below w.heap.size w w1.drew := below_drew1 BL.out
   have d6 : w1.drew.cell? ⟨bj, 6, none⟩ = some x := pw_cell_below bd C6.out
   have d7 : w1.drew.cell? ⟨bj, 7, none⟩ = some y := pw_cell_below bd C7.out
   go_region_held3 (fun w2 => Below w.heap.size w w2 ∧ w2.cell? ⟨bj, 6, none⟩ = some x ∧ w2.cell? ⟨bj, 7, none⟩ = some y) (first | (refine ⟨?_, ?_, ?_⟩ <;> assumption) | assumption) (first
    | (go_at_call 43; (with_reducible refine (IH.out x _ (by assumption) (HL.out.below (by assumption))).mono ?_); rintro e w4 ⟨v0, u, rfl, hp0, hj0, hb1⟩; have hbx := below_step (by assumption) hb1; have f6 := pw_cell_below hbx C6.out; have f7 := pw_cell_below hbx C7.out; have HJ := Aside0.mk hj0; clear hj0; have LN : Aside0 (u.txt.length + r.txt.length ≤ 1000000) := ⟨by rw [HJ.out.txt, List.length_append]; have := HN.out; omega⟩)
    | (go_at_call 64; (with_reducible refine (level_calls hp0 (HR.out.below (by assumption)) HJ.out.ok (Tr.Ok.right HO.out.2) LN.out).mono ?_); rintro e w4 ⟨v1, z, rfl, hp1, hz, hb1⟩; have hbx := below_step (by assumption) hb1; have f6 := pw_cell_below hbx C6.out; have f7 := pw_cell_below hbx C7.out; have HZ := Aside0.mk hz; clear hz))
   go_wp2
   go_ret
   exact ⟨_, _, rfl, hp1, ⟨u, HJ.out, HZ.out⟩, hbx⟩


/-- join: whatever two parts, balanced. -/
theorem join_calls : ∀ (n : Nat) {va vb : Value} {a b : Tr} {w : World}, a.ht + b.ht ≤ n → Tb w → IsPart w va a → IsPart w vb b → a.Ok → b.Ok → a.Bal → b.Bal → a.txt.length + b.txt.length ≤ 1000000 →
    Calls Tryd.prog 43 #[va, vb] w (Made w (fun u => Tr.Joins a b u))
  | 0, va, vb, a, b, w, hn, _, _, _, _, _, _, _, _ => absurd hn (by have := a.ht_pos; omega)
  | n + 1, va, vb, a, b, w, hn, ht, ha, hb, oa, ob, ba, bb, hl => by
    have asPair : (Calls Tryd.prog 43 #[va, vb] w fun e w' => ∃ v, e = .returned v ∧ IsPart w' v (.node a b) ∧ Below w.heap.size w w') → ¬ b.ht + 1 < a.ht → ¬ a.ht + 1 < b.ht → Calls Tryd.prog 43 #[va, vb] w (Made w (fun u => Tr.Joins a b u)) :=
      fun h g1 g2 => h.mono fun e w' ⟨v, h1, h2, h3⟩ => ⟨v, _, h1, h2, Tr.joins_pair oa ob ba bb (by omega) (by omega), h3⟩
    have goLeft : ∀ {l r : Tr}, a = .node l r → b.ht + 1 < a.ht → Calls Tryd.prog 43 #[va, vb] w (Made w (fun u => Tr.Joins a b u)) := by
      intro l r e g
      subst e
      refine (join_left ha hb oa ob hl g (fun v1 w1 hb1 hp => ?_)).mono ?_
      · exact join_calls n (by simp [Tr.ht] at hn; omega) (ht.below hb1) hp (hb.below hb1) oa.2 ob ba.2.1 bb (by simp [Tr.txt] at hl; omega)
      · rintro e w' ⟨v, z, h1, h2, ⟨u, hu, rfl⟩, h3⟩
        exact ⟨v, _, h1, h2, (Tr.joins_left oa.1 ba g hu).1, h3⟩
    have goRight : ∀ {l r : Tr}, b = .node l r → a.ht + 1 < b.ht → Calls Tryd.prog 43 #[va, vb] w (Made w (fun u => Tr.Joins a b u)) := by
      intro l r e g
      subst e
      refine (join_right ha hb oa ob hl g (fun v1 w1 hb1 hp => ?_)).mono ?_
      · exact join_calls n (by simp [Tr.ht] at hn; omega) (ht.below hb1) (ha.below hb1) hp oa ob.1 ba bb.1 (by simp [Tr.txt] at hl; omega)
      · rintro e w' ⟨v, z, h1, h2, ⟨u, hu, rfl⟩, h3⟩
        exact ⟨v, _, h1, h2, (Tr.joins_right ob.2 bb g hu).1, h3⟩
    cases a with
    | leaf s =>
      cases b with
      | leaf t =>
        by_cases g : s.size + t.size ≤ 128
        · obtain ⟨m, hm⟩ := ht.m
          have h0 : 0 < s.size := by
            have := List.length_pos_iff.2 oa.1
            rw [Array.length_toList] at this
            exact this
          refine (join_leafs ha hb h0 g m hm).mono ?_
          rintro e w' ⟨v, h1, h2, h3⟩
          have e1 : (s ++ t).data.toList = s.data.toList ++ t.data.toList := by rw [ByteArray.data_append]; simp
          refine ⟨v, _, h1, h2, ⟨e1, ⟨?_, ?_⟩, trivial, Nat.le_refl _, ?_⟩, h3⟩
          · rw [e1]; intro h; exact oa.1 (List.append_eq_nil_iff.1 h).1
          · rw [e1, valid_app _ _ oa.2]; exact ob.2
          · simp [Tr.ht]
        · exact asPair (join_pair_leafs ha hb oa ob hl g) (by simp [Tr.ht]) (by simp [Tr.ht])
      | node l r =>
        by_cases g : (Tr.leaf s).ht + 1 < (Tr.node l r).ht
        · exact goRight rfl g
        · have g1 : ¬ (Tr.node l r).ht + 1 < (Tr.leaf s).ht := by simp [Tr.ht]
          exact asPair (join_pair_mixed2 ha hb oa ob hl g1 g) g1 g
    | node l r =>
      by_cases g : b.ht + 1 < (Tr.node l r).ht
      · exact goLeft rfl g
      · by_cases g2 : (Tr.node l r).ht + 1 < b.ht
        · cases b with
          | leaf s => exact absurd g2 (by simp [Tr.ht])
          | node p q => exact goRight rfl g2
        · exact asPair (join_pair_mixed1 ha hb oa ob hl g g2) g g2
end Go.Proofs.YtobhfpepclepdaaDoor
