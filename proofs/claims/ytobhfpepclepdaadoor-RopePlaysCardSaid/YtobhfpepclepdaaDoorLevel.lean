/- Ropes: level, case by case. -/
import Derived.Test.YtobhfpepclepdaaDoorBal
import Derived.Deep.RegionHeld3
namespace Go.Proofs.YtobhfpepclepdaaDoor
open Go.RowKit Go.Proofs.YtobhfpepclepdaaDoorW.PrintWords Go.Proofs.YtobhfpepclepdaaDoorW.PrintLast Go.Proofs.YtobhfpepclepdaaDoorW.PrintMore
open Go.Proofs.YtobhfpepclepdaaDoor.PRope
open Go.Lib (decodeL validD)
set_option linter.unusedVariables false
attribute [local go_sem] fld0 fld1 fld2 fld3 fld4 fld5
theorem ta112 (p : Value) (w : World) : (Instr.typeAssert (.iface 112 p) 82 112 false).run Tryd.prog w = .ok p w := by kernel_rfl
attribute [local go_sem] ta112
theorem cH_bounds {t : Tr} (h : t.Ok) (hn : t.txt.length ≤ 1000000) : 1 ≤ cH t ∧ cH t ≤ 1000000 := by
  have := h.ht_le
  have := t.ht_pos
  unfold cH
  omega
theorem IsPart.cells {w : World} {v : Value} {l r : Tr} (h : IsPart w v (.node l r)) : ∃ b x y, v = .iface 112 (.pointer (some ⟨b, 0, none⟩)) ∧ w.cell? ⟨b, 6, none⟩ = some x ∧ w.cell? ⟨b, 7, none⟩ = some y ∧ IsPart w x l ∧ IsPart w y r := by
  obtain ⟨b, x, y, hv, hh, hl, hr⟩ := h
  exact ⟨b, x, y, hv, blk_cell hh 6, blk_cell hh 7, hl, hr⟩
set_option maxHeartbeats 4000000 in
set_option maxRecDepth 100000 in
theorem level_pair {va vb : Value} {a b : Tr} {w : World} (ha : IsPart w va a) (hb : IsPart w vb b) (oa : a.Ok) (ob : b.Ok) (hn : (Tr.node a b).txt.length ≤ 1000000) (g1 : ¬ b.ht + 1 < a.ht) (g2 : ¬ a.ht + 1 < b.ht) :
    Calls Tryd.prog 64 #[va, vb] w fun e w' => ∃ v, e = .returned v ∧ IsPart w' v (.node a b) ∧ Below w.heap.size w w' := by
  have HA := Aside0.mk ha
  have HB := Aside0.mk hb
  have hn1 : a.txt.length ≤ 1000000 ∧ b.txt.length ≤ 1000000 := by simp [Tr.txt] at hn; omega
  have bA := cH_bounds oa hn1.1
  have bB := cH_bounds ob hn1.2
  have e1 : ¬ (cH b + 1 < cH a) := by unfold cH; omega
  have e2 : ¬ (cH a + 1 < cH b) := by unfold cH; omega
  have W1 : IntKind.i64.wrap (cH b + 1) = cH b + 1 := IntWalk.i64_in _ (by omega)
  have W2 : IntKind.i64.wrap (cH a + 1) = cH a + 1 := IntWalk.i64_in _ (by omega)
  have HO := Aside0.mk (And.intro oa (And.intro ob hn))
  clear ha hb oa ob hn hn1 g1 g2
  have BL := Aside0.mk (Below.refl w.heap.size w)
  go_enter Tryd.func64, Tryd.ntmps64
  go_wp2_with (first
    | (go_at_call 63; refine (high_calls (v := va) (HA.out.below BL.out)).mono ?_; rintro e w1 ⟨rfl, hb1⟩; have BL' := Aside0.mk (below_step BL.out hb1); clear BL hb1; have BL := BL'; clear BL')
    | (go_at_call 63; refine (high_calls (v := vb) (HB.out.below BL.out)).mono ?_; rintro e w1 ⟨rfl, hb1⟩; have BL' := Aside0.mk (below_step BL.out hb1); clear BL hb1; have BL := BL'; clear BL')
    | (go_at_call 65; refine (pair_calls (HA.out.below BL.out) (HB.out.below BL.out) HO.out.1 HO.out.2.1 HO.out.2.2).mono ?_; rintro e w1 ⟨v1, rfl, hp, hb1⟩; have BL' := Aside0.mk (below_step BL.out hb1); clear BL hb1; have BL := BL'; clear BL'; have HP := Aside0.mk hp; clear hp))
  go_ret
  exact ⟨_, rfl, HP.out, BL.out⟩

set_option maxHeartbeats 4000000 in
set_option maxRecDepth 100000 in
theorem level_left1 {va vb : Value} {l r t : Tr} {w : World} (hj : IsPart w va (Tr.node l r)) (ht : IsPart w vb t) (oj : (Tr.node l r).Ok) (ot : t.Ok) (hn : (Tr.node l r).txt.length + t.txt.length ≤ 1000000) (g1 : t.ht + 1 < (Tr.node l r).ht) (g2 : r.ht ≤ l.ht) :
    Calls Tryd.prog 64 #[va, vb] w fun e w' => ∃ v, e = .returned v ∧ IsPart w' v (.node l (.node r t)) ∧ Below w.heap.size w w' := by
  have HJ := Aside0.mk hj
  have HT := Aside0.mk ht
  have hn1 : l.txt.length + r.txt.length + t.txt.length ≤ 1000000 := by simp [Tr.txt] at hn; omega
  have bJ := cH_bounds oj (by simp [Tr.txt]; omega)
  have bT := cH_bounds ot (by omega)
  have e1 : cH t + 1 < cH (Tr.node l r) := by unfold cH; omega
  have e1' : ¬ (cH (Tr.node l r) + 1 < cH t) := by unfold cH; omega
  have e2 : cH r ≤ cH l := by unfold cH; omega
  have W1 : IntKind.i64.wrap (cH t + 1) = cH t + 1 := IntWalk.i64_in _ (by omega)
  have Ol := Aside0.mk oj.1
  have Or := Aside0.mk oj.2
  have Ot := Aside0.mk ot
  have N0 : Aside0 ((Tr.node r t).txt.length ≤ 1000000) := ⟨by simp [Tr.txt]; omega⟩
  have M0 : Aside0 (Tr.node r t).Ok := ⟨⟨oj.2, ot⟩⟩
  have N1 : Aside0 ((Tr.node l (.node r t)).txt.length ≤ 1000000) := ⟨by simp [Tr.txt]; omega⟩
  have M1 : Aside0 (Tr.node l (.node r t)).Ok := ⟨⟨oj.1, ⟨oj.2, ot⟩⟩⟩
  obtain ⟨bj, x, y, rfl, c6, c7, hl, hr⟩ := hj.cells
  have C6 := Aside0.mk c6
  have C7 := Aside0.mk c7
  have HL := Aside0.mk hl
  have HR := Aside0.mk hr
  clear hj ht oj ot hn hn1 g1 g2 hl hr
  have BL := Aside0.mk (Below.refl w.heap.size w)
  go_enter Tryd.func64, Tryd.ntmps64
  go_wp2_with (first
    | (go_at_call 63; refine (high_calls (HJ.out.below BL.out)).mono ?_; rintro e w1 ⟨rfl, hb1⟩; have BL' := Aside0.mk (below_step BL.out hb1); clear BL hb1; have BL := BL'; clear BL')
    | (go_at_call 63; refine (high_calls (v := vb) (HT.out.below BL.out)).mono ?_; rintro e w1 ⟨rfl, hb1⟩; have BL' := Aside0.mk (below_step BL.out hb1); clear BL hb1; have BL := BL'; clear BL'; clear c6 c7; have c6 := pw_cell_below BL.out C6.out; have c7 := pw_cell_below BL.out C7.out))
  have bd : Below w.heap.size w w1.drew := below_drew1 BL.out
  have d6 : w1.drew.cell? ⟨bj, 6, none⟩ = some x := c6
  have d7 : w1.drew.cell? ⟨bj, 7, none⟩ = some y := c7
  go_region_held3 (fun w2 => Below w.heap.size w w2 ∧ w2.cell? ⟨bj, 6, none⟩ = some x ∧ w2.cell? ⟨bj, 7, none⟩ = some y) (first | (refine ⟨?_, ?_, ?_⟩ <;> assumption) | assumption) (first
    | (go_at_call 63; with_reducible refine (high_calls (v := x) (HL.out.below (by assumption))).mono ?_; rintro e w3 ⟨rfl, hb1⟩; have hb2 := below_step (by assumption) hb1; have f6 := pw_cell_below hb2 C6.out; have f7 := pw_cell_below hb2 C7.out)
    | (go_at_call 63; with_reducible refine (high_calls (v := y) (HR.out.below (by assumption))).mono ?_; rintro e w3 ⟨rfl, hb1⟩; have hb2 := below_step (by assumption) hb1; have f6 := pw_cell_below hb2 C6.out; have f7 := pw_cell_below hb2 C7.out))
  have g6 : w3.cell? ⟨bj, 6, none⟩ = some x := pw_cell_below hb2 C6.out
  have g7 : w3.cell? ⟨bj, 7, none⟩ = some y := pw_cell_below hb2 C7.out
  go_wp2
  have bd3 : Below w.heap.size w w3.drew := below_drew1 hb2
  have k6 : w3.drew.cell? ⟨bj, 6, none⟩ = some x := pw_cell_below bd3 C6.out
  have k7 : w3.drew.cell? ⟨bj, 7, none⟩ = some y := pw_cell_below bd3 C7.out
  go_region_held3 (fun w2 => Below w.heap.size w w2 ∧ w2.cell? ⟨bj, 6, none⟩ = some x ∧ w2.cell? ⟨bj, 7, none⟩ = some y) (first | (refine ⟨?_, ?_, ?_⟩ <;> assumption) | assumption) (first
    | (go_at_call 65; with_reducible refine (pair_calls (va := y) (vb := vb) (HR.out.below (by assumption)) (HT.out.below (by assumption)) Or.out Ot.out N0.out).mono ?_; rintro e w4 ⟨v0, rfl, hp0, hb1⟩; have hbx := below_step (by assumption) hb1; have f6 := pw_cell_below hbx C6.out; have f7 := pw_cell_below hbx C7.out)
    | (go_at_call 65; with_reducible refine (pair_calls (va := x) (vb := v0) (HL.out.below (by assumption)) hp0 Ol.out M0.out N1.out).mono ?_; rintro e w4 ⟨v1, rfl, hp1, hb1⟩; have hbx := below_step (by assumption) hb1; (try (replace hp0 := hp0.below hb1)); have f6 := pw_cell_below hbx C6.out; have f7 := pw_cell_below hbx C7.out))
  all_goals (go_wp2; go_ret; exact ⟨_, rfl, hp1, hbx⟩)
set_option maxHeartbeats 4000000 in
set_option maxRecDepth 100000 in
theorem level_right1 {va vb : Value} {l r t : Tr} {w : World} (hj : IsPart w vb (Tr.node l r)) (ht : IsPart w va t) (oj : (Tr.node l r).Ok) (ot : t.Ok) (hn : (Tr.node l r).txt.length + t.txt.length ≤ 1000000) (g1 : t.ht + 1 < (Tr.node l r).ht) (g2 : l.ht ≤ r.ht) :
    Calls Tryd.prog 64 #[va, vb] w fun e w' => ∃ v, e = .returned v ∧ IsPart w' v (.node (.node t l) r) ∧ Below w.heap.size w w' := by
  have HJ := Aside0.mk hj
  have HT := Aside0.mk ht
  have hn1 : l.txt.length + r.txt.length + t.txt.length ≤ 1000000 := by simp [Tr.txt] at hn; omega
  have bJ := cH_bounds oj (by simp [Tr.txt]; omega)
  have bT := cH_bounds ot (by omega)
  have e1 : cH t + 1 < cH (Tr.node l r) := by unfold cH; omega
  have e1' : ¬ (cH (Tr.node l r) + 1 < cH t) := by unfold cH; omega
  have e2 : cH l ≤ cH r := by unfold cH; omega
  have W1 : IntKind.i64.wrap (cH t + 1) = cH t + 1 := IntWalk.i64_in _ (by omega)
  have W2 : IntKind.i64.wrap (cH (Tr.node l r) + 1) = cH (Tr.node l r) + 1 := IntWalk.i64_in _ (by omega)
  have Ol := Aside0.mk oj.1
  have Or := Aside0.mk oj.2
  have Ot := Aside0.mk ot
  have N0 : Aside0 ((Tr.node t l).txt.length ≤ 1000000) := ⟨by simp [Tr.txt]; omega⟩
  have M0 : Aside0 (Tr.node t l).Ok := ⟨⟨ot, oj.1⟩⟩
  have N1 : Aside0 ((Tr.node (.node t l) r).txt.length ≤ 1000000) := ⟨by simp [Tr.txt]; omega⟩
  have M1 : Aside0 (Tr.node (.node t l) r).Ok := ⟨⟨⟨ot, oj.1⟩, oj.2⟩⟩
  obtain ⟨bj, x, y, rfl, c6, c7, hl, hr⟩ := hj.cells
  have C6 := Aside0.mk c6
  have C7 := Aside0.mk c7
  have HL := Aside0.mk hl
  have HR := Aside0.mk hr
  clear hj ht oj ot hn hn1 g1 g2 hl hr
  have BL := Aside0.mk (Below.refl w.heap.size w)
  go_enter Tryd.func64, Tryd.ntmps64
  go_wp2_with (first
    | (go_at_call 63; refine (high_calls (v := va) (HT.out.below BL.out)).mono ?_; rintro e w1 ⟨rfl, hb1⟩; have BL' := Aside0.mk (below_step BL.out hb1); clear BL hb1; have BL := BL'; clear BL'; clear c6 c7; have c6 := pw_cell_below BL.out C6.out; have c7 := pw_cell_below BL.out C7.out)
    | (go_at_call 63; refine (high_calls (HJ.out.below BL.out)).mono ?_; rintro e w1 ⟨rfl, hb1⟩; have BL' := Aside0.mk (below_step BL.out hb1); clear BL hb1; have BL := BL'; clear BL'; clear c6 c7; have c6 := pw_cell_below BL.out C6.out; have c7 := pw_cell_below BL.out C7.out))
  have bd : Below w.heap.size w w1.drew := below_drew1 BL.out
  have d6 : w1.drew.cell? ⟨bj, 6, none⟩ = some x := c6
  have d7 : w1.drew.cell? ⟨bj, 7, none⟩ = some y := c7
  go_region_held3 (fun w2 => Below w.heap.size w w2 ∧ w2.cell? ⟨bj, 6, none⟩ = some x ∧ w2.cell? ⟨bj, 7, none⟩ = some y) (first | (refine ⟨?_, ?_, ?_⟩ <;> assumption) | assumption) (first
    | (go_at_call 63; with_reducible refine (high_calls (v := x) (HL.out.below (by assumption))).mono ?_; rintro e w3 ⟨rfl, hb1⟩; have hb2 := below_step (by assumption) hb1; have f6 := pw_cell_below hb2 C6.out; have f7 := pw_cell_below hb2 C7.out)
    | (go_at_call 63; with_reducible refine (high_calls (v := y) (HR.out.below (by assumption))).mono ?_; rintro e w3 ⟨rfl, hb1⟩; have hb2 := below_step (by assumption) hb1; have f6 := pw_cell_below hb2 C6.out; have f7 := pw_cell_below hb2 C7.out))
  have g6 : w3.cell? ⟨bj, 6, none⟩ = some x := pw_cell_below hb2 C6.out
  have g7 : w3.cell? ⟨bj, 7, none⟩ = some y := pw_cell_below hb2 C7.out
  go_wp2
  have bd3 : Below w.heap.size w w3.drew := below_drew1 hb2
  have k6 : w3.drew.cell? ⟨bj, 6, none⟩ = some x := pw_cell_below bd3 C6.out
  have k7 : w3.drew.cell? ⟨bj, 7, none⟩ = some y := pw_cell_below bd3 C7.out
  go_region_held3 (fun w2 => Below w.heap.size w w2 ∧ w2.cell? ⟨bj, 6, none⟩ = some x ∧ w2.cell? ⟨bj, 7, none⟩ = some y) (first | (refine ⟨?_, ?_, ?_⟩ <;> assumption) | assumption) (first
    | (go_at_call 65; with_reducible refine (pair_calls (va := va) (vb := x) (HT.out.below (by assumption)) (HL.out.below (by assumption)) Ot.out Ol.out N0.out).mono ?_; rintro e w4 ⟨v0, rfl, hp0, hb1⟩; have hbx := below_step (by assumption) hb1; have f6 := pw_cell_below hbx C6.out; have f7 := pw_cell_below hbx C7.out)
    | (go_at_call 65; with_reducible refine (pair_calls (va := v0) (vb := y) hp0 (HR.out.below (by assumption)) M0.out Or.out N1.out).mono ?_; rintro e w4 ⟨v1, rfl, hp1, hb1⟩; have hbx := below_step (by assumption) hb1; (try (replace hp0 := hp0.below hb1)); have f6 := pw_cell_below hbx C6.out; have f7 := pw_cell_below hbx C7.out))
  all_goals (go_wp2; go_ret; exact ⟨_, rfl, hp1, hbx⟩)
set_option maxHeartbeats 4000000 in
set_option maxRecDepth 100000 in
theorem level_left2 {va vb : Value} {l p q t : Tr} {w : World} (hj : IsPart w va (Tr.node l (.node p q))) (ht : IsPart w vb t) (oj : (Tr.node l (.node p q)).Ok) (ot : t.Ok) (hn : (Tr.node l (.node p q)).txt.length + t.txt.length ≤ 1000000) (g1 : t.ht + 1 < (Tr.node l (.node p q)).ht) (g2 : ¬ (Tr.node p q).ht ≤ l.ht) :
    Calls Tryd.prog 64 #[va, vb] w fun e w' => ∃ v, e = .returned v ∧ IsPart w' v (.node (.node l p) (.node q t)) ∧ Below w.heap.size w w' := by
  have HJ := Aside0.mk hj
  have HT := Aside0.mk ht
  have hn1 : l.txt.length + p.txt.length + q.txt.length + t.txt.length ≤ 1000000 := by simp [Tr.txt] at hn; omega
  have bJ := cH_bounds oj (by simp [Tr.txt]; omega)
  have bT := cH_bounds ot (by omega)
  have e1 : cH t + 1 < cH (Tr.node l (.node p q)) := by unfold cH; omega
  have e1' : ¬ (cH (Tr.node l (.node p q)) + 1 < cH t) := by unfold cH; omega
  have e2 : ¬ (cH (Tr.node p q) ≤ cH l) := by unfold cH; omega
  have e3 : cH l < cH (Tr.node p q) := by unfold cH; omega
  have W1 : IntKind.i64.wrap (cH t + 1) = cH t + 1 := IntWalk.i64_in _ (by omega)
  have Ol := Aside0.mk oj.1
  have Op := Aside0.mk oj.2.1
  have Oq := Aside0.mk oj.2.2
  have Ot := Aside0.mk ot
  have N0 : Aside0 ((Tr.node l p).txt.length ≤ 1000000) := ⟨by simp [Tr.txt]; omega⟩
  have M0 : Aside0 (Tr.node l p).Ok := ⟨⟨oj.1, oj.2.1⟩⟩
  have N1 : Aside0 ((Tr.node q t).txt.length ≤ 1000000) := ⟨by simp [Tr.txt]; omega⟩
  have M1 : Aside0 (Tr.node q t).Ok := ⟨⟨oj.2.2, ot⟩⟩
  have N2 : Aside0 ((Tr.node (.node l p) (.node q t)).txt.length ≤ 1000000) := ⟨by simp [Tr.txt]; omega⟩
  have M2 : Aside0 (Tr.node (.node l p) (.node q t)).Ok := ⟨⟨⟨oj.1, oj.2.1⟩, ⟨oj.2.2, ot⟩⟩⟩
  obtain ⟨bj, x, y, rfl, c6, c7, hl, hr⟩ := hj.cells
  have C6 := Aside0.mk c6
  have C7 := Aside0.mk c7
  have HL := Aside0.mk hl
  have HR := Aside0.mk hr
  obtain ⟨bk, p1, q1, rfl, c8, c9, hp, hq⟩ := hr.cells
  have C8 := Aside0.mk c8
  have C9 := Aside0.mk c9
  have HP := Aside0.mk hp
  have HQ := Aside0.mk hq
  clear hj ht oj ot hn hn1 g1 g2 hl hr hp hq c8 c9
  have BL := Aside0.mk (Below.refl w.heap.size w)
  go_enter Tryd.func64, Tryd.ntmps64
  go_wp2_with (first
    | (go_at_call 63; refine (high_calls (HJ.out.below BL.out)).mono ?_; rintro e w1 ⟨rfl, hb1⟩; have BL' := Aside0.mk (below_step BL.out hb1); clear BL hb1; have BL := BL'; clear BL')
    | (go_at_call 63; refine (high_calls (v := vb) (HT.out.below BL.out)).mono ?_; rintro e w1 ⟨rfl, hb1⟩; have BL' := Aside0.mk (below_step BL.out hb1); clear BL hb1; have BL := BL'; clear BL'; clear c6 c7; have c6 := pw_cell_below BL.out C6.out; have c7 := pw_cell_below BL.out C7.out))
  have bd : Below w.heap.size w w1.drew := below_drew1 BL.out
  have d6 : w1.drew.cell? ⟨bj, 6, none⟩ = some x := c6
  have d7 : w1.drew.cell? ⟨bj, 7, none⟩ = some (.iface 112 (.pointer (some ⟨bk, 0, none⟩))) := c7
  go_region_held3 (fun w2 => Below w.heap.size w w2 ∧ w2.cell? ⟨bj, 6, none⟩ = some x ∧ w2.cell? ⟨bj, 7, none⟩ = some (.iface 112 (.pointer (some ⟨bk, 0, none⟩)))) (first | (refine ⟨?_, ?_, ?_⟩ <;> assumption) | assumption) (first
    | (go_at_call 63; with_reducible refine (high_calls (v := x) (HL.out.below (by assumption))).mono ?_; rintro e w3 ⟨rfl, hb1⟩; have hb2 := below_step (by assumption) hb1; have f6 := pw_cell_below hb2 C6.out; have f7 := pw_cell_below hb2 C7.out)
    | (go_at_call 63; with_reducible refine (high_calls (v := (.iface 112 (.pointer (some ⟨bk, 0, none⟩)))) (HR.out.below (by assumption))).mono ?_; rintro e w3 ⟨rfl, hb1⟩; have hb2 := below_step (by assumption) hb1; have f6 := pw_cell_below hb2 C6.out; have f7 := pw_cell_below hb2 C7.out))
  have g6 : w3.cell? ⟨bj, 6, none⟩ = some x := pw_cell_below hb2 C6.out
  have g7 : w3.cell? ⟨bj, 7, none⟩ = some (.iface 112 (.pointer (some ⟨bk, 0, none⟩))) := pw_cell_below hb2 C7.out
  have g8 : w3.cell? ⟨bk, 6, none⟩ = some p1 := pw_cell_below hb2 C8.out
  have g9 : w3.cell? ⟨bk, 7, none⟩ = some q1 := pw_cell_below hb2 C9.out
  go_wp2
  have bd3 : Below w.heap.size w w3.drew := below_drew1 hb2
  have k6 : w3.drew.cell? ⟨bj, 6, none⟩ = some x := pw_cell_below bd3 C6.out
  have k7 : w3.drew.cell? ⟨bj, 7, none⟩ = some (.iface 112 (.pointer (some ⟨bk, 0, none⟩))) := pw_cell_below bd3 C7.out
  have k8 : w3.drew.cell? ⟨bk, 6, none⟩ = some p1 := pw_cell_below bd3 C8.out
  have k9 : w3.drew.cell? ⟨bk, 7, none⟩ = some q1 := pw_cell_below bd3 C9.out
  go_region_held3 (fun w2 => Below w.heap.size w w2 ∧ w2.cell? ⟨bj, 6, none⟩ = some x ∧ w2.cell? ⟨bj, 7, none⟩ = some (.iface 112 (.pointer (some ⟨bk, 0, none⟩))) ∧ w2.cell? ⟨bk, 6, none⟩ = some p1 ∧ w2.cell? ⟨bk, 7, none⟩ = some q1) (first | (refine ⟨?_, ?_, ?_, ?_, ?_⟩ <;> assumption) | assumption) (first
    | (go_at_call 65; with_reducible refine (pair_calls (va := x) (vb := p1) (HL.out.below (by assumption)) (HP.out.below (by assumption)) Ol.out Op.out N0.out).mono ?_; rintro e w4 ⟨v0, rfl, hp0, hb1⟩; have hbx := below_step (by assumption) hb1; (try (replace hp1 := hp1.below hb1)); have f6 := pw_cell_below hbx C6.out; have f7 := pw_cell_below hbx C7.out; have f8 := pw_cell_below hbx C8.out; have f9 := pw_cell_below hbx C9.out)
    | (go_at_call 65; with_reducible refine (pair_calls (va := q1) (vb := vb) (HQ.out.below (by assumption)) (HT.out.below (by assumption)) Oq.out Ot.out N1.out).mono ?_; rintro e w4 ⟨v1, rfl, hp1, hb1⟩; have hbx := below_step (by assumption) hb1; (try (replace hp0 := hp0.below hb1)); have f6 := pw_cell_below hbx C6.out; have f7 := pw_cell_below hbx C7.out; have f8 := pw_cell_below hbx C8.out; have f9 := pw_cell_below hbx C9.out)
    | (go_at_call 65; with_reducible refine (pair_calls (va := v0) (vb := v1) hp0 hp1 M0.out M1.out N2.out).mono ?_; rintro e w4 ⟨v2, rfl, hp2, hb1⟩; have hbx := below_step (by assumption) hb1; (try (replace hp0 := hp0.below hb1)); (try (replace hp1 := hp1.below hb1)); have f6 := pw_cell_below hbx C6.out; have f7 := pw_cell_below hbx C7.out; have f8 := pw_cell_below hbx C8.out; have f9 := pw_cell_below hbx C9.out))
  all_goals (go_wp2; go_ret; exact ⟨_, rfl, hp2, hbx⟩)
set_option maxHeartbeats 4000000 in
set_option maxRecDepth 100000 in
theorem level_right2 {va vb : Value} {p q r t : Tr} {w : World} (hj : IsPart w vb (Tr.node (.node p q) r)) (ht : IsPart w va t) (oj : (Tr.node (.node p q) r).Ok) (ot : t.Ok) (hn : (Tr.node (.node p q) r).txt.length + t.txt.length ≤ 1000000) (g1 : t.ht + 1 < (Tr.node (.node p q) r).ht) (g2 : ¬ (Tr.node p q).ht ≤ r.ht) :
    Calls Tryd.prog 64 #[va, vb] w fun e w' => ∃ v, e = .returned v ∧ IsPart w' v (.node (.node t p) (.node q r)) ∧ Below w.heap.size w w' := by
  have HJ := Aside0.mk hj
  have HT := Aside0.mk ht
  have hn1 : p.txt.length + q.txt.length + r.txt.length + t.txt.length ≤ 1000000 := by simp [Tr.txt] at hn; omega
  have bJ := cH_bounds oj (by simp [Tr.txt]; omega)
  have bT := cH_bounds ot (by omega)
  have e1 : cH t + 1 < cH (Tr.node (.node p q) r) := by unfold cH; omega
  have e1' : ¬ (cH (Tr.node (.node p q) r) + 1 < cH t) := by unfold cH; omega
  have e2 : ¬ (cH (Tr.node p q) ≤ cH r) := by unfold cH; omega
  have e3 : cH r < cH (Tr.node p q) := by unfold cH; omega
  have W1 : IntKind.i64.wrap (cH t + 1) = cH t + 1 := IntWalk.i64_in _ (by omega)
  have W2 : IntKind.i64.wrap (cH (Tr.node (.node p q) r) + 1) = cH (Tr.node (.node p q) r) + 1 := IntWalk.i64_in _ (by omega)
  have Op := Aside0.mk oj.1.1
  have Oq := Aside0.mk oj.1.2
  have Or := Aside0.mk oj.2
  have Ot := Aside0.mk ot
  have N0 : Aside0 ((Tr.node t p).txt.length ≤ 1000000) := ⟨by simp [Tr.txt]; omega⟩
  have M0 : Aside0 (Tr.node t p).Ok := ⟨⟨ot, oj.1.1⟩⟩
  have N1 : Aside0 ((Tr.node q r).txt.length ≤ 1000000) := ⟨by simp [Tr.txt]; omega⟩
  have M1 : Aside0 (Tr.node q r).Ok := ⟨⟨oj.1.2, oj.2⟩⟩
  have N2 : Aside0 ((Tr.node (.node t p) (.node q r)).txt.length ≤ 1000000) := ⟨by simp [Tr.txt]; omega⟩
  have M2 : Aside0 (Tr.node (.node t p) (.node q r)).Ok := ⟨⟨⟨ot, oj.1.1⟩, ⟨oj.1.2, oj.2⟩⟩⟩
  obtain ⟨bj, x, y, rfl, c6, c7, hl, hr⟩ := hj.cells
  have C6 := Aside0.mk c6
  have C7 := Aside0.mk c7
  have HL := Aside0.mk hl
  have HR := Aside0.mk hr
  obtain ⟨bk, p1, q1, rfl, c8, c9, hp, hq⟩ := hl.cells
  have C8 := Aside0.mk c8
  have C9 := Aside0.mk c9
  have HP := Aside0.mk hp
  have HQ := Aside0.mk hq
  clear hj ht oj ot hn hn1 g1 g2 hl hr hp hq c8 c9
  have BL := Aside0.mk (Below.refl w.heap.size w)
  go_enter Tryd.func64, Tryd.ntmps64
  go_wp2_with (first
    | (go_at_call 63; refine (high_calls (v := va) (HT.out.below BL.out)).mono ?_; rintro e w1 ⟨rfl, hb1⟩; have BL' := Aside0.mk (below_step BL.out hb1); clear BL hb1; have BL := BL'; clear BL'; clear c6 c7; have c6 := pw_cell_below BL.out C6.out; have c7 := pw_cell_below BL.out C7.out)
    | (go_at_call 63; refine (high_calls (HJ.out.below BL.out)).mono ?_; rintro e w1 ⟨rfl, hb1⟩; have BL' := Aside0.mk (below_step BL.out hb1); clear BL hb1; have BL := BL'; clear BL'; clear c6 c7; have c6 := pw_cell_below BL.out C6.out; have c7 := pw_cell_below BL.out C7.out))
  have bd : Below w.heap.size w w1.drew := below_drew1 BL.out
  have d6 : w1.drew.cell? ⟨bj, 6, none⟩ = some (.iface 112 (.pointer (some ⟨bk, 0, none⟩))) := c6
  have d7 : w1.drew.cell? ⟨bj, 7, none⟩ = some y := c7
  go_region_held3 (fun w2 => Below w.heap.size w w2 ∧ w2.cell? ⟨bj, 6, none⟩ = some (.iface 112 (.pointer (some ⟨bk, 0, none⟩))) ∧ w2.cell? ⟨bj, 7, none⟩ = some y) (first | (refine ⟨?_, ?_, ?_⟩ <;> assumption) | assumption) (first
    | (go_at_call 63; with_reducible refine (high_calls (v := (.iface 112 (.pointer (some ⟨bk, 0, none⟩)))) (HL.out.below (by assumption))).mono ?_; rintro e w3 ⟨rfl, hb1⟩; have hb2 := below_step (by assumption) hb1; have f6 := pw_cell_below hb2 C6.out; have f7 := pw_cell_below hb2 C7.out)
    | (go_at_call 63; with_reducible refine (high_calls (v := y) (HR.out.below (by assumption))).mono ?_; rintro e w3 ⟨rfl, hb1⟩; have hb2 := below_step (by assumption) hb1; have f6 := pw_cell_below hb2 C6.out; have f7 := pw_cell_below hb2 C7.out))
  have g6 : w3.cell? ⟨bj, 6, none⟩ = some (.iface 112 (.pointer (some ⟨bk, 0, none⟩))) := pw_cell_below hb2 C6.out
  have g7 : w3.cell? ⟨bj, 7, none⟩ = some y := pw_cell_below hb2 C7.out
  have g8 : w3.cell? ⟨bk, 6, none⟩ = some p1 := pw_cell_below hb2 C8.out
  have g9 : w3.cell? ⟨bk, 7, none⟩ = some q1 := pw_cell_below hb2 C9.out
  go_wp2
  have bd3 : Below w.heap.size w w3.drew := below_drew1 hb2
  have k6 : w3.drew.cell? ⟨bj, 6, none⟩ = some (.iface 112 (.pointer (some ⟨bk, 0, none⟩))) := pw_cell_below bd3 C6.out
  have k7 : w3.drew.cell? ⟨bj, 7, none⟩ = some y := pw_cell_below bd3 C7.out
  have k8 : w3.drew.cell? ⟨bk, 6, none⟩ = some p1 := pw_cell_below bd3 C8.out
  have k9 : w3.drew.cell? ⟨bk, 7, none⟩ = some q1 := pw_cell_below bd3 C9.out
  go_region_held3 (fun w2 => Below w.heap.size w w2 ∧ w2.cell? ⟨bj, 6, none⟩ = some (.iface 112 (.pointer (some ⟨bk, 0, none⟩))) ∧ w2.cell? ⟨bj, 7, none⟩ = some y ∧ w2.cell? ⟨bk, 6, none⟩ = some p1 ∧ w2.cell? ⟨bk, 7, none⟩ = some q1) (first | (refine ⟨?_, ?_, ?_, ?_, ?_⟩ <;> assumption) | assumption) (first
    | (go_at_call 65; with_reducible refine (pair_calls (va := va) (vb := p1) (HT.out.below (by assumption)) (HP.out.below (by assumption)) Ot.out Op.out N0.out).mono ?_; rintro e w4 ⟨v0, rfl, hp0, hb1⟩; have hbx := below_step (by assumption) hb1; (try (replace hp1 := hp1.below hb1)); have f6 := pw_cell_below hbx C6.out; have f7 := pw_cell_below hbx C7.out; have f8 := pw_cell_below hbx C8.out; have f9 := pw_cell_below hbx C9.out)
    | (go_at_call 65; with_reducible refine (pair_calls (va := q1) (vb := y) (HQ.out.below (by assumption)) (HR.out.below (by assumption)) Oq.out Or.out N1.out).mono ?_; rintro e w4 ⟨v1, rfl, hp1, hb1⟩; have hbx := below_step (by assumption) hb1; (try (replace hp0 := hp0.below hb1)); have f6 := pw_cell_below hbx C6.out; have f7 := pw_cell_below hbx C7.out; have f8 := pw_cell_below hbx C8.out; have f9 := pw_cell_below hbx C9.out)
    | (go_at_call 65; with_reducible refine (pair_calls (va := v0) (vb := v1) hp0 hp1 M0.out M1.out N2.out).mono ?_; rintro e w4 ⟨v2, rfl, hp2, hb1⟩; have hbx := below_step (by assumption) hb1; (try (replace hp0 := hp0.below hb1)); (try (replace hp1 := hp1.below hb1)); have f6 := pw_cell_below hbx C6.out; have f7 := pw_cell_below hbx C7.out; have f8 := pw_cell_below hbx C8.out; have f9 := pw_cell_below hbx C9.out))
  all_goals (go_wp2; go_ret; exact ⟨_, rfl, hp2, hbx⟩)
end Go.Proofs.YtobhfpepclepdaaDoor
