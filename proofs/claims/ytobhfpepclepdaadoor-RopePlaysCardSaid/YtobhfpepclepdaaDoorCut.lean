/- Ropes: cut. -/
import Derived.Test.YtobhfpepclepdaaDoorGrow
namespace Go.Proofs.YtobhfpepclepdaaDoor
open Go.RowKit Go.Proofs.YtobhfpepclepdaaDoorW.PrintWords Go.Proofs.YtobhfpepclepdaaDoorW.PrintLast Go.Proofs.YtobhfpepclepdaaDoorW.PrintMore
open Go.Proofs.YtobhfpepclepdaaDoor.PRope
open Go.Lib (decodeL validD)
set_option linter.unusedVariables false
theorem ta112t (p : Value) (w : World) : (Instr.typeAssert (.iface 112 p) 82 112 true).run Tryd.prog w = .ok (.tuple #[p, .bool true]) w := by kernel_rfl
theorem ta_nil9 (w : World) : (Instr.typeAssert .nilIface 82 109 true).run Tryd.prog w = .ok (.tuple #[.pointer none, .bool false]) w := by kernel_rfl
theorem ta_nil12 (w : World) : (Instr.typeAssert .nilIface 82 112 true).run Tryd.prog w = .ok (.tuple #[.pointer none, .bool false]) w := by kernel_rfl
attribute [local go_sem] fld0 fld1 fld2 fld3 fld4 fld5 ta112 ta109t ta112f ta112t ta_nil9 ta_nil12
/-- Two parts, or none. -/
def MadeTwo (w : World) (l1 l2 : List UInt8) (e : Ending) (w' : World) : Prop := ∃ v1 v2 o1 o2, e = .returned (.tuple #[v1, v2]) ∧ IsOpt w' v1 o1 ∧ IsOpt w' v2 o2 ∧ OGood o1 ∧ OGood o2 ∧ otxt o1 = l1 ∧ otxt o2 = l2 ∧ Below w.heap.size w w'
theorem edge_left {a b : List UInt8} {k : Nat} (hk : k ≤ a.length) (h : edge (a ++ b) k = true) : edge a k = true := by
  by_cases e : k = a.length
  · rw [e]; exact edge_end a
  · have := edge_take (l := a ++ b) (k := a.length) (j := k) (by omega) (by rw [List.length_append]; omega)
    rw [List.take_left' rfl] at this
    rw [this]; exact h
theorem edge_right {a b : List UInt8} {k : Nat} (hk : a.length ≤ k) (h : edge (a ++ b) k = true) : edge b (k - a.length) = true := by
  rw [edge_skip (n := a.length) (by rw [List.length_append]; omega) hk, List.drop_left' rfl] at h
  exact h
theorem IsOpt.part {w : World} {v : Value} {t : Tr} (h : IsPart w v t) : IsOpt w v (some t) := h
set_option maxHeartbeats 4000000 in
set_option maxRecDepth 100000 in
theorem cut_none (at_ : Int) (w : World) : Calls Tryd.prog 42 #[.nilIface, .int .i64 at_] w fun e w' => e = .returned (.tuple #[.nilIface, .nilIface]) ∧ w' = w := by
  go_enter Tryd.func42, Tryd.ntmps42
  go_wp2
  go_ret2
  exact ⟨rfl, rfl⟩
set_option maxHeartbeats 4000000 in
set_option maxRecDepth 100000 in
theorem cut_leaf {v : Value} {s : ByteArray} {w : World} (ht : Tb w) (hp : IsPart w v (.leaf s)) (o : (Tr.leaf s).Ok) (hs : s.size ≤ 1000000) (k : Nat) (hk : k ≤ s.size) (he : edge s.data.toList k = true) :
    Calls Tryd.prog 42 #[v, .int .i64 k] w (MadeTwo w (s.data.toList.take k) (s.data.toList.drop k)) := by
  obtain ⟨b, rfl, c6⟩ := hp.string
  have C6 := Aside0.mk c6
  have HV := cut_valid o.2 k (by rw [str_size]; exact hk) he
  have C1 : Aside0 (∀ w1, Below w.heap.size w w1 → Calls Tryd.prog 61 #[.string (s.extract 0 k)] w1 (MadeO w1 (s.data.toList.take k))) := ⟨fun w1 hb1 => by
    have := leaf_opt (s.extract 0 k) w1 (ht.below hb1) (by rw [ext_take_size _ _ hk]; omega) (by rw [ext_take]; exact HV.1)
    rw [ext_take] at this; exact this⟩
  have C2 : Aside0 (∀ w1, Below w.heap.size w w1 → Calls Tryd.prog 61 #[.string (s.extract k s.size)] w1 (MadeO w1 (s.data.toList.drop k))) := ⟨fun w1 hb1 => by
    have := leaf_opt (s.extract k s.size) w1 (ht.below hb1) (by rw [ext_drop_size]; omega) (by rw [ext_drop]; exact HV.2)
    rw [ext_drop] at this; exact this⟩
  have b1 : (0 : Int) ≤ k := by omega
  have b2 : (k : Int) ≤ s.size := by omega
  have d6 : w.drew.cell? ⟨b, 6, none⟩ = some (.string s) := c6
  have hbd : Below w.heap.size w w.drew := ⟨rfl, rfl, rfl, Nat.le_refl _, fun _ _ => rfl⟩
  clear hp o he HV ht hk
  go_enter Tryd.func42, Tryd.ntmps42
  go_wp2
  go_region_held3 (fun w2 => Below w.heap.size w w2 ∧ w2.cell? ⟨b, 6, none⟩ = some (.string s)) (first | (refine ⟨?_, ?_⟩ <;> assumption) | assumption) (first
    | (go_at_call 61; (with_reducible refine (C1.out _ (by assumption)).mono ?_); rintro e w3 ⟨v1, o1, rfl, hp1, hg1, hx1, hb1⟩; have hbx := below_step (by assumption) hb1; have X1 := Aside0.mk hx1; have G1 := Aside0.mk hg1; have f6 := pw_cell_below hbx C6.out; clear hx1 hg1)
    | (go_at_call 61; (with_reducible refine (C2.out _ (by assumption)).mono ?_); rintro e w4 ⟨v2, o2, rfl, hp2, hg2, hx2, hb1⟩; have hbx := below_step (by assumption) hb1; have X2 := Aside0.mk hx2; have G2 := Aside0.mk hg2; have hp1' := hp1.below hb1; have f6 := pw_cell_below hbx C6.out; clear hx2 hg2))
  go_wp2
  go_ret2
  exact ⟨v1, v2, o1, o2, rfl, hp1', hp2, G1.out, G2.out, X1.out, X2.out, by assumption⟩
set_option maxHeartbeats 4000000 in
set_option maxRecDepth 100000 in
theorem cut_left {v : Value} {l r : Tr} {w : World} (ht : Tb w) (hp : IsPart w v (.node l r)) (o : (Tr.node l r).Ok) (bl : (Tr.node l r).Bal) (hs : (Tr.node l r).txt.length ≤ 1000000) (k : Nat) (hk : k ≤ l.txt.length)
    (ih : ∀ (v1 : Value) (w1 : World), Below w.heap.size w w1 → IsPart w1 v1 l → Calls Tryd.prog 42 #[v1, .int .i64 k] w1 (MadeTwo w1 (l.txt.take k) (l.txt.drop k))) :
    Calls Tryd.prog 42 #[v, .int .i64 k] w (MadeTwo w ((Tr.node l r).txt.take k) ((Tr.node l r).txt.drop k)) := by
  have IH := Aside0.mk ih
  obtain ⟨bj, x, y, rfl, c6, c7, hl, hr⟩ := hp.cells
  have C6 := Aside0.mk c6
  have C7 := Aside0.mk c7
  have HL := Aside0.mk hl
  have HR := Aside0.mk hr
  have HT := Aside0.mk ht
  have EX : Aside0 ((Tr.node l r).txt.take k = l.txt.take k ∧ (Tr.node l r).txt.drop k = l.txt.drop k ++ r.txt) := ⟨by rw [Tr.txt_node, List.take_append_of_le_length hk, List.drop_append_of_le_length hk]; exact ⟨rfl, rfl⟩⟩
  have GR : Aside0 (OGood (some r)) := ⟨⟨o.2, bl.2.1⟩⟩
  have LN : Aside0 ((l.txt.drop k).length + (otxt (some r)).length ≤ 1000000) := ⟨by show _ + r.txt.length ≤ _; rw [List.length_drop]; simp [Tr.txt] at hs; omega⟩
  have hle : (k : Int) ≤ cB l := by unfold cB; omega
  obtain ⟨T, bx, hT, rfl, h0, h1, h2, h3, h4, h5⟩ := hl.view
  have hm := meth hT bx _ _ _ _ _ _ w h0 h1 h2 h3 h4 h5
  have BL := Aside0.mk (Below.refl w.heap.size w)
  clear ih hp o bl hs hk hl hr ht h0 h1 h2 h3 h4 h5
  rcases hT with rfl | rfl
  all_goals
    go_enter Tryd.func42, Tryd.ntmps42
    go_wp2_with (first
      | (go_at_call 108; refine (has_calls _ _ _ _ _ _ _).mono ?_; rintro e w1 ⟨rfl, hb1⟩; clear hm c6 c7; have BL' := Aside0.mk (below_step BL.out hb1); clear BL hb1; have BL := BL'; clear BL'; have c6 := pw_cell_below BL.out C6.out; have c7 := pw_cell_below BL.out C7.out)
      | (go_at_call 42; (with_reducible refine (IH.out _ _ BL.out (HL.out.below BL.out)).mono ?_); rintro e w1 ⟨v1, v2, o1, o2, rfl, hp1, hp2, hg1, hg2, hx1, hx2, hb1⟩; clear c6 c7; have BL' := Aside0.mk (below_step BL.out hb1); clear BL hb1; have BL := BL'; clear BL'; have c6 := pw_cell_below BL.out C6.out; have c7 := pw_cell_below BL.out C7.out; have X1 := Aside0.mk hx1; have G1 := Aside0.mk hg1; have X2 := Aside0.mk hx2; have G2 := Aside0.mk hg2; have P1 := Aside0.mk hp1; have P2 := Aside0.mk hp2; clear hp1 hp2 hg1 hg2 hx1 hx2)
      | (go_at_call 43; (with_reducible refine (join_opt (HT.out.below BL.out) P2.out (IsOpt.part (HR.out.below BL.out)) G2.out GR.out (by rw [X2.out]; exact LN.out)).mono ?_); rintro e w1 ⟨v3, o3, rfl, hp3, hg3, hx3, hb1⟩; have BL' := Aside0.mk (below_step BL.out hb1); have P1' := Aside0.mk (P1.out.below hb1); clear BL hb1; have BL := BL'; clear BL'; have X3 := Aside0.mk hx3; have G3 := Aside0.mk hg3; have P3 := Aside0.mk hp3; clear hp3 hg3 hx3))
    go_ret2
    exact ⟨v1, v3, o1, o3, rfl, P1'.out, P3.out, G1.out, G3.out, by rw [X1.out, EX.out.1], by rw [X3.out, X2.out, EX.out.2]; rfl, BL.out⟩
set_option maxHeartbeats 4000000 in
set_option maxRecDepth 100000 in
theorem cut_right {v : Value} {l r : Tr} {w : World} (ht : Tb w) (hp : IsPart w v (.node l r)) (o : (Tr.node l r).Ok) (bl : (Tr.node l r).Bal) (hs : (Tr.node l r).txt.length ≤ 1000000) (k : Nat) (hk : l.txt.length < k) (hk2 : k ≤ 1000000)
    (ih : ∀ (v1 : Value) (w1 : World), Below w.heap.size w w1 → IsPart w1 v1 r → Calls Tryd.prog 42 #[v1, .int .i64 ((k - l.txt.length : Nat) : Int)] w1 (MadeTwo w1 (r.txt.take (k - l.txt.length)) (r.txt.drop (k - l.txt.length)))) :
    Calls Tryd.prog 42 #[v, .int .i64 k] w (MadeTwo w ((Tr.node l r).txt.take k) ((Tr.node l r).txt.drop k)) := by
  have IH := Aside0.mk ih
  obtain ⟨bj, x, y, rfl, c6, c7, hl, hr⟩ := hp.cells
  have C6 := Aside0.mk c6
  have C7 := Aside0.mk c7
  have HL := Aside0.mk hl
  have HR := Aside0.mk hr
  have HT := Aside0.mk ht
  have EX : Aside0 ((Tr.node l r).txt.take k = l.txt ++ r.txt.take (k - l.txt.length) ∧ (Tr.node l r).txt.drop k = r.txt.drop (k - l.txt.length)) := ⟨by
    rw [Tr.txt_node, List.take_append, List.drop_append, List.take_of_length_le (by omega), List.drop_of_length_le (l := l.txt) (by omega)]; exact ⟨rfl, by simp⟩⟩
  have GL : Aside0 (OGood (some l)) := ⟨⟨o.1, bl.1⟩⟩
  have LN : Aside0 ((otxt (some l)).length + (r.txt.take (k - l.txt.length)).length ≤ 1000000) := ⟨by show l.txt.length + _ ≤ _; rw [List.length_take]; simp [Tr.txt] at hs; omega⟩
  have hle : ¬ ((k : Int) ≤ cB l) := by unfold cB; omega
  have KE : Aside0 ((k : Int) - cB l = ((k - l.txt.length : Nat) : Int)) := ⟨by unfold cB; omega⟩
  have W1 : IntKind.i64.wrap ((k : Int) - cB l) = (k : Int) - cB l := IntWalk.i64_in _ (by unfold cB; omega)
  obtain ⟨T, bx, hT, rfl, h0, h1, h2, h3, h4, h5⟩ := hl.view
  have hm := meth hT bx _ _ _ _ _ _ w h0 h1 h2 h3 h4 h5
  have BL := Aside0.mk (Below.refl w.heap.size w)
  clear ih hp o bl hs hk hk2 hl hr ht h0 h1 h2 h3 h4 h5
  rcases hT with rfl | rfl
  all_goals
    go_enter Tryd.func42, Tryd.ntmps42
    go_wp2_with (first
      | (go_at_call 108; refine (has_calls _ _ _ _ _ _ _).mono ?_; rintro e w1 ⟨rfl, hb1⟩; clear hm c6 c7; have BL' := Aside0.mk (below_step BL.out hb1); clear BL hb1; have BL := BL'; clear BL'; have c6 := pw_cell_below BL.out C6.out; have c7 := pw_cell_below BL.out C7.out)
      | (go_at_call 42; rw [KE.out]; (with_reducible refine (IH.out _ _ BL.out (HR.out.below BL.out)).mono ?_); rintro e w1 ⟨v1, v2, o1, o2, rfl, hp1, hp2, hg1, hg2, hx1, hx2, hb1⟩; clear c6 c7; have BL' := Aside0.mk (below_step BL.out hb1); clear BL hb1; have BL := BL'; clear BL'; have c6 := pw_cell_below BL.out C6.out; have c7 := pw_cell_below BL.out C7.out; have X1 := Aside0.mk hx1; have G1 := Aside0.mk hg1; have X2 := Aside0.mk hx2; have G2 := Aside0.mk hg2; have P1 := Aside0.mk hp1; have P2 := Aside0.mk hp2; clear hp1 hp2 hg1 hg2 hx1 hx2)
      | (go_at_call 43; (with_reducible refine (join_opt (HT.out.below BL.out) (IsOpt.part (HL.out.below BL.out)) P1.out GL.out G1.out (by rw [X1.out]; exact LN.out)).mono ?_); rintro e w1 ⟨v3, o3, rfl, hp3, hg3, hx3, hb1⟩; have BL' := Aside0.mk (below_step BL.out hb1); have P2' := Aside0.mk (P2.out.below hb1); clear BL hb1; have BL := BL'; clear BL'; have X3 := Aside0.mk hx3; have G3 := Aside0.mk hg3; have P3 := Aside0.mk hp3; clear hp3 hg3 hx3))
    go_ret2
    exact ⟨v3, v2, o3, o2, rfl, P3.out, P2'.out, G3.out, G2.out, by rw [X3.out, X1.out, EX.out.1]; rfl, by rw [X2.out, EX.out.2], BL.out⟩
/-- cut: at an edge. -/
theorem cut_part : ∀ (t : Tr) {v : Value} {w : World}, Tb w → IsPart w v t → t.Ok → t.Bal → t.txt.length ≤ 1000000 → ∀ k : Nat, k ≤ t.txt.length → edge t.txt k = true →
    Calls Tryd.prog 42 #[v, .int .i64 k] w (MadeTwo w (t.txt.take k) (t.txt.drop k))
  | .leaf s, v, w, ht, hp, o, _, hs, k, hk, he => cut_leaf ht hp o (by rw [← str_size]; exact hs) k (by rw [← str_size]; exact hk) he
  | .node l r, v, w, ht, hp, o, bl, hs, k, hk, he => by
    have hs' : l.txt.length + r.txt.length ≤ 1000000 := by simp [Tr.txt] at hs; exact hs
    have hk' : k ≤ l.txt.length + r.txt.length := by simp [Tr.txt] at hk; exact hk
    by_cases h : k ≤ l.txt.length
    · exact cut_left ht hp o bl hs k h (fun v1 w1 hb h1 => cut_part l (ht.below hb) h1 o.1 bl.1 (by omega) k h (edge_left h he))
    · exact cut_right ht hp o bl hs k (by omega) (by omega) (fun v1 w1 hb h1 => cut_part r (ht.below hb) h1 o.2 bl.2.1 (by omega) _ (by omega) (edge_right (by omega) he))
theorem cut_calls {v : Value} {o : Option Tr} {w : World} (ht : Tb w) (hp : IsOpt w v o) (hg : OGood o) (hs : (otxt o).length ≤ 1000000) (k : Nat) (hk : k ≤ (otxt o).length) (he : edge (otxt o) k = true) :
    Calls Tryd.prog 42 #[v, .int .i64 k] w (MadeTwo w ((otxt o).take k) ((otxt o).drop k)) := by
  cases o with
  | none =>
    obtain rfl : v = .nilIface := hp
    exact (cut_none _ w).mono fun e w' ⟨h1, h2⟩ => ⟨_, _, none, none, h1, rfl, rfl, trivial, trivial, by simp [otxt], by simp [otxt], h2 ▸ Below.refl _ _⟩
  | some t => exact cut_part t ht hp hg.1 hg.2 hs k hk he
end Go.Proofs.YtobhfpepclepdaaDoor
