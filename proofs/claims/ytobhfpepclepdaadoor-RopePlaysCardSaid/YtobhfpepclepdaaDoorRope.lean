/- Ropes: the abstract tree, and what of it lies in memory. -/
import Derived.Test.YtobhfpepclepdaaDoorPRopex2
import Derived.Test.YtobhfpepclepdaaDoorUtf
namespace Go.Proofs.YtobhfpepclepdaaDoor
open Go.RowKit Go.Proofs.YtobhfpepclepdaaDoorW.PrintWords Go.Proofs.YtobhfpepclepdaaDoorW.PrintLast Go.Proofs.YtobhfpepclepdaaDoorW.PrintMore
open Go.Proofs.YtobhfpepclepdaaDoor.PRope
open Go.Lib (decodeL validD)
set_option linter.unusedVariables false

/-! ### trees -/
inductive Tr where
  | leaf (s : ByteArray)
  | node (l r : Tr)
namespace Tr
def txt : Tr → List UInt8
  | leaf s => s.data.toList
  | node l r => l.txt ++ r.txt
def ht : Tr → Nat
  | leaf _ => 1
  | node l r => max l.ht r.ht + 1
end Tr
theorem Tr.txt_node (l r : Tr) : (Tr.node l r).txt = l.txt ++ r.txt := rfl
theorem Tr.ht_node (l r : Tr) : (Tr.node l r).ht = max l.ht r.ht + 1 := rfl
def cB (t : Tr) : Int := (t.txt.length : Int)
def cU (t : Tr) : Int := (units t.txt : Int)
def cE (t : Tr) : Int := (ends t.txt : Int)
def cH (t : Tr) : Int := (t.ht : Int)

/-- Pieces are texts of whole characters, not empty; all together at most a million bytes. -/
def Tr.Ok : Tr → Prop
  | .leaf s => s.data.toList ≠ [] ∧ validD s.data.toList = true
  | .node l r => l.Ok ∧ r.Ok
theorem Tr.Ok.ne : ∀ {t : Tr}, t.Ok → t.txt ≠ []
  | .leaf s, h => h.1
  | .node l r, h => by simp [Tr.txt, h.1.ne]
theorem Tr.Ok.valid : ∀ {t : Tr}, t.Ok → validD t.txt = true
  | .leaf s, h => h.2
  | .node l r, h => by rw [Tr.txt, valid_app _ _ h.1.valid]; exact h.2.valid
theorem Tr.Ok.ht_le : ∀ {t : Tr}, t.Ok → t.ht ≤ t.txt.length
  | .leaf s, h => by
    have := List.length_pos_iff.2 h.1
    simp only [Tr.ht, Tr.txt]; omega
  | .node l r, h => by
    have h1 := h.1.ht_le
    have h2 := h.2.ht_le
    have h3 := List.length_pos_iff.2 h.1.ne
    have h4 := List.length_pos_iff.2 h.2.ne
    simp only [Tr.ht, Tr.txt, List.length_append]; omega

/-- A part in memory. -/
def IsPart (W : World) : Value → Tr → Prop
  | v, .leaf s => ∃ b, v = .iface 109 (.pointer (some ⟨b, 0, none⟩)) ∧ W.heap[b]? = some (.cells #[.int .i64 (cB (.leaf s)), .int .i64 (cU (.leaf s)), .int .i64 (cE (.leaf s)), .int .i64 (cH (.leaf s)), .bool (begins (Tr.leaf s).txt), .bool (closes (Tr.leaf s).txt), .string s] 111 (0, 0))
  | v, .node l r => ∃ b x y, v = .iface 112 (.pointer (some ⟨b, 0, none⟩)) ∧ W.heap[b]? = some (.cells #[.int .i64 (cB (.node l r)), .int .i64 (cU (.node l r)), .int .i64 (cE (.node l r)), .int .i64 (cH (.node l r)), .bool (begins (Tr.node l r).txt), .bool (closes (Tr.node l r).txt), x, y] 114 (0, 0)) ∧ IsPart W x l ∧ IsPart W y r
theorem IsPart.below {W W' : World} (hb : Below W.heap.size W W') : ∀ {t : Tr} {v : Value}, IsPart W v t → IsPart W' v t
  | .leaf s, v, ⟨b, hv, h⟩ => ⟨b, hv, blk_below h hb⟩
  | .node l r, v, ⟨b, x, y, hv, h, hl, hr⟩ => ⟨b, x, y, hv, blk_below h hb, IsPart.below hb hl, IsPart.below hb hr⟩
/-- No part, or one. -/
def IsOpt (W : World) (v : Value) : Option Tr → Prop
  | none => v = .nilIface
  | some t => IsPart W v t
theorem IsOpt.below {W W' : World} (hb : Below W.heap.size W W') {o : Option Tr} {v : Value} (h : IsOpt W v o) : IsOpt W' v o := by
  cases o with
  | none => exact h
  | some t => exact IsPart.below hb h
/-- What every part shows: a type, a block, its counts. -/
theorem IsPart.view {W : World} {v : Value} {t : Tr} (h : IsPart W v t) : ∃ T b, (T = 109 ∨ T = 112) ∧ v = .iface T (.pointer (some ⟨b, 0, none⟩)) ∧ W.cell? ⟨b, 0, none⟩ = some (.int .i64 (cB t)) ∧ W.cell? ⟨b, 1, none⟩ = some (.int .i64 (cU t)) ∧ W.cell? ⟨b, 2, none⟩ = some (.int .i64 (cE t)) ∧ W.cell? ⟨b, 3, none⟩ = some (.int .i64 (cH t)) ∧ W.cell? ⟨b, 4, none⟩ = some (.bool (begins t.txt)) ∧ W.cell? ⟨b, 5, none⟩ = some (.bool (closes t.txt)) := by
  cases t with
  | leaf s =>
    obtain ⟨b, hv, hh⟩ := h
    exact ⟨109, b, .inl rfl, hv, blk_cell hh 0, blk_cell hh 1, blk_cell hh 2, blk_cell hh 3, blk_cell hh 4, blk_cell hh 5⟩
  | node l r =>
    obtain ⟨b, x, y, hv, hh, _, _⟩ := h
    exact ⟨112, b, .inr rfl, hv, blk_cell hh 0, blk_cell hh 1, blk_cell hh 2, blk_cell hh 3, blk_cell hh 4, blk_cell hh 5⟩

/-! ### p.has() -/
theorem m109 : (Tryd.prog.info? 109).map (fun i => (i.methods.find? (·.name == "glossator/rope.has")).map (fun m => (m.path, m.func))) = some (some (#[⟨111, 0, true⟩], some (108, false))) := by kernel_rfl
theorem m112 : (Tryd.prog.info? 112).map (fun i => (i.methods.find? (·.name == "glossator/rope.has")).map (fun m => (m.path, m.func))) = some (some (#[⟨114, 0, true⟩], some (108, false))) := by kernel_rfl
theorem meth {T : Nat} (hT : T = 109 ∨ T = 112) (b : Nat) (c0 c1 c2 c3 c4 c5 : Value) (w : World) (h0 : w.cell? ⟨b, 0, none⟩ = some c0) (h1 : w.cell? ⟨b, 1, none⟩ = some c1) (h2 : w.cell? ⟨b, 2, none⟩ = some c2) (h3 : w.cell? ⟨b, 3, none⟩ = some c3) (h4 : w.cell? ⟨b, 4, none⟩ = some c4) (h5 : w.cell? ⟨b, 5, none⟩ = some c5) :
    (method 260 T (.pointer (some ⟨b, 0, none⟩)) "glossator/rope.has").run Tryd.prog w = .ok (108, .agg #[c0, c1, c2, c3, c4, c5]) w := by
  rcases hT with rfl | rfl
  · obtain ⟨i, hi, hf⟩ := Option.map_eq_some_iff.1 m109
    obtain ⟨m, hm1, hm2⟩ := Option.map_eq_some_iff.1 hf
    simp only [Prod.mk.injEq] at hm2
    obtain ⟨hp, hfn⟩ := hm2
    unfold method
    simp [typeInfo, hi, hm1, hp, hfn, follow, run_underlying Tryd.underlying111, Place.get, fieldPlace, receiverAt]
    go_simp
  · obtain ⟨i, hi, hf⟩ := Option.map_eq_some_iff.1 m112
    obtain ⟨m, hm1, hm2⟩ := Option.map_eq_some_iff.1 hf
    simp only [Prod.mk.injEq] at hm2
    obtain ⟨hp, hfn⟩ := hm2
    unfold method
    simp [typeInfo, hi, hm1, hp, hfn, follow, run_underlying Tryd.underlying114, Place.get, fieldPlace, receiverAt]
    go_simp
theorem fld0 (c0 c1 c2 c3 c4 c5 : Value) (w : World) : (Instr.field 95 (.agg #[c0, c1, c2, c3, c4, c5]) 0).run Tryd.prog w = .ok c0 w := by kernel_rfl
theorem fld1 (c0 c1 c2 c3 c4 c5 : Value) (w : World) : (Instr.field 95 (.agg #[c0, c1, c2, c3, c4, c5]) 1).run Tryd.prog w = .ok c1 w := by kernel_rfl
theorem fld2 (c0 c1 c2 c3 c4 c5 : Value) (w : World) : (Instr.field 95 (.agg #[c0, c1, c2, c3, c4, c5]) 2).run Tryd.prog w = .ok c2 w := by kernel_rfl
theorem fld3 (c0 c1 c2 c3 c4 c5 : Value) (w : World) : (Instr.field 95 (.agg #[c0, c1, c2, c3, c4, c5]) 3).run Tryd.prog w = .ok c3 w := by kernel_rfl
theorem fld4 (c0 c1 c2 c3 c4 c5 : Value) (w : World) : (Instr.field 95 (.agg #[c0, c1, c2, c3, c4, c5]) 4).run Tryd.prog w = .ok c4 w := by kernel_rfl
theorem fld5 (c0 c1 c2 c3 c4 c5 : Value) (w : World) : (Instr.field 95 (.agg #[c0, c1, c2, c3, c4, c5]) 5).run Tryd.prog w = .ok c5 w := by kernel_rfl
attribute [local go_sem] fld0 fld1 fld2 fld3 fld4 fld5
set_option maxRecDepth 100000 in
theorem has_calls (c0 c1 c2 c3 : Int) (c4 c5 : Bool) (w : World) :
    Calls Tryd.prog 108 #[.agg #[.int .i64 c0, .int .i64 c1, .int .i64 c2, .int .i64 c3, .bool c4, .bool c5]] w fun e w' => e = .returned (.agg #[.int .i64 c0, .int .i64 c1, .int .i64 c2, .int .i64 c3, .bool c4, .bool c5]) ∧ Below w.heap.size w w' := by
  go_enter Tryd.func108, Tryd.ntmps108
  go_wp2
  refine bodyPost_ret (v := .agg #[.int .i64 c0, .int .i64 c1, .int .i64 c2, .int .i64 c3, .bool c4, .bool c5]) (by simp [results, Tryd.results108, go_sem]) rfl ⟨rfl, ?_⟩
  exact ((Below.refl _ _).alloc (Nat.le_refl _) _).alloc (by simp) _
set_option maxRecDepth 100000 in
theorem high_calls {v : Value} {t : Tr} {w : World} (h : IsPart w v t) : Calls Tryd.prog 63 #[v] w fun e w' => e = .returned (.int .i64 (cH t)) ∧ Below w.heap.size w w' := by
  obtain ⟨T, b, hT, rfl, h0, h1, h2, h3, h4, h5⟩ := h.view
  have hm := meth hT b _ _ _ _ _ _ w h0 h1 h2 h3 h4 h5
  clear h0 h1 h2 h3 h4 h5
  rcases hT with rfl | rfl
  all_goals
   go_enter Tryd.func63, Tryd.ntmps63
   go_wp2_with (go_at_call 108; refine (has_calls _ _ _ _ _ _ _).mono ?_; rintro e w1 ⟨rfl, hb⟩)
   go_ret
   exact ⟨rfl, hb⟩
end Go.Proofs.YtobhfpepclepdaaDoor
