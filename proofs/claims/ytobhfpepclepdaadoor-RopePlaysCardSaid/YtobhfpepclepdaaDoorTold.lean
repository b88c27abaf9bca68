/- Ropes: told, whole. -/
import Derived.Test.YtobhfpepclepdaaDoorBuild
namespace Go.Proofs.YtobhfpepclepdaaDoor
open Go.RowKit Go.Proofs.YtobhfpepclepdaaDoorW.PrintWords Go.Proofs.YtobhfpepclepdaaDoorW.PrintLast Go.Proofs.YtobhfpepclepdaaDoorW.PrintMore
open Go.Proofs.YtobhfpepclepdaaDoor.PRope
open Go.Lib (decodeL validD)
set_option linter.unusedVariables false
attribute [local go_sem] fld0 fld1 fld2 fld3 fld4 fld5 ta112 ta109t ta112f ta112t max2_int min2_int max_two min_two
theorem meth_below {w w1 : World} (hb : Below w.heap.size w w1) {T b : Nat} {t : Tr} (h : IsPart w (.iface T (.pointer (some ⟨b, 0, none⟩))) t) :
    (method 260 T (.pointer (some ⟨b, 0, none⟩)) "glossator/rope.has").run Tryd.prog w1 = .ok (108, .agg #[.int .i64 (cB t), .int .i64 (cU t), .int .i64 (cE t), .int .i64 (cH t), .bool (begins t.txt), .bool (closes t.txt)]) w1 := by
  obtain ⟨T', b', hT, hv, h0, h1, h2, h3, h4, h5⟩ := (h.below hb).view
  cases hv
  exact meth hT b _ _ _ _ _ _ w1 h0 h1 h2 h3 h4 h5
set_option maxHeartbeats 4000000 in
set_option maxRecDepth 100000 in
theorem told_node {v : Value} {x y : Tr} {w0 w : World} {b : Nat} {l : List UInt8} (hp : IsPart w0 v (.node x y)) (hw : Below w0.heap.size w0 w) (hB : IsB w0.heap.size b l w) (f g : Int) (f' g' : Nat) (hf : (if f < 0 then 0 else f) = (f' : Int)) (hg : (if cB (.node x y) < g then cB (.node x y) else g) = (g' : Int)) (hle : f' < g') (hgs : g' ≤ 1000000) (hx : x.txt.length ≤ 1000000)
    (ihx : ∀ (v1 : Value) (w1 : World), IsPart w0 v1 x → Below w0.heap.size w0 w1 → IsB w0.heap.size b l w1 → Calls Tryd.prog 68 #[.pointer (some ⟨b, 0, none⟩), v1, .int .i64 f', .int .i64 g'] w1 (Told w0 b (l ++ mid x.txt f' g')))
    (ihy : ∀ (v1 : Value) (w1 : World), IsPart w0 v1 y → Below w0.heap.size w0 w1 → IsB w0.heap.size b (l ++ mid x.txt f' g') w1 → Calls Tryd.prog 68 #[.pointer (some ⟨b, 0, none⟩), v1, .int .i64 ((f' : Int) - cB x), .int .i64 ((g' : Int) - cB x)] w1 (Told w0 b (l ++ mid x.txt f' g' ++ mid y.txt (f' - x.txt.length) (g' - x.txt.length)))) :
    Calls Tryd.prog 68 #[.pointer (some ⟨b, 0, none⟩), v, .int .i64 f, .int .i64 g] w (Told w0 b (l ++ mid (Tr.node x y).txt f' g')) := by
  have IX := Aside0.mk ihx
  have IY := Aside0.mk ihy
  obtain ⟨bj, vx, vy, rfl, c6, c7, px, py⟩ := hp.cells
  obtain ⟨T, bx, hT, rfl, _⟩ := px.view
  have C6 := Aside0.mk c6
  have C7 := Aside0.mk c7
  have PX := Aside0.mk px
  have PY := Aside0.mk py
  have hm := meth_below hw hp
  have BL := Aside0.mk hw
  have BB := Aside0.mk hB
  have nle : ¬ ((g' : Int) ≤ (f' : Int)) := by omega
  have bx' : 0 ≤ cB x ∧ cB x ≤ 1000000 := by unfold cB; omega
  have W1 : IntKind.i64.wrap ((f' : Int) - cB x) = (f' : Int) - cB x := IntWalk.i64_in _ (by omega)
  have W2 : IntKind.i64.wrap ((g' : Int) - cB x) = (g' : Int) - cB x := IntWalk.i64_in _ (by omega)
  have EX := Aside0.mk (mid_app x.txt y.txt f' g')
  clear ihx ihy hp hw hB hle hgs hx c6 c7 px py
  have tok : True := trivial
  rcases hT with rfl | rfl
  all_goals
    go_enter Tryd.func68, Tryd.ntmps68
    go_wp2_with (first
      | (go_at_call 108; have _t := tok; refine (has_calls _ _ _ _ _ _ _).mono ?_; rintro e w1 ⟨rfl, hb1⟩; clear hm tok; have BL' := Aside0.mk (below_step BL.out hb1); have BB' := Aside0.mk (BB.out.below hb1); clear BL BB hb1; have BL := BL'; have BB := BB'; clear BL' BB'; have c6 := pw_cell_below BL.out C6.out; have hm2 := meth_below BL.out PX.out)
      | (go_at_call 108; refine (has_calls _ _ _ _ _ _ _).mono ?_; rintro e w2 ⟨rfl, hb1⟩; clear hm2 c6; have BL' := Aside0.mk (below_step BL.out hb1); have BB' := Aside0.mk (BB.out.below hb1); clear BL BB hb1; have BL := BL'; have BB := BB'; clear BL' BB'; have c6 := pw_cell_below BL.out C6.out; have c7 := pw_cell_below BL.out C7.out; have tok2 : True := trivial)
      | (go_at_call 68; have _t := tok2; (refine (IX.out _ _ PX.out BL.out BB.out).mono ?_); rintro e w3 ⟨rfl, hB2, hb2⟩; clear tok2 BL BB c6 c7; have BL := Aside0.mk hb2; have BB := Aside0.mk hB2; clear hb2 hB2; have c6 := pw_cell_below BL.out C6.out; have c7 := pw_cell_below BL.out C7.out)
      | (go_at_call 68; (refine (IY.out _ _ PY.out BL.out BB.out).mono ?_); rintro e w3 ⟨rfl, hB2, hb2⟩; clear BL BB c6 c7; have BL := Aside0.mk hb2; have BB := Aside0.mk hB2; clear hb2 hB2))
    go_end0
    exact ⟨rfl, by rw [Tr.txt_node, EX.out, ← List.append_assoc]; exact BB.out, BL.out⟩
theorem told_calls : ∀ (t : Tr) {v : Value} {w0 w : World} {b : Nat} {l : List UInt8}, IsPart w0 v t → Below w0.heap.size w0 w → IsB w0.heap.size b l w → t.txt.length ≤ 1000000 → l.length + t.txt.length ≤ 100000000 → ∀ (f g : Int), -2000000 ≤ f → f ≤ 2000000 → -2000000 ≤ g → g ≤ 2000000 →
    Calls Tryd.prog 68 #[.pointer (some ⟨b, 0, none⟩), v, .int .i64 f, .int .i64 g] w (Told w0 b (l ++ mid t.txt f g)) := by
  intro t
  induction t with
  | leaf s =>
    intro v w0 w b l hp hw hB hn hl f g f1 f2 g1 g2
    rw [← mid_clamp]
    have hc : cB (.leaf s) = (s.data.toList.length : Int) := rfl
    show Calls _ _ _ _ (Told w0 b (l ++ mid s.data.toList (if f < 0 then 0 else f) (if (s.data.toList.length : Int) < g then (s.data.toList.length : Int) else g)))
    rw [← hc]
    by_cases h : (if cB (.leaf s) < g then cB (.leaf s) else g) ≤ (if f < 0 then 0 else f)
    · rw [mid_none _ _ _ h, List.append_nil]
      exact told_none hp hw hB f g _ _ rfl rfl h
    · obtain ⟨f', hf⟩ : ∃ f' : Nat, (if f < 0 then 0 else f) = (f' : Int) := ⟨(if f < 0 then 0 else f).toNat, by split <;> omega⟩
      obtain ⟨g', hg⟩ : ∃ g' : Nat, (if cB (.leaf s) < g then cB (.leaf s) else g) = (g' : Int) := ⟨(if cB (.leaf s) < g then cB (.leaf s) else g).toNat, by rw [hf] at h; omega⟩
      have hle : g' ≤ s.size := by
        rw [← str_size]
        rw [hc] at hg
        split at hg <;> omega
      rw [hf, hg] at h ⊢
      exact told_leaf hp hw hB f g f' g' hf hg (by omega) hle (by rw [← str_size]; exact hl)
  | node x y ihx ihy =>
    intro v w0 w b l hp hw hB hn hl f g f1 f2 g1 g2
    rw [← mid_clamp]
    have hc : cB (.node x y) = ((Tr.node x y).txt.length : Int) := rfl
    rw [← hc]
    have hlen : (Tr.node x y).txt.length = x.txt.length + y.txt.length := by rw [Tr.txt_node, List.length_append]
    by_cases h : (if cB (.node x y) < g then cB (.node x y) else g) ≤ (if f < 0 then 0 else f)
    · rw [mid_none _ _ _ h, List.append_nil]
      exact told_none hp hw hB f g _ _ rfl rfl h
    · obtain ⟨f', hf⟩ : ∃ f' : Nat, (if f < 0 then 0 else f) = (f' : Int) := ⟨(if f < 0 then 0 else f).toNat, by split <;> omega⟩
      obtain ⟨g', hg⟩ : ∃ g' : Nat, (if cB (.node x y) < g then cB (.node x y) else g) = (g' : Int) := ⟨(if cB (.node x y) < g then cB (.node x y) else g).toNat, by rw [hf] at h; omega⟩
      have hle : g' ≤ 1000000 := by
        rw [hc] at hg
        split at hg <;> omega
      rw [hf, hg] at h ⊢
      refine told_node hp hw hB f g f' g' hf hg (by omega) hle (by omega) (fun v1 w1 h1 h2 h3 => ihx h1 h2 h3 (by omega) (by omega) _ _ (by omega) (by omega) (by omega) (by omega)) (fun v1 w1 h1 h2 h3 => ?_)
      have := mid_length x.txt f' g'
      exact ihy h1 h2 h3 (by omega) (by rw [List.length_append]; omega) _ _ (by unfold cB; omega) (by unfold cB; omega) (by unfold cB; omega) (by unfold cB; omega)
end Go.Proofs.YtobhfpepclepdaaDoor
