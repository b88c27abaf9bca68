/- Ropes: what a rope counts, and its bytes. -/
import Derived.Test.YtobhfpepclepdaaDoorTold
namespace Go.Proofs.YtobhfpepclepdaaDoor
open Go.RowKit Go.Proofs.YtobhfpepclepdaaDoorW.PrintWords Go.Proofs.YtobhfpepclepdaaDoorW.PrintLast Go.Proofs.YtobhfpepclepdaaDoorW.PrintMore
open Go.Proofs.YtobhfpepclepdaaDoor.PRope
open Go.Lib (decodeL validD)
set_option linter.unusedVariables false
attribute [local go_sem] fld0 fld1 fld2 fld3 fld4 fld5 ta112 ta109t ta112f ta112t max2_int min2_int max_two min_two
/-- A rope in memory. -/
def IsRope (W : World) (p : Value) (o : Option Tr) : Prop := ∃ b v, p = .pointer (some ⟨b, 0, none⟩) ∧ W.heap[b]? = some (.cells #[v] 85 (0, 0)) ∧ IsOpt W v o
theorem IsRope.below {W W' : World} (hb : Below W.heap.size W W') {p : Value} {o : Option Tr} (h : IsRope W p o) : IsRope W' p o := by
  obtain ⟨b, v, hp, hh, ho⟩ := h
  exact ⟨b, v, hp, blk_below hh hb, ho.below hb⟩
theorem cells6 {W : World} {g t : Nat} {a b c d e f : Value} (h : W.heap[g]? = some (.cells #[a, b, c, d, e, f] t (0, 0))) : W.cell? ⟨g, 0, none⟩ = some a ∧ W.cell? ⟨g, 1, none⟩ = some b ∧ W.cell? ⟨g, 2, none⟩ = some c ∧ W.cell? ⟨g, 3, none⟩ = some d ∧ W.cell? ⟨g, 4, none⟩ = some e ∧ W.cell? ⟨g, 5, none⟩ = some f :=
  ⟨blk_cell h 0, blk_cell h 1, blk_cell h 2, blk_cell h 3, blk_cell h 4, blk_cell h 5⟩
theorem frees6 {W : World} {g t : Nat} {a b c d e f : Value} (h : W.heap[g]? = some (.cells #[a, b, c, d, e, f] t (0, 0))) : W.frozen? ⟨g, 0, none⟩ = false ∧ W.frozen? ⟨g, 1, none⟩ = false ∧ W.frozen? ⟨g, 2, none⟩ = false ∧ W.frozen? ⟨g, 3, none⟩ = false ∧ W.frozen? ⟨g, 4, none⟩ = false ∧ W.frozen? ⟨g, 5, none⟩ = false :=
  ⟨blk_frozen h 0, blk_frozen h 1, blk_frozen h 2, blk_frozen h 3, blk_frozen h 4, blk_frozen h 5⟩
def oH : Option Tr → Int
  | none => 0
  | some t => cH t
/-- What a rope counts, as Go has it. -/
def allV (o : Option Tr) : Value := .agg #[.int .i64 ((otxt o).length : Int), .int .i64 (units (otxt o) : Int), .int .i64 (ends (otxt o) : Int), .int .i64 (oH o), .bool (begins (otxt o)), .bool (closes (otxt o))]
set_option maxHeartbeats 4000000 in
set_option maxRecDepth 100000 in
theorem all_nil (w : World) : Calls Tryd.prog 50 #[.pointer none] w fun e w' => e = .returned (allV none) ∧ Below w.heap.size w w' := by
  go_enter Tryd.func50, Tryd.ntmps50
  go_wp2
  refine bodyPost_ret (v := allV none) (by simp [results, Tryd.results50, go_sem]; rfl) rfl ⟨rfl, ?_⟩
  exact (Below.refl _ _).alloc (Nat.le_refl _) _
set_option maxHeartbeats 4000000 in
set_option maxRecDepth 100000 in
theorem all_none {p : Value} {w : World} (h : IsRope w p none) : Calls Tryd.prog 50 #[p] w fun e w' => e = .returned (allV none) ∧ Below w.heap.size w w' := by
  obtain ⟨b, v, rfl, hh, ho⟩ := h
  obtain rfl : v = .nilIface := ho
  have hc : w.cell? ⟨b, 0, none⟩ = some .nilIface := blk_cell hh 0
  have hlt : b < w.heap.size := blk_lt hh
  have hne : b ≠ w.heap.size := Nat.ne_of_lt hlt
  clear hh
  go_enter Tryd.func50, Tryd.ntmps50
  go_wp2
  refine bodyPost_ret (v := allV none) (by simp [results, Tryd.results50, go_sem]; rfl) rfl ⟨rfl, ?_⟩
  exact (Below.refl _ _).alloc (Nat.le_refl _) _
set_option maxHeartbeats 4000000 in
set_option maxRecDepth 100000 in
theorem all_some {p : Value} {t : Tr} {w : World} (h : IsRope w p (some t)) : Calls Tryd.prog 50 #[p] w fun e w' => e = .returned (allV (some t)) ∧ Below w.heap.size w w' := by
  obtain ⟨b, v, rfl, hh, ho⟩ := h
  have hp : IsPart w v t := ho
  have hc : w.cell? ⟨b, 0, none⟩ = some v := blk_cell hh 0
  have hlt : b < w.heap.size := blk_lt hh
  have hne : b ≠ w.heap.size := Nat.ne_of_lt hlt
  clear hh ho
  obtain ⟨T, bx, hT, rfl, _⟩ := hp.view
  have hm0 := fun W (hb : Below w.heap.size w W) => meth_below hb hp
  have BA : Below w.heap.size w (w.alloc (.cells #[.int .i64 0, .int .i64 0, .int .i64 0, .int .i64 0, .bool false, .bool false] 95 (0, 0))) := (Below.refl _ _).alloc (Nat.le_refl _) _
  have hm := hm0 _ BA
  clear hm0 hp
  have BB := Aside0.mk BA
  clear BA
  rcases hT with rfl | rfl
  all_goals
    go_enter Tryd.func50, Tryd.ntmps50
    go_wp2_with (go_at_call 108; refine (has_calls _ _ _ _ _ _ _).mono ?_; rintro e w1 ⟨rfl, hb1⟩; have Z := Aside0.mk (blk_below (blk_new w _) hb1); have BL := Aside0.mk (below_step BB.out hb1); clear hm hb1 hc; obtain ⟨z0, z1, z2, z3, z4, z5⟩ := cells6 Z.out; obtain ⟨f0, f1, f2, f3, f4, f5⟩ := frees6 Z.out)
    refine bodyPost_ret (v := allV (some t)) (by simp [results, Tryd.results50, go_sem, *]; rfl) rfl ⟨rfl, ?_⟩
    exact (((((BL.out.setCell (p := ⟨w.heap.size, 0, none⟩) (Nat.le_refl _) _).setCell (p := ⟨w.heap.size, 1, none⟩) (Nat.le_refl _) _).setCell (p := ⟨w.heap.size, 2, none⟩) (Nat.le_refl _) _).setCell (p := ⟨w.heap.size, 3, none⟩) (Nat.le_refl _) _).setCell (p := ⟨w.heap.size, 4, none⟩) (Nat.le_refl _) _).setCell (p := ⟨w.heap.size, 5, none⟩) (Nat.le_refl _) _

theorem all_calls {p : Value} {o : Option Tr} {w : World} (h : IsRope w p o) : Calls Tryd.prog 50 #[p] w fun e w' => e = .returned (.agg #[.int .i64 ((otxt o).length : Int), .int .i64 (units (otxt o) : Int), .int .i64 (ends (otxt o) : Int), .int .i64 (oH o), .bool (begins (otxt o)), .bool (closes (otxt o))]) ∧ Below w.heap.size w w' := by
  cases o with
  | none => exact all_none h
  | some t => exact all_some h
set_option maxHeartbeats 4000000 in
set_option maxRecDepth 100000 in
theorem len_rope {p : Value} {o : Option Tr} {w : World} (h : IsRope w p o) : Calls Tryd.prog 19 #[p] w fun e w' => e = .returned (.int .i64 ((otxt o).length : Int)) ∧ Below w.heap.size w w' := by
  have HR := Aside0.mk h
  clear h
  go_enter Tryd.func19, Tryd.ntmps19
  go_wp2_with (go_at_call 50; refine (all_calls HR.out).mono ?_; rintro e w1 ⟨rfl, hb1⟩; have BL := Aside0.mk hb1; clear hb1)
  go_ret
  exact ⟨rfl, BL.out⟩
set_option maxHeartbeats 4000000 in
set_option maxRecDepth 100000 in
theorem units_rope {p : Value} {o : Option Tr} {w : World} (h : IsRope w p o) : Calls Tryd.prog 21 #[p] w fun e w' => e = .returned (.int .i64 (units (otxt o) : Int)) ∧ Below w.heap.size w w' := by
  have HR := Aside0.mk h
  clear h
  go_enter Tryd.func21, Tryd.ntmps21
  go_wp2_with (go_at_call 50; refine (all_calls HR.out).mono ?_; rintro e w1 ⟨rfl, hb1⟩; have BL := Aside0.mk hb1; clear hb1)
  go_ret
  exact ⟨rfl, BL.out⟩
set_option maxHeartbeats 4000000 in
set_option maxRecDepth 100000 in
theorem breaks_rope {p : Value} {o : Option Tr} {w : World} (h : IsRope w p o) : Calls Tryd.prog 22 #[p] w fun e w' => e = .returned (.int .i64 (ends (otxt o) : Int)) ∧ Below w.heap.size w w' := by
  have HR := Aside0.mk h
  clear h
  go_enter Tryd.func22, Tryd.ntmps22
  go_wp2_with (go_at_call 50; refine (all_calls HR.out).mono ?_; rintro e w1 ⟨rfl, hb1⟩; have BL := Aside0.mk hb1; clear hb1)
  go_ret
  exact ⟨rfl, BL.out⟩
set_option maxHeartbeats 4000000 in
set_option maxRecDepth 100000 in
theorem depth_rope {p : Value} {o : Option Tr} {w : World} (h : IsRope w p o) : Calls Tryd.prog 47 #[p] w fun e w' => e = .returned (.int .i64 (oH o)) ∧ Below w.heap.size w w' := by
  have HR := Aside0.mk h
  clear h
  go_enter Tryd.func47, Tryd.ntmps47
  go_wp2_with (go_at_call 50; refine (all_calls HR.out).mono ?_; rintro e w1 ⟨rfl, hb1⟩; have BL := Aside0.mk hb1; clear hb1)
  go_ret
  exact ⟨rfl, BL.out⟩

set_option maxHeartbeats 4000000 in
set_option maxRecDepth 100000 in
theorem between_empty {p : Value} {o : Option Tr} {w : World} (h : IsRope w p o) (f t : Int) (hle : t ≤ f) : Calls Tryd.prog 49 #[p, .int .i64 f, .int .i64 t] w fun e w' => e = .returned (.string ⟨#[]⟩) ∧ Below w.heap.size w w' := by
  obtain ⟨b, v, rfl, hh, ho⟩ := h
  have hc : w.cell? ⟨b, 0, none⟩ = some v := blk_cell hh 0
  cases o with
  | none =>
    obtain rfl : v = .nilIface := ho
    clear hh
    go_enter Tryd.func49, Tryd.ntmps49
    go_wp2
    go_ret
    exact ⟨rfl, Below.refl _ _⟩
  | some t =>
    have hp : IsPart w v t := ho
    obtain ⟨T, bx, hT, rfl, _⟩ := hp.view
    clear hh ho hp
    rcases hT with rfl | rfl
    all_goals
      go_enter Tryd.func49, Tryd.ntmps49
      go_wp2
      go_ret
      exact ⟨rfl, Below.refl _ _⟩
set_option maxHeartbeats 4000000 in
set_option maxRecDepth 100000 in
theorem between_none {p : Value} {w : World} (h : IsRope w p none) (f t : Int) : Calls Tryd.prog 49 #[p, .int .i64 f, .int .i64 t] w fun e w' => e = .returned (.string ⟨#[]⟩) ∧ Below w.heap.size w w' := by
  obtain ⟨b, v, rfl, hh, ho⟩ := h
  have hc : w.cell? ⟨b, 0, none⟩ = some v := blk_cell hh 0
  obtain rfl : v = .nilIface := ho
  clear hh
  go_enter Tryd.func49, Tryd.ntmps49
  go_wp2
  go_ret
  exact ⟨rfl, Below.refl _ _⟩
set_option maxHeartbeats 4000000 in
set_option maxRecDepth 100000 in
theorem between_some {p : Value} {t : Tr} {w : World} (h : IsRope w p (some t)) (hn : t.txt.length ≤ 1000000) (f g : Int) (hlt : f < g) (f1 : -2000000 ≤ f) (f2 : f ≤ 2000000) (g1 : -2000000 ≤ g) (g2 : g ≤ 2000000) :
    Calls Tryd.prog 49 #[p, .int .i64 f, .int .i64 g] w fun e w' => e = .returned (.string ⟨(mid t.txt f g).toArray⟩) ∧ Below w.heap.size w w' := by
  obtain ⟨b, v, rfl, hh, ho⟩ := h
  have hc : w.cell? ⟨b, 0, none⟩ = some v := blk_cell hh 0
  have hlt' : b < w.heap.size := blk_lt hh
  have hne : b ≠ w.heap.size := Nat.ne_of_lt hlt'
  have nle : ¬ (g ≤ f) := by omega
  have hp : IsPart w v t := ho
  obtain ⟨T, bx, hT, rfl, _⟩ := hp.view
  have BA : Below w.heap.size w (w.alloc (.cells #[.pointer none, .slice none 0 0] 122 (0, 0))) := (Below.refl _ _).alloc (Nat.le_refl _) _
  have CT : Aside0 (Calls Tryd.prog 68 #[.pointer (some ⟨w.heap.size, 0, none⟩), .iface T (.pointer (some ⟨bx, 0, none⟩)), .int .i64 f, .int .i64 g] (w.alloc (.cells #[.pointer none, .slice none 0 0] 122 (0, 0))) (Told w w.heap.size ([] ++ mid t.txt f g))) :=
    ⟨told_calls t hp BA (Lib.fresh_isBuilder 122 5 w) hn (by simp; omega) f g f1 f2 g1 g2⟩
  clear hh ho hp hlt f1 f2 g1 g2 BA
  rcases hT with rfl | rfl
  all_goals
    go_enter Tryd.func49, Tryd.ntmps49
    go_wp2_with (first
      | (go_at_call 68; (refine CT.out.mono ?_); rintro e w1 ⟨rfl, hB, hb1⟩; have BL := Aside0.mk hb1; have BB := Aside0.mk hB; clear hb1 hB)
      | (go_at_call 69; (refine (Tryd.Builder_String_any w.heap.size w.heap.size ([] ++ mid t.txt f g) _ BB.out BL.out.size).mono ?_); rintro e w2 ⟨rfl, hb2⟩; have BL2 := Aside0.mk (BL.out.trans hb2); clear hb2))
    go_ret
    exact ⟨rfl, BL2.out⟩
/-- between: whatever places. -/
theorem between_calls {p : Value} {o : Option Tr} {w : World} (h : IsRope w p o) (hn : (otxt o).length ≤ 1000000) (f g : Int) (f1 : -2000000 ≤ f) (f2 : f ≤ 2000000) (g1 : -2000000 ≤ g) (g2 : g ≤ 2000000) :
    Calls Tryd.prog 49 #[p, .int .i64 f, .int .i64 g] w fun e w' => e = .returned (.string ⟨(mid (otxt o) f g).toArray⟩) ∧ Below w.heap.size w w' := by
  by_cases hle : g ≤ f
  · rw [mid_none _ _ _ hle]; exact between_empty h f g hle
  · cases o with
    | none =>
      have e : mid (otxt none) f g = [] := by simp [mid, otxt]
      rw [e]; exact between_none h f g
    | some t => exact between_some h hn f g (by omega) f1 f2 g1 g2
theorem mid_all (l : List UInt8) : mid l 0 l.length = l := by simp [mid]
set_option maxHeartbeats 4000000 in
set_option maxRecDepth 100000 in
theorem text_rope {p : Value} {o : Option Tr} {w : World} (h : IsRope w p o) (hn : (otxt o).length ≤ 1000000) : Calls Tryd.prog 20 #[p] w fun e w' => e = .returned (.string ⟨(otxt o).toArray⟩) ∧ Below w.heap.size w w' := by
  have HR := Aside0.mk h
  have CB : Aside0 (∀ w1, Below w.heap.size w w1 → Calls Tryd.prog 49 #[p, .int .i64 0, .int .i64 ((otxt o).length : Int)] w1 fun e w' => e = .returned (.string ⟨(otxt o).toArray⟩) ∧ Below w1.heap.size w1 w') := ⟨fun w1 hb => by
    have := between_calls (h.below hb) hn 0 ((otxt o).length : Int) (by omega) (by omega) (by omega) (by omega)
    rw [mid_all] at this; exact this⟩
  clear h hn
  go_enter Tryd.func20, Tryd.ntmps20
  go_wp2_with (first
    | (go_at_call 19; refine (len_rope HR.out).mono ?_; rintro e w1 ⟨rfl, hb1⟩; have BL := Aside0.mk hb1; clear hb1)
    | (go_at_call 49; (refine (CB.out _ BL.out).mono ?_); rintro e w1 ⟨rfl, hb1⟩; have BL2 := Aside0.mk (below_step BL.out hb1); clear hb1))
  go_ret
  exact ⟨rfl, BL2.out⟩
end Go.Proofs.YtobhfpepclepdaaDoor
