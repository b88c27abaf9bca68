/- The walk of JsonGets. -/
import Derived.Test.YtahedgkdgnlcfaaReadV
namespace Go.Proofs.Ytahedgkdgnlcfaa.PJsonGets
open Go.RowKit Go.Proofs.YtahedgkdgnlcfaaW.PrintWords Go.Proofs.YtahedgkdgnlcfaaW.PrintLast Go.Proofs.YtahedgkdgnlcfaaW.PrintMore
attribute [local go_sem] max2_int min2_int max_two min_two max_three min_three max_four min_four
set_option linter.unusedVariables false


section
variable {W W' w : World} {g t : Nat} {a b c d x0 x1 x2 x3 : Value}
theorem C_V {α : Type} {d : Kd α} (hd : Kd.Heap d) {e base : Nat} {W : World} {A : Option Addr} {xs : List α} {c : Nat} (hl : xs.length ≤ c) (h : d.C W A xs.length xs) : Kd.V d e W base (fun _ => True) (.slice A xs.length c) xs :=
  Kd.V_mk hl (fun W' hW => Kd.Heap.C hd (fun k hk => hW k trivial hk) h)
/-- A block of four cells: what is read there, and that it may be written. -/
theorem cells4 (h : W.heap[g]? = some (.cells #[a, b, c, d] t (0, 0))) : W.cell? ⟨g, 0, none⟩ = some a ∧ W.cell? ⟨g, 1, none⟩ = some b ∧ W.cell? ⟨g, 2, none⟩ = some c ∧ W.cell? ⟨g, 3, none⟩ = some d :=
  ⟨blk_cell h 0, blk_cell h 1, blk_cell h 2, blk_cell h 3⟩
theorem frees4 (h : W.heap[g]? = some (.cells #[a, b, c, d] t (0, 0))) : W.frozen? ⟨g, 0, none⟩ = false ∧ W.frozen? ⟨g, 1, none⟩ = false ∧ W.frozen? ⟨g, 2, none⟩ = false ∧ W.frozen? ⟨g, 3, none⟩ = false :=
  ⟨blk_frozen h 0, blk_frozen h 1, blk_frozen h 2, blk_frozen h 3⟩
/-- All four are written. -/
theorem put4 (h : W.heap[g]? = some (.cells #[x0, x1, x2, x3] t (0, 0))) (hw : W' = (((W.setCell ⟨g, 0, none⟩ a).setCell ⟨g, 1, none⟩ b).setCell ⟨g, 2, none⟩ c).setCell ⟨g, 3, none⟩ d) :
    W'.heap[g]? = some (.cells #[a, b, c, d] t (0, 0)) ∧ W.grownBy W' (some g) := by
  subst hw
  refine ⟨blk_put (cs := #[a, b, c, x3]) (blk_put (cs := #[a, b, x2, x3]) (blk_put (cs := #[a, x1, x2, x3]) (blk_put h 0 a rfl) 1 b rfl) 2 c rfl) 3 d rfl, ?_⟩
  obtain ⟨s1, s2, s3, s4⟩ := setCells_same g [a, b, c, d] 0 W
  exact ⟨s1, s2, s3, Nat.le_of_eq s4.symm, fun k _ hk => setCells_far [a, b, c, d] 0 k (fun e => hk (by rw [e]))⟩
end
/-- What lies in memory between two turns. -/
structure Held (w W : World) (g2 g5 g6 : Nat) (v y : S25) (A2 A3 A5 A5' : Option Addr) (c2 c3 c5 c5' : Nat) (u6 u6' : Value) : Prop where
  below : Below w.heap.size w W
  b2 : W.heap[g2]? = some (.cells #[.int .u8 v.f0, .string v.f1, .slice A2 v.f2.length c2, .slice A3 v.f3.length c3] 25 (0, 0))
  b5 : W.heap[g5]? = some (.cells #[.int .u8 v.f0, .string v.f1, .slice A5 v.f2.length c5, .slice A5' v.f3.length c5'] 25 (0, 0))
  b6 : W.heap[g6]? = some (.cells #[.int .u8 y.f0, .string y.f1, u6, u6'] 25 (0, 0))
  n2 : w.heap.size ≤ g2
  n5 : w.heap.size ≤ g5
  n6 : w.heap.size ≤ g6
  m2 : Kd.R k25 25 W w.heap.size (fun k => k < W.heap.size) (.slice A5 v.f2.length c5) v.f2
  m3 : Kd.R k32 32 W w.heap.size (fun k => k < W.heap.size) (.slice A5' v.f3.length c5') v.f3
  y2 : Kd.V k25 25 W w.heap.size (fun k => k < W.heap.size) u6 y.f2
  y3 : Kd.V k32 32 W w.heap.size (fun k => k < W.heap.size) u6' y.f3
theorem Held.move {w W W' : World} {g2 g5 g6 : Nat} {v y : S25} {A2 A3 A5 A5' : Option Addr} {c2 c3 c5 c5' : Nat} {u6 u6' : Value} (h : Held w W g2 g5 g6 v y A2 A3 A5 A5' c2 c3 c5 c5' u6 u6') (hb : Below W.heap.size W W') : Held w W' g2 g5 g6 v y A2 A3 A5 A5' c2 c3 c5 c5' u6 u6' :=
  ⟨below_step h.below hb, blk_below h.b2 hb, blk_below h.b5 hb, blk_below h.b6 hb, h.n2, h.n5, h.n6,
    Kd.R_mono (Kd.R_below h.m2 hb) (fun _ hk => Nat.lt_of_lt_of_le hk hb.size), Kd.R_mono (Kd.R_below h.m3 hb) (fun _ hk => Nat.lt_of_lt_of_le hk hb.size),
    Kd.V_mono (Kd.V_below h.y2 hb) (fun _ hk => Nat.lt_of_lt_of_le hk hb.size), Kd.V_mono (Kd.V_below h.y3 hb) (fun _ hk => Nat.lt_of_lt_of_le hk hb.size)⟩


structure Own9 (wr W : World) (g9 : Nat) (y : S25) (A9 A9' : Option Addr) (c9 c9' : Nat) : Prop where
  below : Below wr.heap.size wr W
  n9 : wr.heap.size ≤ g9
  b9 : W.heap[g9]? = some (.cells #[.int .u8 y.f0, .string y.f1, .slice A9 y.f2.length c9, .slice A9' y.f3.length c9'] 25 (0, 0))
  z2 : W0 25 4 W wr.heap.size (fun k => k ≠ g9) (.slice A9 y.f2.length c9) y.f2.length
  z3 : W0 32 5 W wr.heap.size (fun k => k ≠ g9) (.slice A9' y.f3.length c9') y.f3.length
theorem W0_row {e sz : Nat} {W : World} {base n c : Nat} {ok : Nat → Prop} {A : Option Addr} (h : W0 e sz W base ok (.slice A n c) n) (hn : 0 < n) : ∃ g cells, A = some ⟨g, 0, none⟩ ∧ ok g ∧ base ≤ g ∧ W.heap[g]? = some (.cells cells e (0, 0)) ∧ n * sz ≤ cells.size := by
  rcases h with h | ⟨g, cap, cells, hv, r⟩
  · omega
  · injection hv with h1 h2 h3
    exact ⟨g, cells, h1, r⟩
theorem row_cell {W : World} {g e : Nat} {cells : Array Value} (h : W.heap[g]? = some (.cells cells e (0, 0))) {i : Nat} (hi : i < cells.size) : ∃ u, W.cell? ⟨g, i, none⟩ = some u := ⟨cells[i], by rw [blk_cell h i, Array.getElem?_eq_getElem hi]⟩
theorem W0_put {e sz : Nat} {W W' : World} {base n c g : Nat} {ok : Nat → Prop} {A : Option Addr} (h : W0 e sz W base ok (.slice A n c) n) (hA : A = some ⟨g, 0, none⟩) {cells : Array Value} (hh : W'.heap[g]? = some (.cells cells e (0, 0))) (hs : n * sz ≤ cells.size) : W0 e sz W' base ok (.slice A n c) n := by
  rcases h with h | ⟨g', cap, cells', hv, ho, hb, _⟩
  · exact .inl h
  · injection hv with h1 h2 h3
    rw [hA] at h1
    injection h1 with h1
    injection h1 with h1
    subst h1
    exact .inr ⟨g, c, cells, by rw [hA], ho, hb, hh, hs⟩
theorem W0_other {e sz : Nat} {W W' : World} {base n c g t : Nat} {ok : Nat → Prop} {A : Option Addr} {cells : Array Value} (h : W0 e sz W base ok (.slice A n c) n) (hh : W.heap[g]? = some (.cells cells t (0, 0))) (hne : e ≠ t) (hg : W.grownBy W' (some g)) : W0 e sz W' base ok (.slice A n c) n := by
  rcases h with h | ⟨g', cap, cells', hv, ho, hb, hh', hn⟩
  · exact .inl h
  · exact .inr ⟨g', cap, cells', hv, ho, hb, blk_grown hh' hg (fun e_ => blk_ne hh' hh hne (by injection e_)), hn⟩
theorem put_row {W : World} {g e : Nat} {cur : Array Value} (hh : W.heap[g]? = some (.cells cur e (0, 0))) (seg : List Value) (o : Nat) (hfit : o + seg.length ≤ cur.size) : ∃ cur', (W.setCells g o seg).heap[g]? = some (.cells cur' e (0, 0)) ∧ cur'.size = cur.size ∧ W.grownBy (W.setCells g o seg) (some g) := by
  obtain ⟨cur', h3, h4, _⟩ := setCells_row seg o W cur hh hfit
  obtain ⟨s1, s2, s3, s4⟩ := setCells_same g seg o W
  exact ⟨cur', h3, h4, s1, s2, s3, Nat.le_of_eq s4.symm, fun k _ hk => setCells_far seg o k (fun e => hk (by rw [e]))⟩
/-- One element of the list is written over. -/
theorem Own9.one {wr W W' : World} {g9 : Nat} {y : S25} {A9 A9' : Option Addr} {c9 c9' : Nat} (h : Own9 wr W g9 y A9 A9' c9 c9') {g j : Nat} (hA : A9 = some ⟨g, 0, none⟩) (hj : j < y.f2.length) (a b c d : Value) (hw : W' = W.setCells g (j * 4) [a, b, c, d]) : Own9 wr W' g9 y A9 A9' c9 c9' := by
  obtain ⟨g', cells, h1, h2, h3, h4, h5⟩ := W0_row h.z2 (by omega)
  rw [hA] at h1
  injection h1 with h1
  injection h1 with h1
  subst h1
  subst hw
  obtain ⟨cur', p1, p2, p3⟩ := put_row h4 [a, b, c, d] (j * 4) (by simp; omega)
  exact ⟨pw_below_grown h.below (some g) h.below.size p3 (fun k_ e_ => by injection e_ with e_; omega), h.n9, blk_grown h.b9 p3 (fun e_ => h2 (by injection e_ with e_; exact e_.symm)), W0_put h.z2 hA p1 (by omega), W0_other h.z3 h4 (by decide) p3⟩
/-- One field's name is written over. -/
theorem Own9.two {wr W W' : World} {g9 : Nat} {y : S25} {A9 A9' : Option Addr} {c9 c9' : Nat} (h : Own9 wr W g9 y A9 A9' c9 c9') {g j : Nat} (hA : A9' = some ⟨g, 0, none⟩) (hj : j < y.f3.length) (a : Value) (hw : W' = W.setCells g (j * 5) [a]) : Own9 wr W' g9 y A9 A9' c9 c9' := by
  obtain ⟨g', cells, h1, h2, h3, h4, h5⟩ := W0_row h.z3 (by omega)
  rw [hA] at h1
  injection h1 with h1
  injection h1 with h1
  subst h1
  subst hw
  obtain ⟨cur', p1, p2, p3⟩ := put_row h4 [a] (j * 5) (by simp; omega)
  exact ⟨pw_below_grown h.below (some g) h.below.size p3 (fun k_ e_ => by injection e_ with e_; omega), h.n9, blk_grown h.b9 p3 (fun e_ => h2 (by injection e_ with e_; exact e_.symm)), W0_other h.z2 h4 (by decide) p3, W0_put h.z3 hA p1 (by omega)⟩
set_option maxHeartbeats 8000000 in
set_option maxRecDepth 100000 in
theorem JsonGets_no (v : S25) (A2 A3 : Option Addr) (c2 c3 : Nat) (name : ByteArray) (w : World) (l2 : v.f2.length ≤ c2) (g2 : k25.C w A2 v.f2.length v.f2) (l3 : v.f3.length ≤ c3) (g3 : k32.C w A3 v.f3.length v.f3)
    (k : Nat) (hs : glossatorref03_Small.f k v.f0 v.f1 v.f2 v.f3 2000 200 = some false) :
    Calls Try.prog 3 #[.agg #[.int .u8 v.f0, .string v.f1, .slice A2 v.f2.length c2, .slice A3 v.f3.length c3], .string name] w fun e w' => e = .returned (.bool true) ∧ Below w.heap.size w w' := by
  have HS := Aside0.mk hs
  have G2 := Aside0.mk g2
  have G3 := Aside0.mk g3
  clear hs g2 g3
  go_enter Try.func3, Try.ntmps3
  go_wp2_with (go_at_call 4; (refine (glossatorref03_Small.calls k _ _ A2 c2 v.f2 A3 c3 v.f3 2000 200 false _ (Kd.C_below G2.out ((Below.refl _ _).alloc (Nat.le_refl _) _)) l2 (Kd.C_below G3.out ((Below.refl _ _).alloc (Nat.le_refl _) _)) l3 HS.out).mono ?_; rintro e w1 ⟨rfl, hb⟩))
  go_ret
  exact ⟨rfl, ((Below.refl _ _).alloc (Nat.le_refl _) _).trans (hb.mono (by simp))⟩

set_option maxHeartbeats 8000000 in
set_option maxRecDepth 100000 in
theorem JsonGets_yes (v : S25) (hv : Fits 3000 v) (A2 A3 : Option Addr) (c2 c3 : Nat) (name : ByteArray) (w : World) (l2 : v.f2.length ≤ c2) (g2 : k25.C w A2 v.f2.length v.f2) (l3 : v.f3.length ≤ c3) (g3 : k32.C w A3 v.f3.length v.f3)
    (k : Nat) (hs : glossatorref03_Small.f k v.f0 v.f1 v.f2 v.f3 2000 200 = some true) (hyy : Fits 3000 (got v name).1) (ht : glossatorref03_Twin.f k v.f0 v.f1 v.f2 v.f3 = some (v.f0, v.f1, v.f2, v.f3))
    (hr : glossatorref03_Get.f k v.f0 v.f1 v.f2 v.f3 name = some ((got v name).1.f0, (got v name).1.f1, (got v name).1.f2, (got v name).1.f3, (got v name).2))
    (hg : json_Get.f k v.f0 v.f1 v.f2 v.f3 name = some ((got v name).1.f0, (got v name).1.f1, (got v name).1.f2, (got v name).1.f3, (got v name).2))
    (hS1 : glossatorref03_Same.f k (got v name).1.f0 (got v name).1.f1 (got v name).1.f2 (got v name).1.f3 (got v name).1.f0 (got v name).1.f1 (got v name).1.f2 (got v name).1.f3 = some true)
    (hS2 : glossatorref03_Same.f k v.f0 v.f1 v.f2 v.f3 v.f0 v.f1 v.f2 v.f3 = some true) :
    Calls Try.prog 3 #[.agg #[.int .u8 v.f0, .string v.f1, .slice A2 v.f2.length c2, .slice A3 v.f3.length c3], .string name] w fun e w' => e = .returned (.bool true) ∧ Below w.heap.size w w' := by
  generalize (got v name).1 = y at hr hg hS1 hyy
  obtain ⟨_, hy2, hy3, _, _⟩ := hyy
  generalize (got v name).2 = is at hr hg
  have HS := Aside0.mk hs
  have HT := Aside0.mk ht
  have HR := Aside0.mk hr
  have HG := Aside0.mk hg
  have H1 := Aside0.mk hS1
  have H2 := Aside0.mk hS2
  have G2 := Aside0.mk g2
  have G3 := Aside0.mk g3
  have B0 := Aside0.mk ((Below.refl w.heap.size w).alloc (Nat.le_refl _) (.cells #[.int .u8 v.f0, .string v.f1, .slice A2 v.f2.length c2, .slice A3 v.f3.length c3] 25 (0, 0)))
  clear hs ht hr hg hS1 hS2 g2 g3
  go_enter Try.func3, Try.ntmps3
  go_wp2_with (first
    | (go_at_call 4; (refine (glossatorref03_Small.calls k _ _ A2 c2 v.f2 A3 c3 v.f3 2000 200 true _ (Kd.C_below G2.out B0.out) l2 (Kd.C_below G3.out B0.out) l3 HS.out).mono ?_; rintro e w1 ⟨rfl, hb_⟩; have B1 := Aside0.mk (below_step B0.out hb_); have Z2 := Aside0.mk (blk_below (blk_new w _) hb_); clear B0 hb_; obtain ⟨hc0, hc1, hc2, hc3⟩ := cells4 Z2.out))
    | (go_at_call 5; (refine (glossatorref03_Twin.calls k _ _ A2 c2 v.f2 A3 c3 v.f3 v.f0 v.f1 v.f2 v.f3 w1 (Kd.C_below G2.out B1.out) l2 (Kd.C_below G3.out B1.out) l3 HT.out).mono ?_; rintro e w2 ⟨u5, u5', rfl, ho0, ho1, hb_⟩; have B2 := Aside0.mk (below_step B1.out hb_); have Z2' := Aside0.mk (blk_below Z2.out hb_); have B1s := Aside0.mk B1.out.size; clear B1 Z2 hb_ hc0 hc1 hc2 hc3; obtain ⟨hc0, hc1, hc2, hc3⟩ := cells4 Z2'.out; obtain ⟨A5, c5, rfl⟩ := Kd.R_slice ho0; obtain ⟨A5', c5', rfl⟩ := Kd.R_slice ho1; have M2 := Aside0.mk ho0; have M3 := Aside0.mk ho1; clear ho0 ho1))
    | ((with_reducible refine gate_dst (N := 5) rfl ?_); refine box_event ?hg (N := 5) ?hd (cs := #[.int .u8 0, .string (⟨#[]⟩ : ByteArray), .slice none 0 0, .slice none 0 0]) (t := 25) ?hr ?_; (case hd => rfl); (case hg => rfl); (case hr => first | (go_simp; done) | (go_simp; rfl)); intro g5 hg_ w3 hbox_ hb5; (have B3 := Aside0.mk (below_step B2.out hb5); have Z3 := Aside0.mk (blk_below Z2'.out hb5); have M2' := Aside0.mk (Kd.R_below (Kd.R_elderB M2.out g5 (Nat.le_of_eq hg_.symm)) hb5); have M3' := Aside0.mk (Kd.R_below (Kd.R_elderB M3.out g5 (Nat.le_of_eq hg_.symm)) hb5); have n5 := Aside0.mk (show w.heap.size ≤ g5 by rw [hg_]; exact B2.out.size); have Z5 := Aside0.mk hbox_; have n25 := Aside0.mk (show w.heap.size ≠ g5 by rw [hg_]; exact Nat.ne_of_lt (blk_lt Z2'.out)); have B2s := Aside0.mk B2.out.size; clear B2 Z2' M2 M3 hbox_ hb5 hg_ hc0 hc1 hc2 hc3; obtain ⟨hc0, hc1, hc2, hc3⟩ := cells4 Z3.out; obtain ⟨hd0, hd1, hd2, hd3⟩ := cells4 Z5.out; obtain ⟨hf0, hf1, hf2, hf3⟩ := frees4 Z5.out))
    | ((with_reducible refine gate_store (t := 25) (p := 5) rfl ?_); refine store_event (t := 25) (p := 5) (v := ?vo_w4) (w1 := (((w3.setCell ⟨g5, 0, none⟩ (.int .u8 v.f0)).setCell ⟨g5, 1, none⟩ (.string v.f1)).setCell ⟨g5, 2, none⟩ (.slice A5 v.f2.length c5)).setCell ⟨g5, 3, none⟩ (.slice A5' v.f3.length c5')) ?hg ?ho ?hn ?hr ?_; (case ho => rfl); (case hg => rfl); (case hn => rfl); (case hr => first | (go_simp; done) | (go_simp; rfl)); intro w4 hw_; (obtain ⟨Z5', gr⟩ := put4 Z5.out hw_; have B4 := Aside0.mk (pw_below_grown B3.out (some g5) B3.out.size gr (fun k_ e_ => by injection e_ with e_; rw [← e_]; exact n5.out)); have Z4 := Aside0.mk (blk_grown Z3.out gr (fun e_ => n25.out (by injection e_))); have M2 := Aside0.mk (Kd.R_mono (Kd.R_bound (Kd.R_grown M2'.out gr (fun k_ hk_ e_ => hk_.2 (by injection e_)))) (fun _ hk_ => hk_.2.2.1)); have M3 := Aside0.mk (Kd.R_mono (Kd.R_bound (Kd.R_grown M3'.out gr (fun k_ hk_ e_ => hk_.2 (by injection e_)))) (fun _ hk_ => hk_.2.2.1)); have W5 := Aside0.mk Z5'; clear hw_ gr Z5' B3 Z3 Z5 M2' M3' hc0 hc1 hc2 hc3 hd0 hd1 hd2 hd3 hf0 hf1 hf2 hf3; obtain ⟨hc0, hc1, hc2, hc3⟩ := cells4 Z4.out))
    | (go_at_call 6; (refine (glossatorref03_Get.calls k _ _ A2 c2 v.f2 (fun _ => True) A3 c3 v.f3 name y.f0 y.f1 y.f2 y.f3 is w4 (Kd.C_below G2.out B4.out) l2 (C_V k32_heap l3 (Kd.C_below G3.out B4.out)) HR.out).mono ?_; rintro e w5 ⟨u6, u6', rfl, ho0, ho1, hb_⟩; have B5 := Aside0.mk (below_step B4.out hb_); have V5 := Aside0.mk (blk_below Z4.out hb_); have V55 := Aside0.mk (blk_below W5.out hb_); have N2 := Aside0.mk (Kd.R_below M2.out hb_); have N3 := Aside0.mk (Kd.R_below M3.out hb_); have Y2 := Aside0.mk (Kd.V_bound ho0); have Y3 := Aside0.mk (Kd.V_bound ho1); clear hb_ ho0 ho1 M2 M3 Z4 W5 B4 hc0 hc1 hc2 hc3; obtain ⟨A6, c6, rfl⟩ := Kd.V_slice Y2.out; obtain ⟨A6', c6', rfl⟩ := Kd.V_slice Y3.out))
    | ((with_reducible refine gate_dst (N := 6) rfl ?_); refine box_event ?hg (N := 6) ?hd (cs := #[.int .u8 0, .string (⟨#[]⟩ : ByteArray), .slice none 0 0, .slice none 0 0]) (t := 25) ?hr ?_; (case hd => rfl); (case hg => rfl); (case hr => first | (go_simp; done) | (go_simp; rfl)); intro g6 hg_ w6 hbox_ hb6; (have B6 := Aside0.mk (below_step B5.out hb6); have X2 := Aside0.mk (blk_below V5.out hb6); have X5 := Aside0.mk (blk_below V55.out hb6); have Q2 := Aside0.mk (Kd.R_below (Kd.R_elderB N2.out g6 (Nat.le_of_eq hg_.symm)) hb6); have Q3 := Aside0.mk (Kd.R_below (Kd.R_elderB N3.out g6 (Nat.le_of_eq hg_.symm)) hb6); have P2 := Aside0.mk (Kd.V_below (Kd.V_elderB Y2.out g6 (Nat.le_of_eq hg_.symm)) hb6); have P3 := Aside0.mk (Kd.V_below (Kd.V_elderB Y3.out g6 (Nat.le_of_eq hg_.symm)) hb6); have n6 := Aside0.mk (show w.heap.size ≤ g6 by rw [hg_]; exact B5.out.size); have X6 := Aside0.mk hbox_; have n26 := Aside0.mk (show w.heap.size ≠ g6 by rw [hg_]; exact Nat.ne_of_lt (blk_lt V5.out)); have n56 := Aside0.mk (show g5 ≠ g6 by rw [hg_]; exact Nat.ne_of_lt (blk_lt V55.out)); clear B5 V5 V55 N2 N3 Y2 Y3 hbox_ hb6 hg_; obtain ⟨hd0, hd1, hd2, hd3⟩ := cells4 X6.out; obtain ⟨hf0, hf1, hf2, hf3⟩ := frees4 X6.out))
    | ((with_reducible refine gate_store (t := 25) (p := 6) rfl ?_); refine store_event (t := 25) (p := 6) (v := ?vo_w7) (w1 := (((w6.setCell ⟨g6, 0, none⟩ (.int .u8 y.f0)).setCell ⟨g6, 1, none⟩ (.string y.f1)).setCell ⟨g6, 2, none⟩ (.slice A6 y.f2.length c6)).setCell ⟨g6, 3, none⟩ (.slice A6' y.f3.length c6')) ?hg ?ho ?hn ?hr ?_; (case ho => rfl); (case hg => rfl); (case hn => rfl); (case hr => first | (go_simp; done) | (go_simp; rfl)); intro w7 hw_; (obtain ⟨X6', gr⟩ := put4 X6.out hw_; have HD := Aside0.mk (show Held w w7 w.heap.size g5 g6 v y A2 A3 A5 A5' c2 c3 c5 c5' (.slice A6 y.f2.length c6) (.slice A6' y.f3.length c6') from ⟨pw_below_grown B6.out (some g6) B6.out.size gr (fun k_ e_ => by injection e_ with e_; rw [← e_]; exact n6.out), blk_grown X2.out gr (fun e_ => n26.out (by injection e_)), blk_grown X5.out gr (fun e_ => n56.out (by injection e_)), X6', Nat.le_refl _, n5.out, n6.out, Kd.R_mono (Kd.R_bound (Kd.R_lower (Kd.R_grown Q2.out gr (fun k_ hk_ e_ => hk_.2 (by injection e_))) B1s.out)) (fun _ hk_ => hk_.2.2.1), Kd.R_mono (Kd.R_bound (Kd.R_lower (Kd.R_grown Q3.out gr (fun k_ hk_ e_ => hk_.2 (by injection e_))) B1s.out)) (fun _ hk_ => hk_.2.2.1), Kd.V_mono (Kd.V_bound (Kd.V_grown P2.out gr (fun k_ hk_ e_ => hk_.2 (by injection e_)))) (fun _ hk_ => hk_.2), Kd.V_mono (Kd.V_bound (Kd.V_grown P3.out gr (fun k_ hk_ e_ => hk_.2 (by injection e_)))) (fun _ hk_ => hk_.2)⟩); clear hw_ gr X6' B6 X2 X5 X6 Q2 Q3 P2 P3 n5 n6 n25 n26 n56 B1s B2s hd0 hd1 hd2 hd3 hf0 hf1 hf2 hf3 HR HT HS)))
  go_loopw [8] (fun i wr => ∃ n : Nat, n ≤ 2 ∧ i = .int .i64 n ∧ Aside0 (Held w wr w.heap.size g5 g6 v y A2 A3 A5 A5' c2 c3 c5 c5' (.slice A6 y.f2.length c6) (.slice A6' y.f3.length c6'))) (fun i _ => 2 - (intOf i).toNat)
  case atStart => exact ⟨0, by omega, rfl, HD⟩
  case round =>
    clear HD
    obtain ⟨wo, rfl⟩ : ∃ wo : World, wo = wr := ⟨_, rfl⟩
    obtain ⟨n, hn, rfl, HE⟩ := hrel
    by_cases hlt : n < 2
    · obtain ⟨hc0, hc1, hc2, hc3⟩ := cells4 HE.out.b5
      go_wp2_with (first
        | (go_at_call 7; (refine (json_Get.calls k _ _ A5 c5 v.f2 (fun k => k < wo.heap.size) A5' c5' v.f3 name y.f0 y.f1 y.f2 y.f3 is wo (Kd.R_reads' HE.out.m2).2.2 (Kd.R_reads' HE.out.m2).2.1 (Kd.R_V HE.out.m3) HG.out).mono ?_; rintro e w8 ⟨u9, u9', rfl, ho0, ho1, hb_⟩; have T0 := Aside0.mk hb_; have HE0 := HE; have Y2 := Aside0.mk ho0; have Y3 := Aside0.mk ho1; clear ho0 ho1 hb_ hc0 hc1 hc2 hc3; obtain ⟨A9, c9, rfl⟩ := Kd.VW_slice Y2.out; obtain ⟨A9', c9', rfl⟩ := Kd.VW_slice Y3.out))
        | ((with_reducible refine gate_dst (N := 9) rfl ?_); refine box_event ?hg (N := 9) ?hd (cs := #[.int .u8 0, .string (⟨#[]⟩ : ByteArray), .slice none 0 0, .slice none 0 0]) (t := 25) ?hr ?_; (case hd => rfl); (case hg => rfl); (case hr => first | (go_simp; done) | (go_simp; rfl)); intro g9 hg_ w9 hbox_ hb9; (have T1 := Aside0.mk (below_step T0.out hb9); have Q2 := Aside0.mk (Kd.VW_below (Kd.VW_elderB Y2.out g9 (Nat.le_of_eq hg_.symm)) hb9); have Q3 := Aside0.mk (Kd.VW_below (Kd.VW_elderB Y3.out g9 (Nat.le_of_eq hg_.symm)) hb9); have n9 := Aside0.mk (show wo.heap.size ≤ g9 by rw [hg_]; exact T0.out.size); have X9 := Aside0.mk hbox_; clear T0 Y2 Y3 hbox_ hb9 hg_; obtain ⟨hd0, hd1, hd2, hd3⟩ := cells4 X9.out; obtain ⟨hf0, hf1, hf2, hf3⟩ := frees4 X9.out))
        | ((with_reducible refine gate_store (t := 25) (p := 9) rfl ?_); refine store_event (t := 25) (p := 9) (v := ?vo_w10) (w1 := (((w9.setCell ⟨g9, 0, none⟩ (.int .u8 y.f0)).setCell ⟨g9, 1, none⟩ (.string y.f1)).setCell ⟨g9, 2, none⟩ (.slice A9 y.f2.length c9)).setCell ⟨g9, 3, none⟩ (.slice A9' y.f3.length c9')) ?hg ?ho ?hn ?hr ?_; (case ho => rfl); (case hg => rfl); (case hn => rfl); (case hr => first | (go_simp; done) | (go_simp; rfl)); intro w10 hw_; (obtain ⟨X9', gr⟩ := put4 X9.out hw_; have T2 := Aside0.mk (pw_below_grown T1.out (some g9) T1.out.size gr (fun k_ e_ => by injection e_ with e_; rw [← e_]; exact n9.out)); have HF := Aside0.mk (Held.move HE.out T2.out); have Q2' := Aside0.mk (Kd.VW_grown Q2.out gr (fun k_ hk_ e_ => hk_.2 (by injection e_))); have Q3' := Aside0.mk (Kd.VW_grown Q3.out gr (fun k_ hk_ e_ => hk_.2 (by injection e_))); have W9 := Aside0.mk X9'; clear hw_ gr X9' T1 X9 Q2 Q3 HE hd0 hd1 hd2 hd3 hf0 hf1 hf2 hf3; obtain ⟨hd0, hd1, hd2, hd3⟩ := cells4 W9.out; obtain ⟨hc0, hc1, hc2, hc3⟩ := cells4 HF.out.b6; have tok1 : True := trivial))
        | (go_at_call 8; have _t := tok1; (refine (glossatorref03_Same.calls k _ _ A9 c9 y.f2 A9' c9' y.f3 _ _ A6 c6 y.f2 A6' c6' y.f3 true w10 (Kd.V_reads' (Kd.VW_fst Q2'.out)).2.2 (Kd.V_reads' (Kd.VW_fst Q2'.out)).2.1 (Kd.V_reads' (Kd.VW_fst Q3'.out)).2.2 (Kd.V_reads' (Kd.VW_fst Q3'.out)).2.1 (Kd.V_reads' HF.out.y2).2.2 (Kd.V_reads' HF.out.y2).2.1 (Kd.V_reads' HF.out.y3).2.2 (Kd.V_reads' HF.out.y3).2.1 H1.out).mono ?_; rintro e w11 ⟨rfl, hb_⟩; have T3 := Aside0.mk (below_step T2.out hb_); have HF2 := Aside0.mk (Held.move HF.out hb_); have R2 := Aside0.mk (Kd.VW_below Q2'.out hb_); have R3 := Aside0.mk (Kd.VW_below Q3'.out hb_); have W9' := Aside0.mk (blk_below W9.out hb_); clear tok1 hb_ T2 HF Q2' Q3' W9 hd0 hd1 hd2 hd3 hc0 hc1 hc2 hc3; obtain ⟨hc0, hc1, hc2, hc3⟩ := cells4 HF2.out.b5; obtain ⟨hd0, hd1, hd2, hd3⟩ := cells4 HF2.out.b2; have tok2 : True := trivial))
        | (go_at_call 8; have _t := tok2; (refine (glossatorref03_Same.calls k _ _ A5 c5 v.f2 A5' c5' v.f3 _ _ A2 c2 v.f2 A3 c3 v.f3 true w11 (Kd.R_reads' HF2.out.m2).2.2 (Kd.R_reads' HF2.out.m2).2.1 (Kd.R_reads' HF2.out.m3).2.2 (Kd.R_reads' HF2.out.m3).2.1 (Kd.C_below G2.out HF2.out.below) l2 (Kd.C_below G3.out HF2.out.below) l3 H2.out).mono ?_; rintro e w12 ⟨rfl, hb_⟩; have T4 := Aside0.mk (below_step T3.out hb_); have HF3 := Aside0.mk (Held.move HF2.out hb_); have S2 := Aside0.mk (W0_mono (Kd.VW_below R2.out hb_).2 (fun _ hk_ => hk_.2)); have S3 := Aside0.mk (W0_mono (Kd.VW_below R3.out hb_).2 (fun _ hk_ => hk_.2)); have V9 := Aside0.mk (blk_below W9'.out hb_); clear tok2 hb_ T3 HF2 R2 R3 W9' hd0 hd1 hd2 hd3 hc0 hc1 hc2 hc3)))
      have HO := Aside0.mk (show Own9 wo w12 g9 y A9 A9' c9 c9' from ⟨T4.out, n9.out, V9.out, S2.out, S3.out⟩)
      clear S2 S3 V9 T4 n9
      have HN := Aside0.mk hn
      clear hn
      go_loopw [11] (fun i W => ∃ j : Nat, j ≤ y.f2.length ∧ i = .int .i64 j ∧ Aside0 (Own9 wo W g9 y A9 A9' c9 c9')) (fun i _ => y.f2.length - (intOf i).toNat)
      case atStart => exact ⟨0, by omega, rfl, HO⟩
      case round =>
        clear HO
        obtain ⟨j, hj, rfl, HO⟩ := hrel
        obtain ⟨hd0, hd1, hd2, hd3⟩ := cells4 HO.out.b9
        by_cases hlt2 : j < y.f2.length
        · obtain ⟨g, cells, rfl, hk, hb, hh, hs⟩ := W0_row HO.out.z2 (by omega)
          obtain ⟨q0, hx0⟩ := row_cell hh (i := j * 4) (by omega)
          obtain ⟨q1, hx1⟩ := row_cell hh (i := j * 4 + 1) (by omega)
          obtain ⟨q2, hx2⟩ := row_cell hh (i := j * 4 + 2) (by omega)
          obtain ⟨q3, hx3⟩ := row_cell hh (i := j * 4 + 3) (by omega)
          have hf0 := blk_frozen hh (j * 4)
          have hf1 := blk_frozen hh (j * 4 + 1)
          have hf2 := blk_frozen hh (j * 4 + 2)
          have hf3 := blk_frozen hh (j * 4 + 3)
          have HH := Aside0.mk hh
          clear hh hs hb
          go_wp2_with (first
            | ((with_reducible refine gate_store (t := 25) (p := 60) rfl ?_); (refine store_event (t := 25) (p := 60) (v := ?vo_w13) (w1 := (((wr.setCell ⟨g, j * 4, none⟩ (.int .u8 0)).setCell ⟨g, j * 4 + 1, none⟩ (.string ⟨#[115, 112, 111, 105, 108, 116]⟩)).setCell ⟨g, j * 4 + 2, none⟩ (.slice none 0 0)).setCell ⟨g, j * 4 + 3, none⟩ (.slice none 0 0)) ?hg ?ho ?hn ?hr ?_; (case ho => rfl); (case hg => rfl); (case hn => rfl); (case hr => first | (go_simp; done) | (go_simp; rfl)); intro w13 hw_; have HO2 := Aside0.mk (Own9.one HO.out rfl hlt2 _ _ _ _ hw_); clear hw_ HO HH hx0 hx1 hx2 hx3 hf0 hf1 hf2 hf3 hd0 hd1 hd2 hd3)))
          go_roundw
          case rel => exact ⟨j + 1, by omega, by go_num, HO2⟩
          case measure => simp [intOf]; omega
        · go_wp2
          clear hd0 hd1 hd2 hd3
          go_loopw [12] (fun i W => ∃ j : Nat, j ≤ y.f3.length ∧ i = .int .i64 j ∧ Aside0 (Own9 wo W g9 y A9 A9' c9 c9')) (fun i _ => y.f3.length - (intOf i).toNat)
          case atStart => exact ⟨0, by omega, rfl, HO⟩
          case round =>
            clear HO
            obtain ⟨i, hi, rfl, HO⟩ := hrel
            obtain ⟨hd0, hd1, hd2, hd3⟩ := cells4 HO.out.b9
            by_cases hlt3 : i < y.f3.length
            · obtain ⟨g, cells, rfl, hk, hb, hh, hs⟩ := W0_row HO.out.z3 (by omega)
              obtain ⟨q0, hx0⟩ := row_cell hh (i := i * 5) (by omega)
              have hf0 := blk_frozen hh (i * 5)
              have HH := Aside0.mk hh
              clear hh hs hb
              go_wp2_with (first
                | ((with_reducible refine gate_store (t := 9) (p := 72) rfl ?_); (refine store_event (t := 9) (p := 72) (v := ?vo_w14) (w1 := wr.setCell ⟨g, i * 5, none⟩ (.string ⟨#[115, 112, 111, 105, 108, 116]⟩)) ?hg ?ho ?hn ?hr ?_; (case ho => rfl); (case hg => rfl); (case hn => rfl); (case hr => first | (go_simp; done) | (go_simp; rfl)); intro w14 hw_; have HO2 := Aside0.mk (Own9.two HO.out rfl hlt3 _ hw_); clear hw_ HO HH hx0 hf0 hd0 hd1 hd2 hd3)))
              go_roundw
              case rel => exact ⟨i + 1, by omega, by go_num, HO2⟩
              case measure => simp [intOf]; omega
            · have HZ := Aside0.mk HO.out.below
              clear HO
              go_wp2
              go_roundw
              case rel => exact ⟨n + 1, by omega, by go_num, ⟨Held.move HE0.out HZ.out⟩⟩
              case measure => simp [intOf]; omega
    · go_wp2
      go_ret
      exact ⟨rfl, HE.out.below⟩

/-- JsonGets: true for every value that fits, and any name. -/
theorem JsonGets_calls (v : S25) (hv : Fits 1954687338266 v) (A2 A3 : Option Addr) (c2 c3 : Nat) (name : ByteArray) (w : World) (l2 : v.f2.length ≤ c2) (g2 : k25.C w A2 v.f2.length v.f2) (l3 : v.f3.length ≤ c3) (g3 : k32.C w A3 v.f3.length v.f3) :
    Calls Try.prog 3 #[.agg #[.int .u8 v.f0, .string v.f1, .slice A2 v.f2.length c2, .slice A3 v.f3.length c3], .string name] w fun e w' => e = .returned (.bool true) ∧ Below w.heap.size w w' := by
  obtain ⟨b, ⟨k0, e0⟩, hb⟩ := small_ends (by omega) hv 2000 200 (by omega) (by omega) (by omega) (by omega)
  cases b with
  | false => exact JsonGets_no v A2 A3 c2 c3 name w l2 g2 l3 g3 k0 (e0 k0 (Nat.le_refl _))
  | true =>
    have hs := hb rfl
    obtain ⟨k1, e1⟩ := rtwin_self (by omega) hs
    obtain ⟨k2, e2⟩ := rget_got (by omega) hs name
    obtain ⟨k3, e3⟩ := get_got (by omega) hs name
    obtain ⟨k4, e4⟩ := same_self (by omega) (got_fits hs name)
    obtain ⟨k5, e5⟩ := same_self (by omega) hs
    have m : ∃ k, k0 ≤ k ∧ k1 ≤ k ∧ k2 ≤ k ∧ k3 ≤ k ∧ k4 ≤ k ∧ k5 ≤ k := ⟨k0 + k1 + k2 + k3 + k4 + k5, by omega, by omega, by omega, by omega, by omega, by omega⟩
    obtain ⟨k, m0, m1, m2, m3, m4, m5⟩ := m
    exact JsonGets_yes v hs A2 A3 c2 c3 name w l2 g2 l3 g3 k (e0 k m0) (got_fits hs name) (e1 k m1) (e2 k m2) (e3 k m3) (e4 k m4) (e5 k m5)
end Go.Proofs.Ytahedgkdgnlcfaa.PJsonGets
