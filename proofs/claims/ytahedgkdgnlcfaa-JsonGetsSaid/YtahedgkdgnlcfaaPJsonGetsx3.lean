-- Written by a program of this session (a turned copy of a printer): out of the translation, each function and its proof.
import Derived.Test.YtahedgkdgnlcfaaPJsonGetsx0
namespace Go.Proofs.Ytahedgkdgnlcfaa.PJsonGets
open Go.RowKit Go.Proofs.YtahedgkdgnlcfaaW.PrintWords Go.Proofs.YtahedgkdgnlcfaaW.PrintLast Go.Proofs.YtahedgkdgnlcfaaW.PrintMore
attribute [local go_sem] max2_int min2_int max_two min_two max_three min_three max_four min_four   -- for this text's walks alone
set_option linter.unusedVariables false
set_option linter.unusedSimpArgs false

/-! ### glossatorref03_Get: function 6 -/
mutual
def glossatorref03_Get.l0 : Nat → ByteArray → Int → Int → ByteArray → List (S25) → List (S32) → Option (Int × ByteArray × (List (S25)) × (List (S32)) × Bool)
  | 0, _, _, _, _, _, _ => none
  | k + 1, x1, x6, x140000, x140001, x140002, x140003 => if x6 < (x140003.length : Int) then (glossatorref03_Get.j1 k x1 x6 (x140000 == 6) x140000 x140001 x140002 x140003) else (glossatorref03_Get.j1 k x1 x6 false x140000 x140001 x140002 x140003)
def glossatorref03_Get.j1 : Nat → ByteArray → Int → Bool → Int → ByteArray → List (S25) → List (S32) → Option (Int × ByteArray × (List (S25)) × (List (S32)) × Bool)
  | 0, _, _, _, _, _, _, _ => none
  | k + 1, x1, x6, x16, x140000, x140001, x140002, x140003 => if x16 = true then (if 0 ≤ x6 then (if x6 < (x140003.length : Int) then (if ((rd_T32 x140003 x6).f0).toList = x1.toList then (some ((rd_T32 x140003 x6).f1.f0, (rd_T32 x140003 x6).f1.f1, (rd_T32 x140003 x6).f1.f2, (rd_T32 x140003 x6).f1.f3, true)) else (glossatorref03_Get.l0 k x1 (wrap64 (x6 + 1)) x140000 x140001 x140002 x140003)) else (none)) else (none)) else (some (0, (⟨#[]⟩ : ByteArray), ([] : List (S25)), ([] : List (S32)), false))
end
def glossatorref03_Get.f (k : Nat) (a0_0 : Int) (a0_1 : ByteArray) (l0_2 : List (S25)) (l0_3 : List (S32)) (a1 : ByteArray) : Option (Int × ByteArray × (List (S25)) × (List (S32)) × Bool) := glossatorref03_Get.l0 k a1 0 a0_0 a0_1 l0_2 l0_3
theorem glossatorref03_Get.mono_l : ∀ k, (∀ y0 y1 y2 y3 y4 y5, LeO (glossatorref03_Get.l0 k y0 y1 y2 y3 y4 y5) (glossatorref03_Get.l0 (k + 1) y0 y1 y2 y3 y4 y5)) ∧ (∀ y0 y1 y2 y3 y4 y5 y6, LeO (glossatorref03_Get.j1 k y0 y1 y2 y3 y4 y5 y6) (glossatorref03_Get.j1 (k + 1) y0 y1 y2 y3 y4 y5 y6))
  | 0 => ⟨fun _ _ _ _ _ _ r h => by simp [glossatorref03_Get.l0] at h, fun _ _ _ _ _ _ _ r h => by simp [glossatorref03_Get.j1] at h⟩
  | k + 1 => by
    obtain ⟨ih0, ih1⟩ := glossatorref03_Get.mono_l k
    refine ⟨?_, ?_⟩
    · intro y0 y1 y2 y3 y4 y5
      unfold glossatorref03_Get.l0
      repeat' first
      | (with_reducible exact ih0 _ _ _ _ _ _)
      | (with_reducible exact ih1 _ _ _ _ _ _ _)
      | (with_reducible exact LeO.refl _)
      | (with_reducible exact LeO.none _)
      | (with_reducible refine LeO.ite ?_ ?_)
      | (with_reducible refine LeO.bind ?_ (fun _ => ?_))
      | exact ih0 _ _ _ _ _ _
      | exact ih1 _ _ _ _ _ _ _
      | exact LeO.none _
      | refine LeO.ite ?_ ?_
      | refine LeO.bind ?_ (fun _ => ?_)
    · intro y0 y1 y2 y3 y4 y5 y6
      unfold glossatorref03_Get.j1
      repeat' first
      | (with_reducible exact ih0 _ _ _ _ _ _)
      | (with_reducible exact ih1 _ _ _ _ _ _ _)
      | (with_reducible exact LeO.refl _)
      | (with_reducible exact LeO.none _)
      | (with_reducible refine LeO.ite ?_ ?_)
      | (with_reducible refine LeO.bind ?_ (fun _ => ?_))
      | exact ih0 _ _ _ _ _ _
      | exact ih1 _ _ _ _ _ _ _
      | exact LeO.none _
      | refine LeO.ite ?_ ?_
      | refine LeO.bind ?_ (fun _ => ?_)
theorem glossatorref03_Get.mono : ∀ a0 a1 a2 a3 a4 k, LeO (glossatorref03_Get.f k a0 a1 a2 a3 a4) (glossatorref03_Get.f (k + 1) a0 a1 a2 a3 a4) := by
  intro a0 a1 a2 a3 a4 k
  obtain ⟨ih0, ih1⟩ := glossatorref03_Get.mono_l k
  unfold glossatorref03_Get.f
  repeat' first
      | (with_reducible exact ih0 _ _ _ _ _ _)
      | (with_reducible exact ih1 _ _ _ _ _ _ _)
      | (with_reducible exact LeO.refl _)
      | (with_reducible exact LeO.none _)
      | (with_reducible refine LeO.ite ?_ ?_)
      | (with_reducible refine LeO.bind ?_ (fun _ => ?_))
      | exact ih0 _ _ _ _ _ _
      | exact ih1 _ _ _ _ _ _ _
      | exact LeO.none _
      | refine LeO.ite ?_ ?_
      | refine LeO.bind ?_ (fun _ => ?_)
set_option maxHeartbeats 8000000 in
set_option maxRecDepth 100000 in
theorem glossatorref03_Get.calls (k : Nat) (a0_0 : Int) (a0_1 : ByteArray) (A0_2 : Option Addr) (c0_2 : Nat) (l0_2 : List (S25)) (P0_3_ : Nat → Prop) (A0_3 : Option Addr) (c0_3 : Nat) (l0_3 : List (S32)) (a1 : ByteArray) (r1 : Int) (r2 : ByteArray) (r3 : List (S25)) (r4 : List (S32)) (r5 : Bool) (w : World) (hr0_2 : Kd.C k25 w A0_2 l0_2.length l0_2) (hc0_2 : l0_2.length ≤ c0_2) (hs0_3 : Kd.V k32 32 w w.heap.size (fun k_ => P0_3_ k_) (.slice A0_3 l0_3.length c0_3) l0_3) (h : glossatorref03_Get.f k a0_0 a0_1 l0_2 l0_3 a1 = some (r1, r2, r3, r4, r5)) :
    Calls Try.prog 6 #[.agg #[.int .u8 a0_0, .string a0_1, .slice A0_2 l0_2.length c0_2, .slice A0_3 l0_3.length c0_3], .string a1] w fun e w' => ∃ v2_ v3_ : Value, e = .returned (.tuple #[.agg #[.int .u8 r1, .string r2, v2_, v3_], .bool r5]) ∧ Kd.V k25 25 w' w.heap.size (fun k_ => (P0_3_ k_ ∨ w.heap.size ≤ k_)) v2_ r3 ∧ Kd.V k32 32 w' w.heap.size (fun k_ => (P0_3_ k_ ∨ w.heap.size ≤ k_)) v3_ r4 ∧ Below w.heap.size w w' := by
  have hu25 := Try.underlying25
  have HR0_2 := Aside0.mk hr0_2
  have HC0_2 := Aside0.mk hc0_2
  clear hr0_2 hc0_2
  have HO0_3 := Aside0.mk (show Kd.V k32 32 w w.heap.size (fun k_ => (P0_3_ k_ ∨ w.heap.size ≤ k_)) (.slice A0_3 l0_3.length c0_3) l0_3 from Kd.V_mono hs0_3 (fun k_ hk => .inl hk))
  have HB := Aside0.mk (Below.refl w.heap.size w)
  have H : (glossatorref03_Get.l0 k a1 0 a0_0 a0_1 l0_2 l0_3) = some (r1, r2, r3, r4, r5) := h
  clear h
  have H' := Aside0.mk H
  clear H
  go_enter Try.func6, Try.ntmps6
  go_wp2_with (first | ((with_reducible refine gate_dst (N := 2) rfl ?_); refine box_event ?hg (N := 2) ?hd (cs := #[.int .u8 a0_0, .string a0_1, .slice A0_2 l0_2.length c0_2, .slice A0_3 l0_3.length c0_3]) (t := 25) ?hr ?_; (case hd => rfl); (case hg => rfl); (case hr => first | (go_simp; done) | (go_simp; rfl)); intro gb139 hg w3 hbox hb; have n0_ := Aside0.mk (Kd.V_below (Kd.V_elderB (by (with_reducible repeat (first | apply Kd.V_alloc | apply Kd.V_drewN | apply Kd.V_drew)); exact HO0_3.out) gb139 (Nat.le_of_eq hg.symm)) hb); have n1_ := Aside0.mk (below_step (by repeat (first | (with_reducible first | exact HB.out | apply below_alloc | apply pw_below_drewN | apply below_drew1) | exact HB.out)) hb); have n2_ := Aside0.mk (hbox); have n3_ := Aside0.mk ((by rw [hg]; exact (below_size (by repeat (first | (with_reducible first | exact HB.out | apply below_alloc | apply pw_below_drewN | apply below_drew1) | exact HB.out))) : w.heap.size ≤ gb139)); have n4_ := Aside0.mk ((by rw [hg]; exact (below_size (by repeat (first | (with_reducible first | exact HB.out | apply below_alloc | apply pw_below_drewN | apply below_drew1) | exact HB.out))) : w.heap.size ≤ gb139)); clear HO0_3; clear HB; have HO0_3 := n0_; have HB := n1_; have BK139 := n2_; have GW139 := n3_; have GE139 := n4_; clear n0_ n1_ n2_ n3_ n4_; clear hb hbox hg) | ((with_reducible refine gate_dst (N := 4) rfl ?_); refine box_event ?hg (N := 4) ?hd (cs := #[.int .u8 0, .string (⟨#[]⟩ : ByteArray), .slice none 0 0, .slice none 0 0]) (t := 25) ?hr ?_; (case hd => rfl); (case hg => rfl); (case hr => first | (go_simp; done) | (go_simp; rfl)); intro gb140 hg w4 hbox hb; have n0_ := Aside0.mk (Kd.V_below (Kd.V_elderB (by (with_reducible repeat (first | apply Kd.V_alloc | apply Kd.V_drewN | apply Kd.V_drew)); exact HO0_3.out) gb140 (Nat.le_of_eq hg.symm)) hb); have n1_ := Aside0.mk (blk_below (g := gb139) (o := .cells #[.int .u8 a0_0, .string a0_1, .slice A0_2 l0_2.length c0_2, .slice A0_3 l0_3.length c0_3] 25 (0, 0)) (by (with_reducible repeat (first | refine blk_drewN ?_ _ | refine blk_drew ?_ | refine blk_alloc ?_ _)); exact BK139.out) hb); have n2_ := Aside0.mk (below_step (by repeat (first | (with_reducible first | exact HB.out | apply below_alloc | apply pw_below_drewN | apply below_drew1 | refine below_set ?_ GE139.out) | exact HB.out)) hb); have n3_ := Aside0.mk (hbox); have n4_ := Aside0.mk ((by rw [hg]; exact (below_size (by repeat (first | (with_reducible first | exact HB.out | apply below_alloc | apply pw_below_drewN | apply below_drew1 | refine below_set ?_ GE139.out) | exact HB.out))) : w.heap.size ≤ gb140)); have n5_ := Aside0.mk ((by rw [hg]; exact (below_size (by repeat (first | (with_reducible first | exact HB.out | apply below_alloc | apply pw_below_drewN | apply below_drew1 | refine below_set ?_ GE139.out) | exact HB.out))) : w.heap.size ≤ gb140)); have n6_ := Aside0.mk ((by rw [hg]; exact Nat.ne_of_lt (blk_lt (g := gb139) (o := .cells #[.int .u8 a0_0, .string a0_1, .slice A0_2 l0_2.length c0_2, .slice A0_3 l0_3.length c0_3] 25 (0, 0)) (by (with_reducible repeat (first | refine blk_drewN ?_ _ | refine blk_drew ?_ | refine blk_alloc ?_ _)); exact BK139.out)) : gb139 ≠ gb140)); have n7_ := Aside0.mk ((by rw [hg]; exact Nat.ne_of_gt (blk_lt (g := gb139) (o := .cells #[.int .u8 a0_0, .string a0_1, .slice A0_2 l0_2.length c0_2, .slice A0_3 l0_3.length c0_3] 25 (0, 0)) (by (with_reducible repeat (first | refine blk_drewN ?_ _ | refine blk_drew ?_ | refine blk_alloc ?_ _)); exact BK139.out)) : gb140 ≠ gb139)); clear HO0_3; clear BK139; clear HB; have HO0_3 := n0_; have BK139 := n1_; have HB := n2_; have BK140 := n3_; have GW140 := n4_; have GE140 := n5_; have NB139_140 := n6_; have NB140_139 := n7_; clear n0_ n1_ n2_ n3_ n4_ n5_ n6_ n7_; clear hb hbox hg))
  go_loopg [6] k (fun kq v6 w' => ∃ (x6_1 : Int) (x141000_1 : Int) (x141001_1 : ByteArray), v6 = .int .i64 x6_1 ∧ Aside0 (glossatorref03_Get.l0 kq a1 x6_1 a0_0 a0_1 l0_2 l0_3 = some (r1, r2, r3, r4, r5)) ∧ Aside0 (kq ≤ k) ∧ Aside0 (Kd.V k32 32 w' w.heap.size (fun k_ => (P0_3_ k_ ∨ w.heap.size ≤ k_) ∧ k_ ≠ gb139 ∧ k_ ≠ gb140) (.slice A0_3 l0_3.length c0_3) l0_3) ∧ Aside0 (w'.heap[gb139]? = some (.cells #[.int .u8 a0_0, .string a0_1, (.slice A0_2 l0_2.length c0_2), (.slice A0_3 l0_3.length c0_3)] 25 (0, 0))) ∧ Aside0 (w'.heap[gb140]? = some (.cells #[.int .u8 x141000_1, .string x141001_1, (.slice none 0 0), (.slice none 0 0)] 25 (0, 0))) ∧ Aside0 (Below w.heap.size w w'))
  case atStart => exact ⟨(0), (0), ((⟨#[]⟩ : ByteArray)), (by first | rfl | (simp; done) | (simp [*]; done)), H', ⟨Nat.le_refl _⟩, ⟨by (with_reducible repeat (first | apply Kd.V_alloc | apply Kd.V_drewN | apply Kd.V_drew)); exact Kd.V_mono HO0_3.out (fun _ hk => ⟨hk.1.1, ⟨hk.1.2, hk.2⟩⟩)⟩, ⟨by (with_reducible repeat (first | refine blk_drewN ?_ _ | refine blk_drew ?_ | refine blk_alloc ?_ _)); exact BK139.out⟩, ⟨by (with_reducible repeat (first | refine blk_drewN ?_ _ | refine blk_drew ?_ | refine blk_alloc ?_ _)); exact BK140.out⟩, ⟨by repeat (first | (with_reducible first | exact HB.out | apply below_alloc | apply pw_below_drewN | apply below_drew1 | refine below_set ?_ GE139.out | refine below_set ?_ GE140.out) | exact HB.out)⟩⟩
  case round =>
    clear H'
    try clear p2
    (try clear  BK139)
    (try clear  BK140)
    obtain ⟨x6_1, x141000_1, x141001_1, rfl, HA, HK1, HO_140003, BK139, BK140, HB⟩ := hrel
    cases gk with
    | zero => exact absurd HA.out (by simp [glossatorref03_Get.l0])
    | succ k1 =>
      have H := HA.out
      clear HA
      simp only [glossatorref03_Get.l0] at H
      have HC5 := Aside0.mk H
      clear H
      go_upto_region 2 with (fail)
      go_cut [16] (fun v16 wc => ∃ (kq : Nat) (x16_4 : Bool), v16 = .bool x16_4 ∧ Aside0 (glossatorref03_Get.j1 kq a1 x6_1 x16_4 a0_0 a0_1 l0_2 l0_3 = some (r1, r2, r3, r4, r5)) ∧ Aside0 (kq ≤ k1) ∧ Aside0 (Kd.V k32 32 wc w.heap.size (fun k_ => (P0_3_ k_ ∨ w.heap.size ≤ k_) ∧ k_ ≠ gb139 ∧ k_ ≠ gb140) (.slice A0_3 l0_3.length c0_3) l0_3) ∧ Aside0 (wc.heap[gb139]? = some (.cells #[.int .u8 a0_0, .string a0_1, (.slice A0_2 l0_2.length c0_2), (.slice A0_3 l0_3.length c0_3)] 25 (0, 0))) ∧ Aside0 (wc.heap[gb140]? = some (.cells #[.int .u8 x141000_1, .string x141001_1, (.slice none 0 0), (.slice none 0 0)] 25 (0, 0))) ∧ Aside0 (Below w.heap.size w wc))
      case first =>
        have H := HC5.out
        clear HC5
        by_cases c6 : x6_1 < (l0_3.length : Int)
        · rw [if_pos c6] at H
          have c6b0 : decide (x6_1 < (l0_3.length : Int)) = true := decide_eq_true c6
          clear c6
          (first | rw [c6b0] | (simp only [i64_w, i32_w]; rw [c6b0]) | skip)
          have H' := Aside0.mk H
          clear H
          have hnb7 := NB139_140.out
          have hnc7 := NB140_139.out
          have hcz8_0 : wr.cell? ⟨gb139, 0, none⟩ = some (.int .u8 a0_0) := (blk_cell BK139.out 0).trans rfl
          have hcz8_1 : wr.cell? ⟨gb139, 1, none⟩ = some (.string a0_1) := (blk_cell BK139.out 1).trans rfl
          have hcz8_2 : wr.cell? ⟨gb139, 2, none⟩ = some (.slice A0_2 l0_2.length c0_2) := (blk_cell BK139.out 2).trans rfl
          have hcz8_3 : wr.cell? ⟨gb139, 3, none⟩ = some (.slice A0_3 l0_3.length c0_3) := (blk_cell BK139.out 3).trans rfl
          have hfz8_0 := blk_frozen BK139.out 0
          have hfz8_1 := blk_frozen BK139.out 1
          have hfz8_2 := blk_frozen BK139.out 2
          have hfz8_3 := blk_frozen BK139.out 3
          go_wp2
          go_meet
          case rel => exact ⟨_, ((a0_0 == 6)), (by first | rfl | (simp; done) | (simp [*]; done)), H', ⟨by have := HK1.out; first | omega | exact Nat.le_refl _⟩, ⟨by (with_reducible repeat (first | apply Kd.V_alloc | apply Kd.V_drewN | apply Kd.V_drew)); exact HO_140003.out⟩, ⟨by (with_reducible repeat (first | refine blk_drewN ?_ _ | refine blk_drew ?_ | refine blk_alloc ?_ _)); exact BK139.out⟩, ⟨by (with_reducible repeat (first | refine blk_drewN ?_ _ | refine blk_drew ?_ | refine blk_alloc ?_ _)); exact BK140.out⟩, ⟨by repeat (first | (with_reducible first | exact HB.out | apply below_alloc | apply pw_below_drewN | apply below_drew1 | refine below_set ?_ GE139.out | refine below_set ?_ GE140.out) | exact HB.out)⟩⟩
        · rw [if_neg c6] at H
          have c6b0 : decide (x6_1 < (l0_3.length : Int)) = false := decide_eq_false c6
          clear c6
          (first | rw [c6b0] | (simp only [i64_w, i32_w]; rw [c6b0]) | skip)
          have H' := Aside0.mk H
          clear H
          have hnb9 := NB139_140.out
          have hnc9 := NB140_139.out
          have hcz10_0 : wr.cell? ⟨gb139, 0, none⟩ = some (.int .u8 a0_0) := (blk_cell BK139.out 0).trans rfl
          have hcz10_1 : wr.cell? ⟨gb139, 1, none⟩ = some (.string a0_1) := (blk_cell BK139.out 1).trans rfl
          have hcz10_2 : wr.cell? ⟨gb139, 2, none⟩ = some (.slice A0_2 l0_2.length c0_2) := (blk_cell BK139.out 2).trans rfl
          have hcz10_3 : wr.cell? ⟨gb139, 3, none⟩ = some (.slice A0_3 l0_3.length c0_3) := (blk_cell BK139.out 3).trans rfl
          have hfz10_0 := blk_frozen BK139.out 0
          have hfz10_1 := blk_frozen BK139.out 1
          have hfz10_2 := blk_frozen BK139.out 2
          have hfz10_3 := blk_frozen BK139.out 3
          go_wp2
          go_meet
          case rel => exact ⟨_, (false), (by first | rfl | (simp; done) | (simp [*]; done)), H', ⟨by have := HK1.out; first | omega | exact Nat.le_refl _⟩, ⟨by (with_reducible repeat (first | apply Kd.V_alloc | apply Kd.V_drewN | apply Kd.V_drew)); exact HO_140003.out⟩, ⟨by (with_reducible repeat (first | refine blk_drewN ?_ _ | refine blk_drew ?_ | refine blk_alloc ?_ _)); exact BK139.out⟩, ⟨by (with_reducible repeat (first | refine blk_drewN ?_ _ | refine blk_drew ?_ | refine blk_alloc ?_ _)); exact BK140.out⟩, ⟨by repeat (first | (with_reducible first | exact HB.out | apply below_alloc | apply pw_below_drewN | apply below_drew1 | refine below_set ?_ GE139.out | refine below_set ?_ GE140.out) | exact HB.out)⟩⟩
      case rest =>
        clear HC5
        try clear p2
        try clear c6
        try clear c6b0
        try clear c7
        try clear c9
        try clear hcz10_0
        try clear hcz10_1
        try clear hcz10_2
        try clear hcz10_3
        try clear hcz8_0
        try clear hcz8_1
        try clear hcz8_2
        try clear hcz8_3
        try clear hfz10_0
        try clear hfz10_1
        try clear hfz10_2
        try clear hfz10_3
        try clear hfz8_0
        try clear hfz8_1
        try clear hfz8_2
        try clear hfz8_3
        try clear p2
        obtain ⟨kq, x16_4, rfl, HA, HJ4, HO_140003, BK139, BK140, HB⟩ := hcut
        cases kq with
        | zero => exact absurd HA.out (by simp [glossatorref03_Get.j1])
        | succ kj4 =>
          have H := HA.out
          clear HA
          simp only [glossatorref03_Get.j1] at H
          by_cases c11 : x16_4 = true
          · subst c11
            have H1 : (if 0 ≤ x6_1 then (if x6_1 < (l0_3.length : Int) then (if ((rd_T32 l0_3 x6_1).f0).toList = a1.toList then (some ((rd_T32 l0_3 x6_1).f1.f0, (rd_T32 l0_3 x6_1).f1.f1, (rd_T32 l0_3 x6_1).f1.f2, (rd_T32 l0_3 x6_1).f1.f3, true)) else (glossatorref03_Get.l0 kj4 a1 (wrap64 (x6_1 + 1)) a0_0 a0_1 l0_2 l0_3)) else (none)) else (none)) = some (r1, r2, r3, r4, r5) := by rw [if_pos rfl] at H; exact H
            clear H
            have H := H1
            clear H1
            by_cases c12 : 0 ≤ x6_1
            · rw [if_pos c12] at H
              have c12b0 : decide (0 ≤ x6_1) = true := decide_eq_true c12
              clear c12
              by_cases c13 : x6_1 < (l0_3.length : Int)
              · rw [if_pos c13] at H
                have c13b0 : decide (x6_1 < (l0_3.length : Int)) = true := decide_eq_true c13
                clear c13
                by_cases c14 : ((rd_T32 l0_3 x6_1).f0).toList = a1.toList
                · rw [if_pos c14] at H
                  have c14b0 : (((rd_T32 l0_3 x6_1).f0).toList == a1.toList) = true := beq_iff_eq.mpr c14
                  have c14b1 : (((rd_T32 l0_3 x6_1).f0).toList != a1.toList) = false := bne_eq_false_iff_eq.mpr c14
                  clear c14
                  simp only [Option.some.injEq, Prod.mk.injEq] at H
                  obtain ⟨rfl, rfl, rfl, rfl, rfl⟩ := H
                  have hnb15 := NB139_140.out
                  have hnc15 := NB140_139.out
                  have hcz16_0 : wc.cell? ⟨gb139, 0, none⟩ = some (.int .u8 a0_0) := (blk_cell BK139.out 0).trans rfl
                  have hcz16_1 : wc.cell? ⟨gb139, 1, none⟩ = some (.string a0_1) := (blk_cell BK139.out 1).trans rfl
                  have hcz16_2 : wc.cell? ⟨gb139, 2, none⟩ = some (.slice A0_2 l0_2.length c0_2) := (blk_cell BK139.out 2).trans rfl
                  have hcz16_3 : wc.cell? ⟨gb139, 3, none⟩ = some (.slice A0_3 l0_3.length c0_3) := (blk_cell BK139.out 3).trans rfl
                  have hfz16_0 := blk_frozen BK139.out 0
                  have hfz16_1 := blk_frozen BK139.out 1
                  have hfz16_2 := blk_frozen BK139.out 2
                  have hfz16_3 := blk_frozen BK139.out 3
                  have p141 : 0 ≤ (x6_1 : Int) := of_decide_eq_true (by first | (with_reducible assumption) | assumption)
                  have q141 : x6_1 < (l0_3.length : Int) := of_decide_eq_true (by first | (with_reducible assumption) | assumption)
                  obtain ⟨ad141, A141_3, c141_3, A141_4, c141_4, e141, hx141_0, hx141_1, hx141_2, hx141_3, hx141_4, hl141_3, hi141_3, hl141_4, hi141_4⟩ := at_T32 (Kd.V_reads' HO_140003.out).2.2 x6_1 p141 q141
                  cases e141
                  obtain ⟨ce141, hce141, hMe141, hcc141⟩ := Kd.V_get HO_140003.out z32 x6_1 p141 (by first | exact q141 | exact of_decide_eq_true (by first | (with_reducible assumption) | assumption) | (have e_ := (Kd.V_reads' HO_140003.out).1; omega))
                  obtain ⟨ua141_3, uc141_3, ua141_4, uc141_4, rfl, ul141_3, ge141_3, ul141_4, ge141_4⟩ := k32_openF hMe141
                  have hv141_3 := hcc141 3 _ rfl
                  rw [add_field _ _ 3 (by omega)] at hv141_3
                  replace hv141_3 := Option.some.inj (hv141_3.symm.trans hx141_3)
                  injection hv141_3 with hva_ hvn_ hvc_
                  rw [hva_] at ge141_3
                  rw [hvc_] at ul141_3
                  have HL141_3 := Aside0.mk (show Kd.V k25 25 _ w.heap.size _ _ ((rd_T32 l0_3 x6_1).f1.f2) from Kd.V_mk ul141_3 ge141_3)
                  clear hva_ hvn_ hvc_ ge141_3 ul141_3
                  have hv141_4 := hcc141 4 _ rfl
                  rw [add_field _ _ 4 (by omega)] at hv141_4
                  replace hv141_4 := Option.some.inj (hv141_4.symm.trans hx141_4)
                  injection hv141_4 with hva_ hvn_ hvc_
                  rw [hva_] at ge141_4
                  rw [hvc_] at ul141_4
                  have HL141_4 := Aside0.mk (show Kd.V k32 32 _ w.heap.size _ _ ((rd_T32 l0_3 x6_1).f1.f3) from Kd.V_mk ul141_4 ge141_4)
                  clear hva_ hvn_ hvc_ ge141_4 ul141_4
                  clear hcc141 hce141
                  have HR141_3 := Aside0.mk hi141_3
                  have HC141_3 := Aside0.mk hl141_3
                  clear hi141_3 hl141_3
                  have HR141_4 := Aside0.mk hi141_4
                  have HC141_4 := Aside0.mk hl141_4
                  clear hi141_4 hl141_4
                  replace p141 := eq_true p141
                  replace q141 := eq_true q141
                  have p142 : 0 ≤ (x6_1 : Int) := of_decide_eq_true (by first | (with_reducible assumption) | assumption)
                  have q142 : x6_1 < (l0_3.length : Int) := of_decide_eq_true (by first | (with_reducible assumption) | assumption)
                  obtain ⟨ad142, A142_3, c142_3, A142_4, c142_4, e142, hx142_0, hx142_1, hx142_2, hx142_3, hx142_4, hl142_3, hi142_3, hl142_4, hi142_4⟩ := at_T32 (Kd.V_reads' HO_140003.out).2.2 x6_1 p142 q142
                  obtain rfl : ad141 = ad142 := (by injection e142)
                  obtain ⟨ce142, hce142, hMe142, hcc142⟩ := Kd.V_get HO_140003.out z32 x6_1 p142 (by first | exact q142 | exact of_decide_eq_true (by first | (with_reducible assumption) | assumption) | (have e_ := (Kd.V_reads' HO_140003.out).1; omega))
                  obtain ⟨ua142_3, uc142_3, ua142_4, uc142_4, rfl, ul142_3, ge142_3, ul142_4, ge142_4⟩ := k32_openF hMe142
                  have hv142_3 := hcc142 3 _ rfl
                  rw [add_field _ _ 3 (by omega)] at hv142_3
                  replace hv142_3 := Option.some.inj (hv142_3.symm.trans hx142_3)
                  injection hv142_3 with hva_ hvn_ hvc_
                  rw [hva_] at ge142_3
                  rw [hvc_] at ul142_3
                  have HL142_3 := Aside0.mk (show Kd.V k25 25 _ w.heap.size _ _ ((rd_T32 l0_3 x6_1).f1.f2) from Kd.V_mk ul142_3 ge142_3)
                  clear hva_ hvn_ hvc_ ge142_3 ul142_3
                  have hv142_4 := hcc142 4 _ rfl
                  rw [add_field _ _ 4 (by omega)] at hv142_4
                  replace hv142_4 := Option.some.inj (hv142_4.symm.trans hx142_4)
                  injection hv142_4 with hva_ hvn_ hvc_
                  rw [hva_] at ge142_4
                  rw [hvc_] at ul142_4
                  have HL142_4 := Aside0.mk (show Kd.V k32 32 _ w.heap.size _ _ ((rd_T32 l0_3 x6_1).f1.f3) from Kd.V_mk ul142_4 ge142_4)
                  clear hva_ hvn_ hvc_ ge142_4 ul142_4
                  clear hcc142 hce142
                  have HR142_3 := Aside0.mk hi142_3
                  have HC142_3 := Aside0.mk hl142_3
                  clear hi142_3 hl142_3
                  have HR142_4 := Aside0.mk hi142_4
                  have HC142_4 := Aside0.mk hl142_4
                  clear hi142_4 hl142_4
                  replace p142 := eq_true p142
                  replace q142 := eq_true q142
                  have ea_ := Option.some.inj (hx141_3.symm.trans hx142_3)
                  injection ea_ with ea_ en_ ec_
                  subst ea_
                  subst ec_
                  clear en_
                  have ea_ := Option.some.inj (hx141_4.symm.trans hx142_4)
                  injection ea_ with ea_ en_ ec_
                  subst ea_
                  subst ec_
                  clear en_
                  have hcz17_0 : wc.cell? ⟨gb140, 0, none⟩ = some (.int .u8 x141000_1) := (blk_cell BK140.out 0).trans rfl
                  have hcz17_1 : wc.cell? ⟨gb140, 1, none⟩ = some (.string x141001_1) := (blk_cell BK140.out 1).trans rfl
                  have hcz17_2 : wc.cell? ⟨gb140, 2, none⟩ = some (.slice none 0 0) := (blk_cell BK140.out 2).trans rfl
                  have hcz17_3 : wc.cell? ⟨gb140, 3, none⟩ = some (.slice none 0 0) := (blk_cell BK140.out 3).trans rfl
                  have hfz17_0 := blk_frozen BK140.out 0
                  have hfz17_1 := blk_frozen BK140.out 1
                  have hfz17_2 := blk_frozen BK140.out 2
                  have hfz17_3 := blk_frozen BK140.out 3
                  go_wp2
                  refine bodyPost_ret (results_ct rfl _ _ gb140 25 #[.int .u8 ((rd_T32 l0_3 x6_1).f1.f0), .string ((rd_T32 l0_3 x6_1).f1.f1), .slice A141_3 ((rd_T32 l0_3 x6_1).f1.f2).length c141_3, .slice A141_4 ((rd_T32 l0_3 x6_1).f1.f3).length c141_4] (0, 0) _ rfl (by (with_reducible repeat (first | refine blk_drewN ?_ _ | refine blk_drew ?_ | refine blk_alloc ?_ _)); refine blk_put (cs := #[.int .u8 ((rd_T32 l0_3 x6_1).f1.f0), .string ((rd_T32 l0_3 x6_1).f1.f1), .slice A141_3 ((rd_T32 l0_3 x6_1).f1.f2).length c141_3, .slice none 0 0]) ?_ 3 _ rfl; (with_reducible repeat (first | refine blk_drewN ?_ _ | refine blk_drew ?_ | refine blk_alloc ?_ _)); refine blk_put (cs := #[.int .u8 ((rd_T32 l0_3 x6_1).f1.f0), .string ((rd_T32 l0_3 x6_1).f1.f1), .slice none 0 0, .slice none 0 0]) ?_ 2 _ rfl; (with_reducible repeat (first | refine blk_drewN ?_ _ | refine blk_drew ?_ | refine blk_alloc ?_ _)); refine blk_put (cs := #[.int .u8 ((rd_T32 l0_3 x6_1).f1.f0), .string x141001_1, .slice none 0 0, .slice none 0 0]) ?_ 1 _ rfl; (with_reducible repeat (first | refine blk_drewN ?_ _ | refine blk_drew ?_ | refine blk_alloc ?_ _)); refine blk_put (cs := #[.int .u8 x141000_1, .string x141001_1, .slice none 0 0, .slice none 0 0]) ?_ 0 _ rfl; (with_reducible repeat (first | refine blk_drewN ?_ _ | refine blk_drew ?_ | refine blk_alloc ?_ _)); exact BK140.out) Try.underlying25 rfl (by kernel_rfl)) rfl ?_
                  exact ⟨_, _, by first | rfl | (simp [errW_none, errW_some] <;> rfl) | (simp [*, errW_none, errW_some] <;> rfl), by (with_reducible repeat (first | apply Kd.V_alloc | apply Kd.V_drewN | apply Kd.V_drew)); exact Kd.V_mono (Kd.V_far (p := ⟨gb140, 3, none⟩) (Kd.V_far (p := ⟨gb140, 2, none⟩) (Kd.V_far (p := ⟨gb140, 1, none⟩) (Kd.V_far (p := ⟨gb140, 0, none⟩) (Kd.V_mono HL142_3.out (fun k_ hk => (⟨hk, hk.2.2⟩ : _ ∧ k_ ≠ gb140))) (fun _ hk => hk.2) (.int .u8 ((rd_T32 l0_3 x6_1).f1.f0))) (fun _ hk => hk.2) (.string ((rd_T32 l0_3 x6_1).f1.f1))) (fun _ hk => hk.2) (.slice A141_3 ((rd_T32 l0_3 x6_1).f1.f2).length c141_3)) (fun _ hk => hk.2) (.slice A141_4 ((rd_T32 l0_3 x6_1).f1.f3).length c141_4)) (fun _ hk => hk.1.1), by (with_reducible repeat (first | apply Kd.V_alloc | apply Kd.V_drewN | apply Kd.V_drew)); exact Kd.V_mono (Kd.V_far (p := ⟨gb140, 3, none⟩) (Kd.V_far (p := ⟨gb140, 2, none⟩) (Kd.V_far (p := ⟨gb140, 1, none⟩) (Kd.V_far (p := ⟨gb140, 0, none⟩) (Kd.V_mono HL142_4.out (fun k_ hk => (⟨hk, hk.2.2⟩ : _ ∧ k_ ≠ gb140))) (fun _ hk => hk.2) (.int .u8 ((rd_T32 l0_3 x6_1).f1.f0))) (fun _ hk => hk.2) (.string ((rd_T32 l0_3 x6_1).f1.f1))) (fun _ hk => hk.2) (.slice A141_3 ((rd_T32 l0_3 x6_1).f1.f2).length c141_3)) (fun _ hk => hk.2) (.slice A141_4 ((rd_T32 l0_3 x6_1).f1.f3).length c141_4)) (fun _ hk => hk.1.1), by repeat (first | (with_reducible first | exact HB.out | apply below_alloc | apply pw_below_drewN | apply below_drew1 | refine below_set ?_ GE139.out | refine below_set ?_ GE140.out) | exact HB.out)⟩
                · rw [if_neg c14] at H
                  have c14b0 : (((rd_T32 l0_3 x6_1).f0).toList == a1.toList) = false := beq_eq_false_iff_ne.mpr c14
                  have c14b1 : (((rd_T32 l0_3 x6_1).f0).toList != a1.toList) = true := bne_iff_ne.mpr c14
                  have H' := Aside0.mk H
                  clear H
                  have hnb18 := NB139_140.out
                  have hnc18 := NB140_139.out
                  have hcz19_0 : wc.cell? ⟨gb139, 0, none⟩ = some (.int .u8 a0_0) := (blk_cell BK139.out 0).trans rfl
                  have hcz19_1 : wc.cell? ⟨gb139, 1, none⟩ = some (.string a0_1) := (blk_cell BK139.out 1).trans rfl
                  have hcz19_2 : wc.cell? ⟨gb139, 2, none⟩ = some (.slice A0_2 l0_2.length c0_2) := (blk_cell BK139.out 2).trans rfl
                  have hcz19_3 : wc.cell? ⟨gb139, 3, none⟩ = some (.slice A0_3 l0_3.length c0_3) := (blk_cell BK139.out 3).trans rfl
                  have hfz19_0 := blk_frozen BK139.out 0
                  have hfz19_1 := blk_frozen BK139.out 1
                  have hfz19_2 := blk_frozen BK139.out 2
                  have hfz19_3 := blk_frozen BK139.out 3
                  have p141 : 0 ≤ (x6_1 : Int) := of_decide_eq_true (by first | (with_reducible assumption) | assumption)
                  have q141 : x6_1 < (l0_3.length : Int) := of_decide_eq_true (by first | (with_reducible assumption) | assumption)
                  obtain ⟨ad141, A141_3, c141_3, A141_4, c141_4, e141, hx141_0, hx141_1, hx141_2, hx141_3, hx141_4, hl141_3, hi141_3, hl141_4, hi141_4⟩ := at_T32 (Kd.V_reads' HO_140003.out).2.2 x6_1 p141 q141
                  cases e141
                  obtain ⟨ce141, hce141, hMe141, hcc141⟩ := Kd.V_get HO_140003.out z32 x6_1 p141 (by first | exact q141 | exact of_decide_eq_true (by first | (with_reducible assumption) | assumption) | (have e_ := (Kd.V_reads' HO_140003.out).1; omega))
                  obtain ⟨ua141_3, uc141_3, ua141_4, uc141_4, rfl, ul141_3, ge141_3, ul141_4, ge141_4⟩ := k32_openF hMe141
                  have hv141_3 := hcc141 3 _ rfl
                  rw [add_field _ _ 3 (by omega)] at hv141_3
                  replace hv141_3 := Option.some.inj (hv141_3.symm.trans hx141_3)
                  injection hv141_3 with hva_ hvn_ hvc_
                  rw [hva_] at ge141_3
                  rw [hvc_] at ul141_3
                  have HL141_3 := Aside0.mk (show Kd.V k25 25 _ w.heap.size _ _ ((rd_T32 l0_3 x6_1).f1.f2) from Kd.V_mk ul141_3 ge141_3)
                  clear hva_ hvn_ hvc_ ge141_3 ul141_3
                  have hv141_4 := hcc141 4 _ rfl
                  rw [add_field _ _ 4 (by omega)] at hv141_4
                  replace hv141_4 := Option.some.inj (hv141_4.symm.trans hx141_4)
                  injection hv141_4 with hva_ hvn_ hvc_
                  rw [hva_] at ge141_4
                  rw [hvc_] at ul141_4
                  have HL141_4 := Aside0.mk (show Kd.V k32 32 _ w.heap.size _ _ ((rd_T32 l0_3 x6_1).f1.f3) from Kd.V_mk ul141_4 ge141_4)
                  clear hva_ hvn_ hvc_ ge141_4 ul141_4
                  clear hcc141 hce141
                  have HR141_3 := Aside0.mk hi141_3
                  have HC141_3 := Aside0.mk hl141_3
                  clear hi141_3 hl141_3
                  have HR141_4 := Aside0.mk hi141_4
                  have HC141_4 := Aside0.mk hl141_4
                  clear hi141_4 hl141_4
                  replace p141 := eq_true p141
                  replace q141 := eq_true q141
                  go_wp2
                  go_roundg kj4
                  case measure => have := HK1.out; have := HJ4.out; omega
                  case rel => exact ⟨(wrap64 (x6_1 + 1)), (x141000_1), (x141001_1), (by first | rfl | (simp; done) | (simp [*]; done)), H', ⟨by have := HK1.out; have := HJ4.out; omega⟩, ⟨by (with_reducible repeat (first | apply Kd.V_alloc | apply Kd.V_drewN | apply Kd.V_drew)); exact HO_140003.out⟩, ⟨by (with_reducible repeat (first | refine blk_drewN ?_ _ | refine blk_drew ?_ | refine blk_alloc ?_ _)); exact BK139.out⟩, ⟨by (with_reducible repeat (first | refine blk_drewN ?_ _ | refine blk_drew ?_ | refine blk_alloc ?_ _)); exact BK140.out⟩, ⟨by repeat (first | (with_reducible first | exact HB.out | apply below_alloc | apply pw_below_drewN | apply below_drew1 | refine below_set ?_ GE139.out | refine below_set ?_ GE140.out) | exact HB.out)⟩⟩
              · rw [if_neg c13] at H
                exact absurd H (by simp)
            · rw [if_neg c12] at H
              exact absurd H (by simp)
          · replace c11 := Bool.eq_false_iff.mpr c11
            subst c11
            have H1 : (some (0, (⟨#[]⟩ : ByteArray), ([] : List (S25)), ([] : List (S32)), false)) = some (r1, r2, r3, r4, r5) := by rw [if_neg (show ¬ (false = true) by decide)] at H; exact H
            clear H
            have H := H1
            clear H1
            simp only [Option.some.injEq, Prod.mk.injEq] at H
            obtain ⟨rfl, rfl, rfl, rfl, rfl⟩ := H
            have hnb20 := NB140_139.out
            have hnc20 := NB139_140.out
            have hcz21_0 : wc.cell? ⟨gb140, 0, none⟩ = some (.int .u8 x141000_1) := (blk_cell BK140.out 0).trans rfl
            have hcz21_1 : wc.cell? ⟨gb140, 1, none⟩ = some (.string x141001_1) := (blk_cell BK140.out 1).trans rfl
            have hcz21_2 : wc.cell? ⟨gb140, 2, none⟩ = some (.slice none 0 0) := (blk_cell BK140.out 2).trans rfl
            have hcz21_3 : wc.cell? ⟨gb140, 3, none⟩ = some (.slice none 0 0) := (blk_cell BK140.out 3).trans rfl
            have hfz21_0 := blk_frozen BK140.out 0
            have hfz21_1 := blk_frozen BK140.out 1
            have hfz21_2 := blk_frozen BK140.out 2
            have hfz21_3 := blk_frozen BK140.out 3
            go_wp2
            refine bodyPost_ret (results_ct rfl _ _ gb140 25 #[.int .u8 0, .string (⟨#[]⟩ : ByteArray), .slice none 0 0, .slice none 0 0] (0, 0) _ rfl (by (with_reducible repeat (first | refine blk_drewN ?_ _ | refine blk_drew ?_ | refine blk_alloc ?_ _)); refine blk_put (cs := #[.int .u8 0, .string (⟨#[]⟩ : ByteArray), .slice none 0 0, .slice none 0 0]) ?_ 3 _ rfl; (with_reducible repeat (first | refine blk_drewN ?_ _ | refine blk_drew ?_ | refine blk_alloc ?_ _)); refine blk_put (cs := #[.int .u8 0, .string (⟨#[]⟩ : ByteArray), .slice none 0 0, .slice none 0 0]) ?_ 2 _ rfl; (with_reducible repeat (first | refine blk_drewN ?_ _ | refine blk_drew ?_ | refine blk_alloc ?_ _)); refine blk_put (cs := #[.int .u8 0, .string x141001_1, .slice none 0 0, .slice none 0 0]) ?_ 1 _ rfl; (with_reducible repeat (first | refine blk_drewN ?_ _ | refine blk_drew ?_ | refine blk_alloc ?_ _)); refine blk_put (cs := #[.int .u8 x141000_1, .string x141001_1, .slice none 0 0, .slice none 0 0]) ?_ 0 _ rfl; (with_reducible repeat (first | refine blk_drewN ?_ _ | refine blk_drew ?_ | refine blk_alloc ?_ _)); exact BK140.out) Try.underlying25 rfl (by kernel_rfl)) rfl ?_
            exact ⟨_, _, by first | rfl | (simp [errW_none, errW_some] <;> rfl) | (simp [*, errW_none, errW_some] <;> rfl), Kd.V_nil _ _ _ _ _, Kd.V_nil _ _ _ _ _, by repeat (first | (with_reducible first | exact HB.out | apply below_alloc | apply pw_below_drewN | apply below_drew1 | refine below_set ?_ GE139.out | refine below_set ?_ GE140.out) | exact HB.out)⟩

end Go.Proofs.Ytahedgkdgnlcfaa.PJsonGets
