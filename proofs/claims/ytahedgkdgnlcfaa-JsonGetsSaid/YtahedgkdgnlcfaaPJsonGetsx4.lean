-- Written by a program of this session (a turned copy of a printer): out of the translation, each function and its proof.
import Derived.Test.YtahedgkdgnlcfaaPJsonGetsx0
import Derived.Test.YtahedgkdgnlcfaaOwn
namespace Go.Proofs.Ytahedgkdgnlcfaa.PJsonGets
open Go.RowKit Go.Proofs.YtahedgkdgnlcfaaW.PrintWords Go.Proofs.YtahedgkdgnlcfaaW.PrintLast Go.Proofs.YtahedgkdgnlcfaaW.PrintMore
attribute [local go_sem] max2_int min2_int max_two min_two max_three min_three max_four min_four   -- for this text's walks alone
set_option linter.unusedVariables false
set_option linter.unusedSimpArgs false

/-! ### json_twin: function 10 -/
mutual
def json_twin.j1 : Nat → Int → ByteArray → List (S25) → List (S32) → Option (Int × ByteArray × (List (S25)) × (List (S32)))
  | 0, _, _, _, _ => none
  | k + 1, x144000, x144001, x144002, x144003 => if (x144003.length : Int) > 0 then (if 0 ≤ (x144003.length : Int) then (if ((x144003.length : Int) : Int).toNat ≤ 3198579280802 then (json_twin.l1 k (List.replicate ((x144003.length : Int) : Int).toNat z32) x144003 (x144003.length : Int) 0 x144000 x144001 x144002 x144003) else (none)) else (none)) else (some (x144000, x144001, x144002, x144003))
def json_twin.l1 : Nat → List (S32) → List (S32) → Int → Int → Int → ByteArray → List (S25) → List (S32) → Option (Int × ByteArray × (List (S25)) × (List (S32)))
  | 0, _, _, _, _, _, _, _, _ => none
  | k + 1, x6, x42, x43, x44, x144000, x144001, x144002, x144003 => if x44 < x43 then (if 0 ≤ x44 then (if x44 < (x42.length : Int) then ((json_twin.f k ((rd_T32 x42 x44).f1.f0) ((rd_T32 x42 x44).f1.f1) ((rd_T32 x42 x44).f1.f2) ((rd_T32 x42 x44).f1.f3)).bind fun bt164 => (if x44 < (x6.length : Int) then (json_twin.l1 k (x6.set (x44 : Int).toNat (⟨(rd_T32 x42 x44).f0, (⟨bt164.1, bt164.2.1, bt164.2.2.1, bt164.2.2.2⟩ : S25)⟩ : S32)) x42 x43 (wrap64 (x44 + 1)) x144000 x144001 x144002 x144003) else (none))) else (none)) else (none)) else (some (x144000, x144001, x144002, x6))
def json_twin.l0 : Nat → List (S25) → List (S25) → Int → Int → Int → ByteArray → List (S25) → List (S32) → Option (Int × ByteArray × (List (S25)) × (List (S32)))
  | 0, _, _, _, _, _, _, _, _ => none
  | k + 1, x3, x18, x19, x20, x144000, x144001, x144002, x144003 => if x20 < x19 then (if 0 ≤ x20 then (if x20 < (x18.length : Int) then ((json_twin.f k ((rd_T25 x18 x20).f0) ((rd_T25 x18 x20).f1) ((rd_T25 x18 x20).f2) ((rd_T25 x18 x20).f3)).bind fun bt150 => (if x20 < (x3.length : Int) then (json_twin.l0 k (x3.set (x20 : Int).toNat (⟨bt150.1, bt150.2.1, bt150.2.2.1, bt150.2.2.2⟩ : S25)) x18 x19 (wrap64 (x20 + 1)) x144000 x144001 x144002 x144003) else (none))) else (none)) else (none)) else (json_twin.j1 k x144000 x144001 x3 x144003)
def json_twin.f : Nat → Int → ByteArray → List (S25) → List (S32) → Option (Int × ByteArray × (List (S25)) × (List (S32)))
  | 0, _, _, _, _ => none
  | k + 1, a0_0, a0_1, l0_2, l0_3 => if (l0_2.length : Int) > 0 then (if 0 ≤ (l0_2.length : Int) then (if ((l0_2.length : Int) : Int).toNat ≤ 3909374676536 then (json_twin.l0 k (List.replicate ((l0_2.length : Int) : Int).toNat z25) l0_2 (l0_2.length : Int) 0 a0_0 a0_1 l0_2 l0_3) else (none)) else (none)) else (json_twin.j1 k a0_0 a0_1 l0_2 l0_3)
end
theorem json_twin.mono_l : ∀ k, (∀ y0 y1 y2 y3, LeO (json_twin.f k y0 y1 y2 y3) (json_twin.f (k + 1) y0 y1 y2 y3)) ∧ (∀ y0 y1 y2 y3, LeO (json_twin.j1 k y0 y1 y2 y3) (json_twin.j1 (k + 1) y0 y1 y2 y3)) ∧ (∀ y0 y1 y2 y3 y4 y5 y6 y7, LeO (json_twin.l1 k y0 y1 y2 y3 y4 y5 y6 y7) (json_twin.l1 (k + 1) y0 y1 y2 y3 y4 y5 y6 y7)) ∧ (∀ y0 y1 y2 y3 y4 y5 y6 y7, LeO (json_twin.l0 k y0 y1 y2 y3 y4 y5 y6 y7) (json_twin.l0 (k + 1) y0 y1 y2 y3 y4 y5 y6 y7))
  | 0 => ⟨fun _ _ _ _ r h => by simp [json_twin.f] at h, fun _ _ _ _ r h => by simp [json_twin.j1] at h, fun _ _ _ _ _ _ _ _ r h => by simp [json_twin.l1] at h, fun _ _ _ _ _ _ _ _ r h => by simp [json_twin.l0] at h⟩
  | k + 1 => by
    obtain ⟨ih0, ih1, ih2, ih3⟩ := json_twin.mono_l k
    refine ⟨?_, ?_, ?_, ?_⟩
    · intro y0 y1 y2 y3
      unfold json_twin.f
      repeat' first
      | (with_reducible exact ih0 _ _ _ _)
      | (with_reducible exact ih1 _ _ _ _)
      | (with_reducible exact ih2 _ _ _ _ _ _ _ _)
      | (with_reducible exact ih3 _ _ _ _ _ _ _ _)
      | (with_reducible exact LeO.refl _)
      | (with_reducible exact LeO.none _)
      | (with_reducible refine LeO.ite ?_ ?_)
      | (with_reducible refine LeO.bind ?_ (fun _ => ?_))
      | exact ih0 _ _ _ _
      | exact ih1 _ _ _ _
      | exact ih2 _ _ _ _ _ _ _ _
      | exact ih3 _ _ _ _ _ _ _ _
      | exact LeO.none _
      | refine LeO.ite ?_ ?_
      | refine LeO.bind ?_ (fun _ => ?_)
    · intro y0 y1 y2 y3
      unfold json_twin.j1
      repeat' first
      | (with_reducible exact ih0 _ _ _ _)
      | (with_reducible exact ih1 _ _ _ _)
      | (with_reducible exact ih2 _ _ _ _ _ _ _ _)
      | (with_reducible exact ih3 _ _ _ _ _ _ _ _)
      | (with_reducible exact LeO.refl _)
      | (with_reducible exact LeO.none _)
      | (with_reducible refine LeO.ite ?_ ?_)
      | (with_reducible refine LeO.bind ?_ (fun _ => ?_))
      | exact ih0 _ _ _ _
      | exact ih1 _ _ _ _
      | exact ih2 _ _ _ _ _ _ _ _
      | exact ih3 _ _ _ _ _ _ _ _
      | exact LeO.none _
      | refine LeO.ite ?_ ?_
      | refine LeO.bind ?_ (fun _ => ?_)
    · intro y0 y1 y2 y3 y4 y5 y6 y7
      unfold json_twin.l1
      repeat' first
      | (with_reducible exact ih0 _ _ _ _)
      | (with_reducible exact ih1 _ _ _ _)
      | (with_reducible exact ih2 _ _ _ _ _ _ _ _)
      | (with_reducible exact ih3 _ _ _ _ _ _ _ _)
      | (with_reducible exact LeO.refl _)
      | (with_reducible exact LeO.none _)
      | (with_reducible refine LeO.ite ?_ ?_)
      | (with_reducible refine LeO.bind ?_ (fun _ => ?_))
      | exact ih0 _ _ _ _
      | exact ih1 _ _ _ _
      | exact ih2 _ _ _ _ _ _ _ _
      | exact ih3 _ _ _ _ _ _ _ _
      | exact LeO.none _
      | refine LeO.ite ?_ ?_
      | refine LeO.bind ?_ (fun _ => ?_)
    · intro y0 y1 y2 y3 y4 y5 y6 y7
      unfold json_twin.l0
      repeat' first
      | (with_reducible exact ih0 _ _ _ _)
      | (with_reducible exact ih1 _ _ _ _)
      | (with_reducible exact ih2 _ _ _ _ _ _ _ _)
      | (with_reducible exact ih3 _ _ _ _ _ _ _ _)
      | (with_reducible exact LeO.refl _)
      | (with_reducible exact LeO.none _)
      | (with_reducible refine LeO.ite ?_ ?_)
      | (with_reducible refine LeO.bind ?_ (fun _ => ?_))
      | exact ih0 _ _ _ _
      | exact ih1 _ _ _ _
      | exact ih2 _ _ _ _ _ _ _ _
      | exact ih3 _ _ _ _ _ _ _ _
      | exact LeO.none _
      | refine LeO.ite ?_ ?_
      | refine LeO.bind ?_ (fun _ => ?_)
theorem json_twin.mono : ∀ a0 a1 a2 a3 k, LeO (json_twin.f k a0 a1 a2 a3) (json_twin.f (k + 1) a0 a1 a2 a3) := by
  intro a0 a1 a2 a3 k
  obtain ⟨ih0, ih1, ih2, ih3⟩ := json_twin.mono_l k
  exact ih0 a0 a1 a2 a3
def json_twin.T14 : Bool × List (List Nat × List Nat) := (true, [([], []), ([], []), ([], []), ([2], [2]), ([], []), ([4], [4]), ([5], [5]), ([3, 6], [3, 6]), ([0, 1, 0, 1, 2, 3, 4, 5, 6, 7], [0, 1]), ([8, 7, 6, 0, 1, 2, 3, 4, 5, 6, 7], [7, 8])])
def json_twin.B14 : List Nat := [0, 0, 0, 4, 0, 16, 48, 124, 255, 511]
theorem json_twin.tab14 : rtab .any (opsOf Try.f10 14) = json_twin.T14 := by kernel_rfl
theorem json_twin.bits14 : waitsOk json_twin.T14.2 json_twin.B14 = true := by kernel_rfl
set_option maxHeartbeats 8000000 in
set_option maxRecDepth 100000 in
theorem json_twin.calls (k : Nat) : ∀ (a0_0 : Int) (a0_1 : ByteArray) (P0_2_ : Nat → Prop) (A0_2 : Option Addr) (c0_2 : Nat) (l0_2 : List (S25)) (P0_3_ : Nat → Prop) (A0_3 : Option Addr) (c0_3 : Nat) (l0_3 : List (S32)) (r1 : Int) (r2 : ByteArray) (r3 : List (S25)) (r4 : List (S32)) (w : World) (hs0_2 : Kd.V k25 25 w w.heap.size (fun k_ => P0_2_ k_) (.slice A0_2 l0_2.length c0_2) l0_2) (hs0_3 : Kd.V k32 32 w w.heap.size (fun k_ => P0_3_ k_) (.slice A0_3 l0_3.length c0_3) l0_3) (h : json_twin.f k a0_0 a0_1 l0_2 l0_3 = some (r1, r2, r3, r4)),
    Calls Try.prog 10 #[.agg #[.int .u8 a0_0, .string a0_1, .slice A0_2 l0_2.length c0_2, .slice A0_3 l0_3.length c0_3]] w fun e w' => ∃ v2_ v3_ : Value, e = .returned (.agg #[.int .u8 r1, .string r2, v2_, v3_]) ∧ Kd.VW k25 25 w' w.heap.size (fun k_ => ((P0_2_ k_ ∨ P0_3_ k_) ∨ w.heap.size ≤ k_)) v2_ r3 ∧ Kd.VW k32 32 w' w.heap.size (fun k_ => ((P0_2_ k_ ∨ P0_3_ k_) ∨ w.heap.size ≤ k_)) v3_ r4 ∧ Below w.heap.size w w' := by
  induction k using Nat.strongRecOn with
  | _ k ih =>
  intro a0_0 a0_1 P0_2_ A0_2 c0_2 l0_2 P0_3_ A0_3 c0_3 l0_3 r1 r2 r3 r4 w hs0_2 hs0_3 h
  cases k with
  | zero => exact absurd h (by simp [json_twin.f])
  | succ k =>
  simp only [json_twin.f] at h
  have hu25 := Try.underlying25
  have hu32 := Try.underlying32
  have HO0_2 := Aside0.mk (show Kd.V k25 25 w w.heap.size (fun k_ => ((P0_2_ k_ ∨ P0_3_ k_) ∨ w.heap.size ≤ k_)) (.slice A0_2 l0_2.length c0_2) l0_2 from Kd.V_mono hs0_2 (fun k_ hk => .inl (.inl hk)))
  have HO0_3 := Aside0.mk (show Kd.V k32 32 w w.heap.size (fun k_ => ((P0_2_ k_ ∨ P0_3_ k_) ∨ w.heap.size ≤ k_)) (.slice A0_3 l0_3.length c0_3) l0_3 from Kd.V_mono hs0_3 (fun k_ hk => .inl (.inr hk)))
  have HB := Aside0.mk (Below.refl w.heap.size w)
  have H : (if (l0_2.length : Int) > 0 then (if 0 ≤ (l0_2.length : Int) then (if ((l0_2.length : Int) : Int).toNat ≤ 3909374676536 then (json_twin.l0 k (List.replicate ((l0_2.length : Int) : Int).toNat z25) l0_2 (l0_2.length : Int) 0 a0_0 a0_1 l0_2 l0_3) else (none)) else (none)) else (json_twin.j1 k a0_0 a0_1 l0_2 l0_3)) = some (r1, r2, r3, r4) := h
  clear h
  have HC2 := Aside0.mk H
  clear H
  go_enter Try.func10, Try.ntmps10
  go_upto_if 12 with (first | ((with_reducible refine gate_dst (N := 1) rfl ?_); refine box_event ?hg (N := 1) ?hd (cs := #[.int .u8 a0_0, .string a0_1, .slice A0_2 l0_2.length c0_2, .slice A0_3 l0_3.length c0_3]) (t := 25) ?hr ?_; (case hd => rfl); (case hg => rfl); (case hr => first | (go_simp; done) | (go_simp; rfl)); intro gb143 hg w3 hbox hb; have n0_ := Aside0.mk (Kd.V_below (Kd.V_elderB (by (with_reducible repeat (first | apply Kd.V_alloc | apply Kd.V_drewN | apply Kd.V_drew)); exact HO0_2.out) gb143 (Nat.le_of_eq hg.symm)) hb); have n1_ := Aside0.mk (Kd.V_below (Kd.V_elderB (by (with_reducible repeat (first | apply Kd.V_alloc | apply Kd.V_drewN | apply Kd.V_drew)); exact HO0_3.out) gb143 (Nat.le_of_eq hg.symm)) hb); have n2_ := Aside0.mk (below_step (by repeat (first | (with_reducible first | exact HB.out | apply below_alloc | apply pw_below_drewN | apply below_drew1) | exact HB.out)) hb); have n3_ := Aside0.mk (hbox); have n4_ := Aside0.mk ((by rw [hg]; exact (below_size (by repeat (first | (with_reducible first | exact HB.out | apply below_alloc | apply pw_below_drewN | apply below_drew1) | exact HB.out))) : w.heap.size ≤ gb143)); have n5_ := Aside0.mk ((by rw [hg]; exact (below_size (by repeat (first | (with_reducible first | exact HB.out | apply below_alloc | apply pw_below_drewN | apply below_drew1) | exact HB.out))) : w.heap.size ≤ gb143)); clear HO0_2; clear HO0_3; clear HB; have HO0_2 := n0_; have HO0_3 := n1_; have HB := n2_; have BK143 := n3_; have GW143 := n4_; have GE143 := n5_; clear n0_ n1_ n2_ n3_ n4_ n5_; clear hb hbox hg) | ((with_reducible refine gate_dst (N := 2) rfl ?_); refine box_event ?hg (N := 2) ?hd (cs := #[.int .u8 0, .string (⟨#[]⟩ : ByteArray), .slice none 0 0, .slice none 0 0]) (t := 25) ?hr ?_; (case hd => rfl); (case hg => rfl); (case hr => first | (go_simp; done) | (go_simp; rfl)); intro gb144 hg w4 hbox hb; have n0_ := Aside0.mk (Kd.V_below (Kd.V_elderB (by (with_reducible repeat (first | apply Kd.V_alloc | apply Kd.V_drewN | apply Kd.V_drew)); exact HO0_2.out) gb144 (Nat.le_of_eq hg.symm)) hb); have n1_ := Aside0.mk (Kd.V_below (Kd.V_elderB (by (with_reducible repeat (first | apply Kd.V_alloc | apply Kd.V_drewN | apply Kd.V_drew)); exact HO0_3.out) gb144 (Nat.le_of_eq hg.symm)) hb); have n2_ := Aside0.mk (blk_below (g := gb143) (o := .cells #[.int .u8 a0_0, .string a0_1, .slice A0_2 l0_2.length c0_2, .slice A0_3 l0_3.length c0_3] 25 (0, 0)) (by (with_reducible repeat (first | refine blk_drewN ?_ _ | refine blk_drew ?_ | refine blk_alloc ?_ _)); exact BK143.out) hb); have n3_ := Aside0.mk (below_step (by repeat (first | (with_reducible first | exact HB.out | apply below_alloc | apply pw_below_drewN | apply below_drew1 | refine below_set ?_ GE143.out) | exact HB.out)) hb); have n4_ := Aside0.mk (hbox); have n5_ := Aside0.mk ((by rw [hg]; exact (below_size (by repeat (first | (with_reducible first | exact HB.out | apply below_alloc | apply pw_below_drewN | apply below_drew1 | refine below_set ?_ GE143.out) | exact HB.out))) : w.heap.size ≤ gb144)); have n6_ := Aside0.mk ((by rw [hg]; exact (below_size (by repeat (first | (with_reducible first | exact HB.out | apply below_alloc | apply pw_below_drewN | apply below_drew1 | refine below_set ?_ GE143.out) | exact HB.out))) : w.heap.size ≤ gb144)); have n7_ := Aside0.mk ((by rw [hg]; exact Nat.ne_of_lt (blk_lt (g := gb143) (o := .cells #[.int .u8 a0_0, .string a0_1, .slice A0_2 l0_2.length c0_2, .slice A0_3 l0_3.length c0_3] 25 (0, 0)) (by (with_reducible repeat (first | refine blk_drewN ?_ _ | refine blk_drew ?_ | refine blk_alloc ?_ _)); exact BK143.out)) : gb143 ≠ gb144)); have n8_ := Aside0.mk ((by rw [hg]; exact Nat.ne_of_gt (blk_lt (g := gb143) (o := .cells #[.int .u8 a0_0, .string a0_1, .slice A0_2 l0_2.length c0_2, .slice A0_3 l0_3.length c0_3] 25 (0, 0)) (by (with_reducible repeat (first | refine blk_drewN ?_ _ | refine blk_drew ?_ | refine blk_alloc ?_ _)); exact BK143.out)) : gb144 ≠ gb143)); clear HO0_2; clear HO0_3; clear BK143; clear HB; have HO0_2 := n0_; have HO0_3 := n1_; have BK143 := n2_; have HB := n3_; have BK144 := n4_; have GW144 := n5_; have GE144 := n6_; have NB143_144 := n7_; have NB144_143 := n8_; clear n0_ n1_ n2_ n3_ n4_ n5_ n6_ n7_ n8_; clear hb hbox hg; have hnb5 := NB143_144.out; have hnc5 := NB144_143.out; have hcz6_0 : w4.cell? ⟨gb143, 0, none⟩ = some (.int .u8 a0_0) := (blk_cell BK143.out 0).trans rfl; have hcz6_1 : w4.cell? ⟨gb143, 1, none⟩ = some (.string a0_1) := (blk_cell BK143.out 1).trans rfl; have hcz6_2 : w4.cell? ⟨gb143, 2, none⟩ = some (.slice A0_2 l0_2.length c0_2) := (blk_cell BK143.out 2).trans rfl; have hcz6_3 : w4.cell? ⟨gb143, 3, none⟩ = some (.slice A0_3 l0_3.length c0_3) := (blk_cell BK143.out 3).trans rfl; have hfz6_0 := blk_frozen BK143.out 0; have hfz6_1 := blk_frozen BK143.out 1; have hfz6_2 := blk_frozen BK143.out 2; have hfz6_3 := blk_frozen BK143.out 3))
  (try simp only [Act.put, List.setIfInBounds_toArray, List.set_cons_zero, List.set_cons_succ])
  go_cut [] (fun wc => ∃ (kq : Nat) (x144000_1 : Int) (x144001_1 : ByteArray) (x144002_1 : List (S25)) (x144003_1 : List (S32)) (x145000_1 : Int) (x145001_1 : ByteArray) (u144002 : Value) (u144003 : Value), Aside0 (json_twin.j1 kq x144000_1 x144001_1 x144002_1 x144003_1 = some (r1, r2, r3, r4)) ∧ Aside0 (kq ≤ k) ∧ Aside0 (Kd.VW k25 25 wc w.heap.size (fun k_ => ((P0_2_ k_ ∨ P0_3_ k_) ∨ w.heap.size ≤ k_) ∧ k_ ≠ gb143 ∧ k_ ≠ gb144) u144002 x144002_1) ∧ Aside0 (Kd.V k32 32 wc w.heap.size (fun k_ => ((P0_2_ k_ ∨ P0_3_ k_) ∨ w.heap.size ≤ k_) ∧ k_ ≠ gb143 ∧ k_ ≠ gb144) u144003 x144003_1) ∧ Aside0 (wc.heap[gb143]? = some (.cells #[.int .u8 x144000_1, .string x144001_1, u144002, u144003] 25 (0, 0))) ∧ Aside0 (wc.heap[gb144]? = some (.cells #[.int .u8 x145000_1, .string x145001_1, (.slice none 0 0), (.slice none 0 0)] 25 (0, 0))) ∧ Aside0 (Below w.heap.size w wc))
  case first =>
    have H := HC2.out
    clear HC2
    by_cases c7 : (l0_2.length : Int) > 0
    · rw [if_pos c7] at H
      have c7b0 : decide (0 < (l0_2.length : Int)) = true := decide_eq_true c7
      have c7b1 : decide (0 < l0_2.length) = true := decide_eq_true (by omega)
      have c7b2 : 0 < l0_2.length := of_decide_eq_true c7b1
      clear c7
      (first | rw [c7b0] | (simp only [i64_w, i32_w]; rw [c7b0]) | skip)
      by_cases c8 : 0 ≤ (l0_2.length : Int)
      · rw [if_pos c8] at H
        have c8b0 := eq_true c8
        have c8b1 : decide (0 ≤ (l0_2.length : Int)) = true := decide_eq_true c8
        clear c8
        by_cases c9 : ((l0_2.length : Int) : Int).toNat ≤ 3909374676536
        · rw [if_pos c9] at H
          have c9b0 := eq_true c9
          have c9b1 : decide (((l0_2.length : Int) : Int).toNat ≤ 3909374676536) = true := decide_eq_true c9
          clear c9
          obtain ⟨y145, hy145⟩ : ∃ y_ : List (S25), y_ = (List.replicate ((l0_2.length : Int) : Int).toNat z25) := ⟨_, rfl⟩
          replace H : (json_twin.l0 k y145 l0_2 (l0_2.length : Int) 0 a0_0 a0_1 l0_2 l0_3) = some (r1, r2, r3, r4) := by first | (rw [hy145]; with_reducible exact H) | (have H2_ := (Option.bind_some _ _).symm.trans H; rw [hy145]; with_reducible exact H2_) | (have H2_ := (Option.bind_some _ _).symm.trans H; with_reducible exact H2_) | with_reducible exact H | (rw [hy145]; exact H) | exact H
          have Ny145 := Aside0.mk hy145
          clear hy145
          have H' := Aside0.mk H
          clear H
          have hnb10 := NB143_144.out
          have hnc10 := NB144_143.out
          have hcz11_0 : w4.cell? ⟨gb143, 0, none⟩ = some (.int .u8 a0_0) := (blk_cell BK143.out 0).trans rfl
          have hcz11_1 : w4.cell? ⟨gb143, 1, none⟩ = some (.string a0_1) := (blk_cell BK143.out 1).trans rfl
          have hcz11_2 : w4.cell? ⟨gb143, 2, none⟩ = some (.slice A0_2 l0_2.length c0_2) := (blk_cell BK143.out 2).trans rfl
          have hcz11_3 : w4.cell? ⟨gb143, 3, none⟩ = some (.slice A0_3 l0_3.length c0_3) := (blk_cell BK143.out 3).trans rfl
          have hfz11_0 := blk_frozen BK143.out 0
          have hfz11_1 := blk_frozen BK143.out 1
          have hfz11_2 := blk_frozen BK143.out 2
          have hfz11_3 := blk_frozen BK143.out 3
          go_wp2_with (first | ((with_reducible refine gate_dst (N := 16) rfl ?_); refine Kd.N_make k25 _ 25 rfl (N' := 16) rfl 22 _ _ rfl (l0_2.length : Int) rfl rfl Try.underlying22 (.agg #[(.int .u8 0), (.string ⟨#[]⟩), (.slice none 0 0), (.slice none 0 0)]) 72 info25 rfl (by decide) (by omega) z25 (ok := fun k_ => w4.heap.size ≤ k_) (okp := fun _ => False) (k25_mkF _ _ z25 (Nat.le_refl _) (Kd.F_nil _ _ _) (Nat.le_refl _) (Kd.F_nil _ _ _)) (fun _ hk => hk.elim) (Nat.le_refl _) (of_decide_eq_true (by first | (with_reducible assumption) | assumption)) (Nat.le_trans (Nat.mul_le_mul_right _ (of_decide_eq_true (by first | (with_reducible assumption) | assumption) : (l0_2.length : Int).toNat ≤ 3909374676536)) (by omega)) (Below.refl _ _) (Nat.le_refl _) ?_; intro v146 w12 ho13 hb hg_ hnew_; clear hg_ hnew_; (first | rw [← Ny145.out] at ho13 | (simp only [Int.reduceToNat] at ho13; rw [← Ny145.out] at ho13)); have n0_ := Aside0.mk (Kd.V_elder' (by (with_reducible repeat (first | apply Kd.V_alloc | apply Kd.V_drewN | apply Kd.V_drew)); exact HO0_2.out) (Kd.N_base ho13) hb); have n1_ := Aside0.mk (Kd.V_elder' (by (with_reducible repeat (first | apply Kd.V_alloc | apply Kd.V_drewN | apply Kd.V_drew)); exact HO0_3.out) (Kd.N_base ho13) hb); have n2_ := Aside0.mk (Kd.N_lower (Kd.N_mono (ok' := fun k_ => ((P0_2_ k_ ∨ P0_3_ k_) ∨ w.heap.size ≤ k_) ∧ k_ ≠ gb143 ∧ k_ ≠ gb144) ho13 (fun k_ hk_ => ⟨(.inr (Nat.le_trans (below_size (by repeat (first | (with_reducible first | exact HB.out | apply below_alloc | apply pw_below_drewN | apply below_drew1 | refine below_set ?_ GE143.out | refine below_set ?_ GE144.out) | exact HB.out))) hk_)), (Kd.freshB (g := gb143) (o := .cells #[.int .u8 a0_0, .string a0_1, .slice A0_2 l0_2.length c0_2, .slice A0_3 l0_3.length c0_3] 25 (0, 0)) (by (with_reducible repeat (first | refine blk_drewN ?_ _ | refine blk_drew ?_ | refine blk_alloc ?_ _)); exact BK143.out) k_ hk_), (Kd.freshB (g := gb144) (o := .cells #[.int .u8 0, .string (⟨#[]⟩ : ByteArray), .slice none 0 0, .slice none 0 0] 25 (0, 0)) (by (with_reducible repeat (first | refine blk_drewN ?_ _ | refine blk_drew ?_ | refine blk_alloc ?_ _)); exact BK144.out) k_ hk_)⟩)) (below_size (by repeat (first | (with_reducible first | exact HB.out | apply below_alloc | apply pw_below_drewN | apply below_drew1 | refine below_set ?_ GE143.out | refine below_set ?_ GE144.out) | exact HB.out)))); have n3_ := Aside0.mk (blk_below (g := gb143) (o := .cells #[.int .u8 a0_0, .string a0_1, .slice A0_2 l0_2.length c0_2, .slice A0_3 l0_3.length c0_3] 25 (0, 0)) (by (with_reducible repeat (first | refine blk_drewN ?_ _ | refine blk_drew ?_ | refine blk_alloc ?_ _)); exact BK143.out) hb); have n4_ := Aside0.mk (blk_below (g := gb144) (o := .cells #[.int .u8 0, .string (⟨#[]⟩ : ByteArray), .slice none 0 0, .slice none 0 0] 25 (0, 0)) (by (with_reducible repeat (first | refine blk_drewN ?_ _ | refine blk_drew ?_ | refine blk_alloc ?_ _)); exact BK144.out) hb); have n5_ := Aside0.mk (below_step (by repeat (first | (with_reducible first | exact HB.out | apply below_alloc | apply pw_below_drewN | apply below_drew1 | refine below_set ?_ GE143.out | refine below_set ?_ GE144.out) | exact HB.out)) hb); clear HO0_2; clear HO0_3; clear BK143; clear BK144; clear HB; have HO0_2 := n0_; have HO0_3 := n1_; have HO147 := n2_; have BK143 := n3_; have BK144 := n4_; have HB := n5_; clear n0_ n1_ n2_ n3_ n4_ n5_; clear hb ho13; have hcz14_0 : w12.cell? ⟨gb143, 0, none⟩ = some (.int .u8 a0_0) := (blk_cell BK143.out 0).trans rfl; have hcz14_1 : w12.cell? ⟨gb143, 1, none⟩ = some (.string a0_1) := (blk_cell BK143.out 1).trans rfl; have hcz14_2 : w12.cell? ⟨gb143, 2, none⟩ = some (.slice A0_2 l0_2.length c0_2) := (blk_cell BK143.out 2).trans rfl; have hcz14_3 : w12.cell? ⟨gb143, 3, none⟩ = some (.slice A0_3 l0_3.length c0_3) := (blk_cell BK143.out 3).trans rfl; have hfz14_0 := blk_frozen BK143.out 0; have hfz14_1 := blk_frozen BK143.out 1; have hfz14_2 := blk_frozen BK143.out 2; have hfz14_3 := blk_frozen BK143.out 3))
          go_loopg [20] k (fun kq v20 w' => ∃ (x3_1 : List (S25)) (x20_1 : Int) (x144000_1 : Int) (x144001_1 : ByteArray) (x144002_1 : List (S25)) (x144003_1 : List (S32)) (x145000_1 : Int) (x145001_1 : ByteArray) (u144002 : Value) (u144003 : Value), v20 = .int .i64 x20_1 ∧ Aside0 (json_twin.l0 kq x3_1 l0_2 (l0_2.length : Int) x20_1 x144000_1 x144001_1 x144002_1 x144003_1 = some (r1, r2, r3, r4)) ∧ Aside0 (kq ≤ k) ∧ Aside0 (Kd.N k25 25 w' w.heap.size (fun k_ => ((P0_2_ k_ ∨ P0_3_ k_) ∨ w.heap.size ≤ k_) ∧ k_ ≠ gb143 ∧ k_ ≠ gb144) v146 x3_1) ∧ Aside0 (Kd.V k25 25 w' w.heap.size (fun k_ => ((P0_2_ k_ ∨ P0_3_ k_) ∨ w.heap.size ≤ k_) ∧ some k_ ≠ (v146 : Value).ownBlock ∧ k_ ≠ gb143 ∧ k_ ≠ gb144) (.slice A0_2 l0_2.length c0_2) l0_2) ∧ Aside0 (Kd.V k25 25 w' w.heap.size (fun k_ => ((P0_2_ k_ ∨ P0_3_ k_) ∨ w.heap.size ≤ k_) ∧ some k_ ≠ (v146 : Value).ownBlock ∧ k_ ≠ gb143 ∧ k_ ≠ gb144) u144002 x144002_1) ∧ Aside0 (Kd.V k32 32 w' w.heap.size (fun k_ => ((P0_2_ k_ ∨ P0_3_ k_) ∨ w.heap.size ≤ k_) ∧ some k_ ≠ (v146 : Value).ownBlock ∧ k_ ≠ gb143 ∧ k_ ≠ gb144) u144003 x144003_1) ∧ Aside0 (w'.heap[gb143]? = some (.cells #[.int .u8 x144000_1, .string x144001_1, u144002, u144003] 25 (0, 0))) ∧ Aside0 (w'.heap[gb144]? = some (.cells #[.int .u8 x145000_1, .string x145001_1, (.slice none 0 0), (.slice none 0 0)] 25 (0, 0))) ∧ Aside0 (Below w.heap.size w w'))
          case atStart => exact ⟨(y145), (0), (a0_0), (a0_1), (l0_2), (l0_3), (0), ((⟨#[]⟩ : ByteArray)), (.slice A0_2 l0_2.length c0_2), (.slice A0_3 l0_3.length c0_3), (by first | rfl | (simp; done) | (simp [*]; done)), H', ⟨Nat.le_refl _⟩, ⟨by (with_reducible repeat (first | apply Kd.N_alloc | apply Kd.N_drewN | apply Kd.N_drew)); exact HO147.out⟩, ⟨by (with_reducible repeat (first | apply Kd.V_alloc | apply Kd.V_drewN | apply Kd.V_drew)); exact Kd.V_mono HO0_2.out (fun _ hk => ⟨hk.1.1.1, ⟨hk.2, ⟨hk.1.1.2, hk.1.2⟩⟩⟩)⟩, ⟨by (with_reducible repeat (first | apply Kd.V_alloc | apply Kd.V_drewN | apply Kd.V_drew)); exact Kd.V_mono HO0_2.out (fun _ hk => ⟨hk.1.1.1, ⟨hk.2, ⟨hk.1.1.2, hk.1.2⟩⟩⟩)⟩, ⟨by (with_reducible repeat (first | apply Kd.V_alloc | apply Kd.V_drewN | apply Kd.V_drew)); exact Kd.V_mono HO0_3.out (fun _ hk => ⟨hk.1.1.1, ⟨hk.2, ⟨hk.1.1.2, hk.1.2⟩⟩⟩)⟩, ⟨by (with_reducible repeat (first | refine blk_drewN ?_ _ | refine blk_drew ?_ | refine blk_alloc ?_ _)); exact BK143.out⟩, ⟨by (with_reducible repeat (first | refine blk_drewN ?_ _ | refine blk_drew ?_ | refine blk_alloc ?_ _)); exact BK144.out⟩, ⟨by repeat (first | (with_reducible first | exact HB.out | apply below_alloc | apply pw_below_drewN | apply below_drew1 | refine below_set ?_ GE143.out | refine below_set ?_ GE144.out) | exact HB.out)⟩⟩
          case round =>
            clear H'
            try clear c1
            try clear p2
            try clear c5
            try clear c7
            try clear c7b0
            try clear c7b1
            try clear c8
            try clear c8b0
            try clear c8b1
            try clear c9
            try clear c9b0
            try clear c9b1
            try clear c10
            try clear hcz11_0
            try clear hcz11_1
            try clear hcz11_2
            try clear hcz11_3
            try clear hcz14_0
            try clear hcz14_1
            try clear hcz14_2
            try clear hcz14_3
            try clear hcz6_0
            try clear hcz6_1
            try clear hcz6_2
            try clear hcz6_3
            try clear hfz11_0
            try clear hfz11_1
            try clear hfz11_2
            try clear hfz11_3
            try clear hfz14_0
            try clear hfz14_1
            try clear hfz14_2
            try clear hfz14_3
            try clear hfz6_0
            try clear hfz6_1
            try clear hfz6_2
            try clear hfz6_3
            (try clear  BK143)
            (try clear  BK144)
            obtain ⟨x3_1, x20_1, x144000_1, x144001_1, x144002_1, x144003_1, x145000_1, x145001_1, u144002, u144003, rfl, HA, HK1, HO_3, HO_18, HO_144002, HO_144003, BK143, BK144, HB⟩ := hrel
            cases gk with
            | zero => exact absurd HA.out (by simp [json_twin.l0])
            | succ k1 =>
              have H := HA.out
              clear HA
              simp only [json_twin.l0] at H
              by_cases c15 : x20_1 < (l0_2.length : Int)
              · rw [if_pos c15] at H
                have c15b0 : decide (x20_1 < (l0_2.length : Int)) = true := decide_eq_true c15
                clear c15
                by_cases c16 : 0 ≤ x20_1
                · rw [if_pos c16] at H
                  have c16b0 : decide (0 ≤ x20_1) = true := decide_eq_true c16
                  clear c16
                  by_cases c17 : x20_1 < (l0_2.length : Int)
                  · rw [if_pos c17] at H
                    have c17b0 : decide (x20_1 < (l0_2.length : Int)) = true := decide_eq_true c17
                    clear c17
                    replace H := Option.bind_eq_some_iff.mp H
                    obtain ⟨⟨t150, t151, t152, t155⟩, A180, H⟩ := H
                    replace H : (if x20_1 < (x3_1.length : Int) then (json_twin.l0 k1 (x3_1.set (x20_1 : Int).toNat (⟨t150, t151, t152, t155⟩ : S25)) l0_2 (l0_2.length : Int) (wrap64 (x20_1 + 1)) x144000_1 x144001_1 x144002_1 x144003_1) else (none)) = some (r1, r2, r3, r4) := H
                    have A18 := Aside0.mk A180
                    clear A180
                    by_cases c19 : x20_1 < (x3_1.length : Int)
                    · rw [if_pos c19] at H
                      have c19b0 : decide (x20_1 < (x3_1.length : Int)) = true := decide_eq_true c19
                      clear c19
                      obtain ⟨y158, hy158⟩ : ∃ y_ : List (S25), y_ = (x3_1.set (x20_1 : Int).toNat (⟨t150, t151, t152, t155⟩ : S25)) := ⟨_, rfl⟩
                      replace H : (json_twin.l0 k1 y158 l0_2 (l0_2.length : Int) (wrap64 (x20_1 + 1)) x144000_1 x144001_1 x144002_1 x144003_1) = some (r1, r2, r3, r4) := by first | (rw [hy158]; with_reducible exact H) | (have H2_ := (Option.bind_some _ _).symm.trans H; rw [hy158]; with_reducible exact H2_) | (have H2_ := (Option.bind_some _ _).symm.trans H; with_reducible exact H2_) | with_reducible exact H | (rw [hy158]; exact H) | exact H
                      have Ny158 := Aside0.mk hy158
                      clear hy158
                      have H' := Aside0.mk H
                      clear H
                      have p148 : 0 ≤ (x20_1 : Int) := of_decide_eq_true (by first | (with_reducible assumption) | assumption)
                      have q148 : x20_1 < (l0_2.length : Int) := of_decide_eq_true (by first | (with_reducible assumption) | assumption)
                      obtain ⟨ad148, A148_2, c148_2, A148_3, c148_3, e148, hx148_0, hx148_1, hx148_2, hx148_3, hl148_2, hi148_2, hl148_3, hi148_3⟩ := at_T25 (Kd.V_reads' HO_18.out).2.2 x20_1 p148 q148
                      cases e148
                      obtain ⟨ce148, hce148, hMe148, hcc148⟩ := Kd.V_get HO_18.out z25 x20_1 p148 (by first | exact q148 | exact of_decide_eq_true (by first | (with_reducible assumption) | assumption) | (have e_ := (Kd.V_reads' HO_18.out).1; omega))
                      obtain ⟨ua148_2, uc148_2, ua148_3, uc148_3, rfl, ul148_2, ge148_2, ul148_3, ge148_3⟩ := k25_openF hMe148
                      have hv148_2 := hcc148 2 _ rfl
                      rw [add_field _ _ 2 (by omega)] at hv148_2
                      replace hv148_2 := Option.some.inj (hv148_2.symm.trans hx148_2)
                      injection hv148_2 with hva_ hvn_ hvc_
                      rw [hva_] at ge148_2
                      rw [hvc_] at ul148_2
                      have HL148_2 := Aside0.mk (show Kd.V k25 25 _ w.heap.size _ _ ((rd_T25 l0_2 x20_1).f2) from Kd.V_mk ul148_2 ge148_2)
                      clear hva_ hvn_ hvc_ ge148_2 ul148_2
                      have hv148_3 := hcc148 3 _ rfl
                      rw [add_field _ _ 3 (by omega)] at hv148_3
                      replace hv148_3 := Option.some.inj (hv148_3.symm.trans hx148_3)
                      injection hv148_3 with hva_ hvn_ hvc_
                      rw [hva_] at ge148_3
                      rw [hvc_] at ul148_3
                      have HL148_3 := Aside0.mk (show Kd.V k32 32 _ w.heap.size _ _ ((rd_T25 l0_2 x20_1).f3) from Kd.V_mk ul148_3 ge148_3)
                      clear hva_ hvn_ hvc_ ge148_3 ul148_3
                      clear hcc148 hce148
                      have HR148_2 := Aside0.mk hi148_2
                      have HC148_2 := Aside0.mk hl148_2
                      clear hi148_2 hl148_2
                      have HR148_3 := Aside0.mk hi148_3
                      have HC148_3 := Aside0.mk hl148_3
                      clear hi148_3 hl148_3
                      replace p148 := eq_true p148
                      replace q148 := eq_true q148
                      go_wp2_with (first | ((with_reducible refine gate_dst (N := 5) rfl ?_); refine box_event ?hg (N := 5) ?hd (cs := #[.int .u8 0, .string (⟨#[]⟩ : ByteArray), .slice none 0 0, .slice none 0 0]) (t := 25) ?hr ?_; (case hd => rfl); (case hg => rfl); (case hr => first | (go_simp; done) | (go_simp; rfl)); intro gb149 hg w21 hbox hb; have n0_ := Aside0.mk (Kd.N_below (Kd.N_elderB (by (with_reducible repeat (first | apply Kd.N_alloc | apply Kd.N_drewN | apply Kd.N_drew)); exact HO_3.out) gb149 (Nat.le_of_eq hg.symm)) hb); have n1_ := Aside0.mk (Kd.V_below (Kd.V_elderB (by (with_reducible repeat (first | apply Kd.V_alloc | apply Kd.V_drewN | apply Kd.V_drew)); exact HO_18.out) gb149 (Nat.le_of_eq hg.symm)) hb); have n2_ := Aside0.mk (Kd.V_below (Kd.V_elderB (by (with_reducible repeat (first | apply Kd.V_alloc | apply Kd.V_drewN | apply Kd.V_drew)); exact HO_144002.out) gb149 (Nat.le_of_eq hg.symm)) hb); have n3_ := Aside0.mk (Kd.V_below (Kd.V_elderB (by (with_reducible repeat (first | apply Kd.V_alloc | apply Kd.V_drewN | apply Kd.V_drew)); exact HO_144003.out) gb149 (Nat.le_of_eq hg.symm)) hb); have n4_ := Aside0.mk (Kd.V_below (Kd.V_elderB (by (with_reducible repeat (first | apply Kd.V_alloc | apply Kd.V_drewN | apply Kd.V_drew)); exact HL148_2.out) gb149 (Nat.le_of_eq hg.symm)) hb); have n5_ := Aside0.mk (Kd.V_below (Kd.V_elderB (by (with_reducible repeat (first | apply Kd.V_alloc | apply Kd.V_drewN | apply Kd.V_drew)); exact HL148_3.out) gb149 (Nat.le_of_eq hg.symm)) hb); have n6_ := Aside0.mk (blk_below (g := gb143) (o := .cells #[.int .u8 x144000_1, .string x144001_1, u144002, u144003] 25 (0, 0)) (by (with_reducible repeat (first | refine blk_drewN ?_ _ | refine blk_drew ?_ | refine blk_alloc ?_ _)); exact BK143.out) hb); have n7_ := Aside0.mk (blk_below (g := gb144) (o := .cells #[.int .u8 x145000_1, .string x145001_1, .slice none 0 0, .slice none 0 0] 25 (0, 0)) (by (with_reducible repeat (first | refine blk_drewN ?_ _ | refine blk_drew ?_ | refine blk_alloc ?_ _)); exact BK144.out) hb); have n8_ := Aside0.mk (Kd.V_reads' n4_.out).2.2; have n9_ := Aside0.mk (Kd.V_reads' n5_.out).2.2; have n10_ := Aside0.mk (below_step (by repeat (first | (with_reducible first | exact HB.out | apply below_alloc | apply pw_below_drewN | apply below_drew1 | refine below_set ?_ GE143.out | refine below_set ?_ GE144.out) | exact HB.out)) hb); have n11_ := Aside0.mk (hbox); have n12_ := Aside0.mk ((by rw [hg]; exact (below_size (by repeat (first | (with_reducible first | exact HB.out | apply below_alloc | apply pw_below_drewN | apply below_drew1 | refine below_set ?_ GE143.out | refine below_set ?_ GE144.out) | exact HB.out))) : w.heap.size ≤ gb149)); have n13_ := Aside0.mk ((by rw [hg]; exact (below_size (by repeat (first | (with_reducible first | exact HB.out | apply below_alloc | apply pw_below_drewN | apply below_drew1 | refine below_set ?_ GE143.out | refine below_set ?_ GE144.out) | exact HB.out))) : w.heap.size ≤ gb149)); have n14_ := Aside0.mk ((by rw [hg]; exact Nat.ne_of_lt (blk_lt (g := gb143) (o := .cells #[.int .u8 x144000_1, .string x144001_1, u144002, u144003] 25 (0, 0)) (by (with_reducible repeat (first | refine blk_drewN ?_ _ | refine blk_drew ?_ | refine blk_alloc ?_ _)); exact BK143.out)) : gb143 ≠ gb149)); have n15_ := Aside0.mk ((by rw [hg]; exact Nat.ne_of_gt (blk_lt (g := gb143) (o := .cells #[.int .u8 x144000_1, .string x144001_1, u144002, u144003] 25 (0, 0)) (by (with_reducible repeat (first | refine blk_drewN ?_ _ | refine blk_drew ?_ | refine blk_alloc ?_ _)); exact BK143.out)) : gb149 ≠ gb143)); have n16_ := Aside0.mk ((by rw [hg]; exact Nat.ne_of_lt (blk_lt (g := gb144) (o := .cells #[.int .u8 x145000_1, .string x145001_1, .slice none 0 0, .slice none 0 0] 25 (0, 0)) (by (with_reducible repeat (first | refine blk_drewN ?_ _ | refine blk_drew ?_ | refine blk_alloc ?_ _)); exact BK144.out)) : gb144 ≠ gb149)); have n17_ := Aside0.mk ((by rw [hg]; exact Nat.ne_of_gt (blk_lt (g := gb144) (o := .cells #[.int .u8 x145000_1, .string x145001_1, .slice none 0 0, .slice none 0 0] 25 (0, 0)) (by (with_reducible repeat (first | refine blk_drewN ?_ _ | refine blk_drew ?_ | refine blk_alloc ?_ _)); exact BK144.out)) : gb149 ≠ gb144)); clear HO_3; clear HO_18; clear HO_144002; clear HO_144003; clear HL148_2; clear HL148_3; clear BK143; clear BK144; clear HR148_2; clear HR148_3; clear HB; have HO_3 := n0_; have HO_18 := n1_; have HO_144002 := n2_; have HO_144003 := n3_; have HL148_2 := n4_; have HL148_3 := n5_; have BK143 := n6_; have BK144 := n7_; have HR148_2 := n8_; have HR148_3 := n9_; have HB := n10_; have BK149 := n11_; have GW149 := n12_; have GE149 := n13_; have NB143_149 := n14_; have NB149_143 := n15_; have NB144_149 := n16_; have NB149_144 := n17_; clear n0_ n1_ n2_ n3_ n4_ n5_ n6_ n7_ n8_ n9_ n10_ n11_ n12_ n13_ n14_ n15_ n16_ n17_; clear hb hbox hg; have hnb22 := NB149_143.out; have hnc22 := NB143_149.out; have hnb23 := NB149_144.out; have hnc23 := NB144_149.out; have hcz24_0 : w21.cell? ⟨gb149, 0, none⟩ = some (.int .u8 0) := (blk_cell BK149.out 0).trans rfl; have hcz24_1 : w21.cell? ⟨gb149, 1, none⟩ = some (.string (⟨#[]⟩ : ByteArray)) := (blk_cell BK149.out 1).trans rfl; have hcz24_2 : w21.cell? ⟨gb149, 2, none⟩ = some (.slice none 0 0) := (blk_cell BK149.out 2).trans rfl; have hcz24_3 : w21.cell? ⟨gb149, 3, none⟩ = some (.slice none 0 0) := (blk_cell BK149.out 3).trans rfl; have hfz24_0 := blk_frozen BK149.out 0; have hfz24_1 := blk_frozen BK149.out 1; have hfz24_2 := blk_frozen BK149.out 2; have hfz24_3 := blk_frozen BK149.out 3) | ((with_reducible refine gate_store (t := 25) (p := 5) rfl ?_); refine store_event (t := 25) (p := 5) (v := ?vo_w25) (w1 := ((((w21.setCell ⟨gb149, 0, none⟩ (.int .u8 ((rd_T25 l0_2 x20_1).f0))).setCell ⟨gb149, 1, none⟩ (.string ((rd_T25 l0_2 x20_1).f1))).setCell ⟨gb149, 2, none⟩ (.slice A148_2 ((rd_T25 l0_2 x20_1).f2).length c148_2)).setCell ⟨gb149, 3, none⟩ (.slice A148_3 ((rd_T25 l0_2 x20_1).f3).length c148_3))) ?hg ?ho ?hn ?hr ?_; (case ho => rfl); (case hg => rfl); (case hn => rfl); (case hr => first | (go_simp; done) | (go_simp; rfl)); intro w25 hw; have n0_ : Aside0 (Kd.N k25 25 w25 w.heap.size (fun k_ => ((P0_2_ k_ ∨ P0_3_ k_) ∨ w.heap.size ≤ k_) ∧ k_ ≠ gb143 ∧ k_ ≠ gb144 ∧ k_ ≠ gb149) v146 x3_1) := ⟨(by rw [hw]; exact (by (with_reducible repeat (first | apply Kd.N_alloc | apply Kd.N_drewN | apply Kd.N_drew)); exact Kd.N_mono (Kd.N_far (p := ⟨gb149, 3, none⟩) (Kd.N_far (p := ⟨gb149, 2, none⟩) (Kd.N_far (p := ⟨gb149, 1, none⟩) (Kd.N_far (p := ⟨gb149, 0, none⟩) (Kd.N_mono HO_3.out (fun k_ hk => (⟨hk, hk.2⟩ : _ ∧ k_ ≠ gb149))) (fun _ hk => hk.2) (.int .u8 ((rd_T25 l0_2 x20_1).f0))) (fun _ hk => hk.2) (.string ((rd_T25 l0_2 x20_1).f1))) (fun _ hk => hk.2) (.slice A148_2 ((rd_T25 l0_2 x20_1).f2).length c148_2)) (fun _ hk => hk.2) (.slice A148_3 ((rd_T25 l0_2 x20_1).f3).length c148_3)) (fun _ hk => ⟨hk.1.1.1, ⟨hk.1.1.2.1, ⟨hk.1.1.2.2, hk.1.2⟩⟩⟩)))⟩; have n1_ : Aside0 (Kd.V k25 25 w25 w.heap.size (fun k_ => ((P0_2_ k_ ∨ P0_3_ k_) ∨ w.heap.size ≤ k_) ∧ some k_ ≠ (v146 : Value).ownBlock ∧ k_ ≠ gb143 ∧ k_ ≠ gb144 ∧ k_ ≠ gb149) (.slice (some ad148) l0_2.length c0_2) l0_2) := ⟨(by rw [hw]; exact (by (with_reducible repeat (first | apply Kd.V_alloc | apply Kd.V_drewN | apply Kd.V_drew)); exact Kd.V_mono (Kd.V_far (p := ⟨gb149, 3, none⟩) (Kd.V_far (p := ⟨gb149, 2, none⟩) (Kd.V_far (p := ⟨gb149, 1, none⟩) (Kd.V_far (p := ⟨gb149, 0, none⟩) (Kd.V_mono HO_18.out (fun k_ hk => (⟨hk, hk.2⟩ : _ ∧ k_ ≠ gb149))) (fun _ hk => hk.2) (.int .u8 ((rd_T25 l0_2 x20_1).f0))) (fun _ hk => hk.2) (.string ((rd_T25 l0_2 x20_1).f1))) (fun _ hk => hk.2) (.slice A148_2 ((rd_T25 l0_2 x20_1).f2).length c148_2)) (fun _ hk => hk.2) (.slice A148_3 ((rd_T25 l0_2 x20_1).f3).length c148_3)) (fun _ hk => ⟨hk.1.1.1, ⟨hk.1.1.2.1, ⟨hk.1.1.2.2.1, ⟨hk.1.1.2.2.2, hk.1.2⟩⟩⟩⟩)))⟩; have n2_ : Aside0 (Kd.V k25 25 w25 w.heap.size (fun k_ => ((P0_2_ k_ ∨ P0_3_ k_) ∨ w.heap.size ≤ k_) ∧ some k_ ≠ (v146 : Value).ownBlock ∧ k_ ≠ gb143 ∧ k_ ≠ gb144 ∧ k_ ≠ gb149) u144002 x144002_1) := ⟨(by rw [hw]; exact (by (with_reducible repeat (first | apply Kd.V_alloc | apply Kd.V_drewN | apply Kd.V_drew)); exact Kd.V_mono (Kd.V_far (p := ⟨gb149, 3, none⟩) (Kd.V_far (p := ⟨gb149, 2, none⟩) (Kd.V_far (p := ⟨gb149, 1, none⟩) (Kd.V_far (p := ⟨gb149, 0, none⟩) (Kd.V_mono HO_144002.out (fun k_ hk => (⟨hk, hk.2⟩ : _ ∧ k_ ≠ gb149))) (fun _ hk => hk.2) (.int .u8 ((rd_T25 l0_2 x20_1).f0))) (fun _ hk => hk.2) (.string ((rd_T25 l0_2 x20_1).f1))) (fun _ hk => hk.2) (.slice A148_2 ((rd_T25 l0_2 x20_1).f2).length c148_2)) (fun _ hk => hk.2) (.slice A148_3 ((rd_T25 l0_2 x20_1).f3).length c148_3)) (fun _ hk => ⟨hk.1.1.1, ⟨hk.1.1.2.1, ⟨hk.1.1.2.2.1, ⟨hk.1.1.2.2.2, hk.1.2⟩⟩⟩⟩)))⟩; have n3_ : Aside0 (Kd.V k32 32 w25 w.heap.size (fun k_ => ((P0_2_ k_ ∨ P0_3_ k_) ∨ w.heap.size ≤ k_) ∧ some k_ ≠ (v146 : Value).ownBlock ∧ k_ ≠ gb143 ∧ k_ ≠ gb144 ∧ k_ ≠ gb149) u144003 x144003_1) := ⟨(by rw [hw]; exact (by (with_reducible repeat (first | apply Kd.V_alloc | apply Kd.V_drewN | apply Kd.V_drew)); exact Kd.V_mono (Kd.V_far (p := ⟨gb149, 3, none⟩) (Kd.V_far (p := ⟨gb149, 2, none⟩) (Kd.V_far (p := ⟨gb149, 1, none⟩) (Kd.V_far (p := ⟨gb149, 0, none⟩) (Kd.V_mono HO_144003.out (fun k_ hk => (⟨hk, hk.2⟩ : _ ∧ k_ ≠ gb149))) (fun _ hk => hk.2) (.int .u8 ((rd_T25 l0_2 x20_1).f0))) (fun _ hk => hk.2) (.string ((rd_T25 l0_2 x20_1).f1))) (fun _ hk => hk.2) (.slice A148_2 ((rd_T25 l0_2 x20_1).f2).length c148_2)) (fun _ hk => hk.2) (.slice A148_3 ((rd_T25 l0_2 x20_1).f3).length c148_3)) (fun _ hk => ⟨hk.1.1.1, ⟨hk.1.1.2.1, ⟨hk.1.1.2.2.1, ⟨hk.1.1.2.2.2, hk.1.2⟩⟩⟩⟩)))⟩; have n4_ : Aside0 (Kd.V k25 25 w25 w.heap.size (fun k_ => ((P0_2_ k_ ∨ P0_3_ k_) ∨ w.heap.size ≤ k_) ∧ some k_ ≠ (v146 : Value).ownBlock ∧ k_ ≠ gb143 ∧ k_ ≠ gb144 ∧ k_ ≠ gb149) (.slice A148_2 ((rd_T25 l0_2 x20_1).f2).length c148_2) ((rd_T25 l0_2 x20_1).f2)) := ⟨(by rw [hw]; exact (by (with_reducible repeat (first | apply Kd.V_alloc | apply Kd.V_drewN | apply Kd.V_drew)); exact Kd.V_mono (Kd.V_far (p := ⟨gb149, 3, none⟩) (Kd.V_far (p := ⟨gb149, 2, none⟩) (Kd.V_far (p := ⟨gb149, 1, none⟩) (Kd.V_far (p := ⟨gb149, 0, none⟩) (Kd.V_mono HL148_2.out (fun k_ hk => (⟨hk, hk.2⟩ : _ ∧ k_ ≠ gb149))) (fun _ hk => hk.2) (.int .u8 ((rd_T25 l0_2 x20_1).f0))) (fun _ hk => hk.2) (.string ((rd_T25 l0_2 x20_1).f1))) (fun _ hk => hk.2) (.slice A148_2 ((rd_T25 l0_2 x20_1).f2).length c148_2)) (fun _ hk => hk.2) (.slice A148_3 ((rd_T25 l0_2 x20_1).f3).length c148_3)) (fun _ hk => ⟨hk.1.1.1, ⟨hk.1.1.2.1, ⟨hk.1.1.2.2.1, ⟨hk.1.1.2.2.2, hk.1.2⟩⟩⟩⟩)))⟩; have n5_ : Aside0 (Kd.V k32 32 w25 w.heap.size (fun k_ => ((P0_2_ k_ ∨ P0_3_ k_) ∨ w.heap.size ≤ k_) ∧ some k_ ≠ (v146 : Value).ownBlock ∧ k_ ≠ gb143 ∧ k_ ≠ gb144 ∧ k_ ≠ gb149) (.slice A148_3 ((rd_T25 l0_2 x20_1).f3).length c148_3) ((rd_T25 l0_2 x20_1).f3)) := ⟨(by rw [hw]; exact (by (with_reducible repeat (first | apply Kd.V_alloc | apply Kd.V_drewN | apply Kd.V_drew)); exact Kd.V_mono (Kd.V_far (p := ⟨gb149, 3, none⟩) (Kd.V_far (p := ⟨gb149, 2, none⟩) (Kd.V_far (p := ⟨gb149, 1, none⟩) (Kd.V_far (p := ⟨gb149, 0, none⟩) (Kd.V_mono HL148_3.out (fun k_ hk => (⟨hk, hk.2⟩ : _ ∧ k_ ≠ gb149))) (fun _ hk => hk.2) (.int .u8 ((rd_T25 l0_2 x20_1).f0))) (fun _ hk => hk.2) (.string ((rd_T25 l0_2 x20_1).f1))) (fun _ hk => hk.2) (.slice A148_2 ((rd_T25 l0_2 x20_1).f2).length c148_2)) (fun _ hk => hk.2) (.slice A148_3 ((rd_T25 l0_2 x20_1).f3).length c148_3)) (fun _ hk => ⟨hk.1.1.1, ⟨hk.1.1.2.1, ⟨hk.1.1.2.2.1, ⟨hk.1.1.2.2.2, hk.1.2⟩⟩⟩⟩)))⟩; have n6_ : Aside0 (w25.heap[gb143]? = some (.cells #[.int .u8 x144000_1, .string x144001_1, u144002, u144003] 25 (0, 0))) := ⟨(by rw [hw]; exact (by (with_reducible repeat (first | refine blk_drewN ?_ _ | refine blk_drew ?_ | refine blk_alloc ?_ _)); refine blk_far ?_ NB143_149.out _; (with_reducible repeat (first | refine blk_drewN ?_ _ | refine blk_drew ?_ | refine blk_alloc ?_ _)); refine blk_far ?_ NB143_149.out _; (with_reducible repeat (first | refine blk_drewN ?_ _ | refine blk_drew ?_ | refine blk_alloc ?_ _)); refine blk_far ?_ NB143_149.out _; (with_reducible repeat (first | refine blk_drewN ?_ _ | refine blk_drew ?_ | refine blk_alloc ?_ _)); refine blk_far ?_ NB143_149.out _; (with_reducible repeat (first | refine blk_drewN ?_ _ | refine blk_drew ?_ | refine blk_alloc ?_ _)); exact BK143.out))⟩; have n7_ : Aside0 (w25.heap[gb144]? = some (.cells #[.int .u8 x145000_1, .string x145001_1, .slice none 0 0, .slice none 0 0] 25 (0, 0))) := ⟨(by rw [hw]; exact (by (with_reducible repeat (first | refine blk_drewN ?_ _ | refine blk_drew ?_ | refine blk_alloc ?_ _)); refine blk_far ?_ NB144_149.out _; (with_reducible repeat (first | refine blk_drewN ?_ _ | refine blk_drew ?_ | refine blk_alloc ?_ _)); refine blk_far ?_ NB144_149.out _; (with_reducible repeat (first | refine blk_drewN ?_ _ | refine blk_drew ?_ | refine blk_alloc ?_ _)); refine blk_far ?_ NB144_149.out _; (with_reducible repeat (first | refine blk_drewN ?_ _ | refine blk_drew ?_ | refine blk_alloc ?_ _)); refine blk_far ?_ NB144_149.out _; (with_reducible repeat (first | refine blk_drewN ?_ _ | refine blk_drew ?_ | refine blk_alloc ?_ _)); exact BK144.out))⟩; have n8_ : Aside0 (w25.heap[gb149]? = some (.cells #[.int .u8 ((rd_T25 l0_2 x20_1).f0), .string ((rd_T25 l0_2 x20_1).f1), .slice A148_2 ((rd_T25 l0_2 x20_1).f2).length c148_2, .slice A148_3 ((rd_T25 l0_2 x20_1).f3).length c148_3] 25 (0, 0))) := ⟨(by rw [hw]; exact (by (with_reducible repeat (first | refine blk_drewN ?_ _ | refine blk_drew ?_ | refine blk_alloc ?_ _)); refine blk_put (cs := #[.int .u8 ((rd_T25 l0_2 x20_1).f0), .string ((rd_T25 l0_2 x20_1).f1), .slice A148_2 ((rd_T25 l0_2 x20_1).f2).length c148_2, .slice none 0 0]) ?_ 3 _ rfl; (with_reducible repeat (first | refine blk_drewN ?_ _ | refine blk_drew ?_ | refine blk_alloc ?_ _)); refine blk_put (cs := #[.int .u8 ((rd_T25 l0_2 x20_1).f0), .string ((rd_T25 l0_2 x20_1).f1), .slice none 0 0, .slice none 0 0]) ?_ 2 _ rfl; (with_reducible repeat (first | refine blk_drewN ?_ _ | refine blk_drew ?_ | refine blk_alloc ?_ _)); refine blk_put (cs := #[.int .u8 ((rd_T25 l0_2 x20_1).f0), .string (⟨#[]⟩ : ByteArray), .slice none 0 0, .slice none 0 0]) ?_ 1 _ rfl; (with_reducible repeat (first | refine blk_drewN ?_ _ | refine blk_drew ?_ | refine blk_alloc ?_ _)); refine blk_put (cs := #[.int .u8 0, .string (⟨#[]⟩ : ByteArray), .slice none 0 0, .slice none 0 0]) ?_ 0 _ rfl; (with_reducible repeat (first | refine blk_drewN ?_ _ | refine blk_drew ?_ | refine blk_alloc ?_ _)); exact BK149.out))⟩; have n9_ : Aside0 (Below w.heap.size w w25) := ⟨(by rw [hw]; exact (by repeat (first | (with_reducible first | exact HB.out | apply below_alloc | apply pw_below_drewN | apply below_drew1 | refine below_set ?_ GE143.out | refine below_set ?_ GE144.out | refine below_set ?_ GE149.out) | exact HB.out)))⟩; clear hw; clear HO_3; clear HO_18; clear HO_144002; clear HO_144003; clear HL148_2; clear HL148_3; clear BK143; clear BK144; clear BK149; clear HB; have HO_3 := n0_; have HO_18 := n1_; have HO_144002 := n2_; have HO_144003 := n3_; have HL148_2 := n4_; have HL148_3 := n5_; have BK143 := n6_; have BK144 := n7_; have BK149 := n8_; have HB := n9_; clear n0_ n1_ n2_ n3_ n4_ n5_ n6_ n7_ n8_ n9_; have hcz26_0 : w25.cell? ⟨gb149, 0, none⟩ = some (.int .u8 ((rd_T25 l0_2 x20_1).f0)) := (blk_cell BK149.out 0).trans rfl; have hcz26_1 : w25.cell? ⟨gb149, 1, none⟩ = some (.string ((rd_T25 l0_2 x20_1).f1)) := (blk_cell BK149.out 1).trans rfl; have hcz26_2 : w25.cell? ⟨gb149, 2, none⟩ = some (.slice A148_2 ((rd_T25 l0_2 x20_1).f2).length c148_2) := (blk_cell BK149.out 2).trans rfl; have hcz26_3 : w25.cell? ⟨gb149, 3, none⟩ = some (.slice A148_3 ((rd_T25 l0_2 x20_1).f3).length c148_3) := (blk_cell BK149.out 3).trans rfl; have hfz26_0 := blk_frozen BK149.out 0; have hfz26_1 := blk_frozen BK149.out 1; have hfz26_2 := blk_frozen BK149.out 2; have hfz26_3 := blk_frozen BK149.out 3) | ((with_reducible refine gate_callee (f := 10) rfl ?_); refine goesL_ (some 28) rfl rfl Try.func10 (by kernel_rfl) rfl #[.agg #[.int .u8 ((rd_T25 l0_2 x20_1).f0), .string ((rd_T25 l0_2 x20_1).f1), .slice A148_2 ((rd_T25 l0_2 x20_1).f2).length c148_2, .slice A148_3 ((rd_T25 l0_2 x20_1).f3).length c148_3]] rfl (by (try simp only [List.map_toArray, List.map_cons, List.map_nil]); first | done | rfl | (simp only [List.length_drop, List.length_take]; rfl)) ?_; (with_reducible refine (ih k1 (by have := HK1.out; omega) ((rd_T25 l0_2 x20_1).f0) ((rd_T25 l0_2 x20_1).f1) (fun k_ => (((P0_2_ k_ ∨ P0_3_ k_) ∨ w.heap.size ≤ k_) ∧ (some k_ ≠ (v146 : Value).ownBlock ∧ (k_ ≠ gb143 ∧ (k_ ≠ gb144 ∧ k_ ≠ gb149))))) _ _ ((rd_T25 l0_2 x20_1).f2) (fun k_ => (((P0_2_ k_ ∨ P0_3_ k_) ∨ w.heap.size ≤ k_) ∧ (some k_ ≠ (v146 : Value).ownBlock ∧ (k_ ≠ gb143 ∧ (k_ ≠ gb144 ∧ k_ ≠ gb149))))) _ _ ((rd_T25 l0_2 x20_1).f3) t150 t151 t152 t155 _ ?side1 ?side2 A18.out).mono ?_); (case side1 => exact HL148_2.out); (case side2 => exact HL148_3.out); rintro e w27 ⟨v153, v156, rfl, ho0, ho1, hb⟩; replace ho0 := Kd.VW_fst ho0; replace ho1 := Kd.VW_fst ho1; obtain ⟨Av153, cv153, rfl⟩ := Kd.V_slice ho0; obtain ⟨Av156, cv156, rfl⟩ := Kd.V_slice ho1; refine ⟨_, rfl, ?_⟩; have n0_ := Aside0.mk (Kd.N_below (by (with_reducible repeat (first | apply Kd.N_alloc | apply Kd.N_drewN | apply Kd.N_drew)); exact HO_3.out) hb); have n1_ := Aside0.mk (Kd.V_below (by (with_reducible repeat (first | apply Kd.V_alloc | apply Kd.V_drewN | apply Kd.V_drew)); exact HO_18.out) hb); have n2_ := Aside0.mk (Kd.V_below (by (with_reducible repeat (first | apply Kd.V_alloc | apply Kd.V_drewN | apply Kd.V_drew)); exact HO_144002.out) hb); have n3_ := Aside0.mk (Kd.V_below (by (with_reducible repeat (first | apply Kd.V_alloc | apply Kd.V_drewN | apply Kd.V_drew)); exact HO_144003.out) hb); have n4_ := Aside0.mk (Kd.V_below (by (with_reducible repeat (first | apply Kd.V_alloc | apply Kd.V_drewN | apply Kd.V_drew)); exact HL148_2.out) hb); have n5_ := Aside0.mk (Kd.V_below (by (with_reducible repeat (first | apply Kd.V_alloc | apply Kd.V_drewN | apply Kd.V_drew)); exact HL148_3.out) hb); have n6_ := Aside0.mk (Kd.V_lower (Kd.V_mono (ok' := fun k_ => ((P0_2_ k_ ∨ P0_3_ k_) ∨ w.heap.size ≤ k_) ∧ some k_ ≠ (v146 : Value).ownBlock ∧ k_ ≠ gb143 ∧ k_ ≠ gb144 ∧ k_ ≠ gb149) ho0 (fun k_ hk_ => ⟨Or.elim hk_ (fun hs_ => Or.elim hs_ (fun hs_ => hs_.1) (fun hs_ => hs_.1)) (fun hn_ => (.inr (Nat.le_trans (below_size (by repeat (first | (with_reducible first | exact HB.out | apply below_alloc | apply pw_below_drewN | apply below_drew1 | refine below_set ?_ GE143.out | refine below_set ?_ GE144.out | refine below_set ?_ GE149.out) | exact HB.out))) hn_))), Or.elim hk_ (fun hs_ => Or.elim hs_ (fun hs_ => hs_.2.1) (fun hs_ => hs_.2.1)) (fun hn_ => (Kd.fresh' (Kd.N_lt (by (with_reducible repeat (first | apply Kd.N_alloc | apply Kd.N_drewN | apply Kd.N_drew)); exact HO_3.out)) k_ hn_)), Or.elim hk_ (fun hs_ => Or.elim hs_ (fun hs_ => hs_.2.2.1) (fun hs_ => hs_.2.2.1)) (fun hn_ => (Kd.freshB (g := gb143) (o := .cells #[.int .u8 x144000_1, .string x144001_1, u144002, u144003] 25 (0, 0)) (by (with_reducible repeat (first | refine blk_drewN ?_ _ | refine blk_drew ?_ | refine blk_alloc ?_ _)); exact BK143.out) k_ hn_)), Or.elim hk_ (fun hs_ => Or.elim hs_ (fun hs_ => hs_.2.2.2.1) (fun hs_ => hs_.2.2.2.1)) (fun hn_ => (Kd.freshB (g := gb144) (o := .cells #[.int .u8 x145000_1, .string x145001_1, .slice none 0 0, .slice none 0 0] 25 (0, 0)) (by (with_reducible repeat (first | refine blk_drewN ?_ _ | refine blk_drew ?_ | refine blk_alloc ?_ _)); exact BK144.out) k_ hn_)), Or.elim hk_ (fun hs_ => Or.elim hs_ (fun hs_ => hs_.2.2.2.2) (fun hs_ => hs_.2.2.2.2)) (fun hn_ => (Kd.freshB (g := gb149) (o := .cells #[.int .u8 ((rd_T25 l0_2 x20_1).f0), .string ((rd_T25 l0_2 x20_1).f1), .slice A148_2 ((rd_T25 l0_2 x20_1).f2).length c148_2, .slice A148_3 ((rd_T25 l0_2 x20_1).f3).length c148_3] 25 (0, 0)) (by (with_reducible repeat (first | refine blk_drewN ?_ _ | refine blk_drew ?_ | refine blk_alloc ?_ _)); exact BK149.out) k_ hn_))⟩)) (below_size (by repeat (first | (with_reducible first | exact HB.out | apply below_alloc | apply pw_below_drewN | apply below_drew1 | refine below_set ?_ GE143.out | refine below_set ?_ GE144.out | refine below_set ?_ GE149.out) | exact HB.out)))); have n7_ := Aside0.mk (Kd.V_lower (Kd.V_mono (ok' := fun k_ => ((P0_2_ k_ ∨ P0_3_ k_) ∨ w.heap.size ≤ k_) ∧ some k_ ≠ (v146 : Value).ownBlock ∧ k_ ≠ gb143 ∧ k_ ≠ gb144 ∧ k_ ≠ gb149) ho1 (fun k_ hk_ => ⟨Or.elim hk_ (fun hs_ => Or.elim hs_ (fun hs_ => hs_.1) (fun hs_ => hs_.1)) (fun hn_ => (.inr (Nat.le_trans (below_size (by repeat (first | (with_reducible first | exact HB.out | apply below_alloc | apply pw_below_drewN | apply below_drew1 | refine below_set ?_ GE143.out | refine below_set ?_ GE144.out | refine below_set ?_ GE149.out) | exact HB.out))) hn_))), Or.elim hk_ (fun hs_ => Or.elim hs_ (fun hs_ => hs_.2.1) (fun hs_ => hs_.2.1)) (fun hn_ => (Kd.fresh' (Kd.N_lt (by (with_reducible repeat (first | apply Kd.N_alloc | apply Kd.N_drewN | apply Kd.N_drew)); exact HO_3.out)) k_ hn_)), Or.elim hk_ (fun hs_ => Or.elim hs_ (fun hs_ => hs_.2.2.1) (fun hs_ => hs_.2.2.1)) (fun hn_ => (Kd.freshB (g := gb143) (o := .cells #[.int .u8 x144000_1, .string x144001_1, u144002, u144003] 25 (0, 0)) (by (with_reducible repeat (first | refine blk_drewN ?_ _ | refine blk_drew ?_ | refine blk_alloc ?_ _)); exact BK143.out) k_ hn_)), Or.elim hk_ (fun hs_ => Or.elim hs_ (fun hs_ => hs_.2.2.2.1) (fun hs_ => hs_.2.2.2.1)) (fun hn_ => (Kd.freshB (g := gb144) (o := .cells #[.int .u8 x145000_1, .string x145001_1, .slice none 0 0, .slice none 0 0] 25 (0, 0)) (by (with_reducible repeat (first | refine blk_drewN ?_ _ | refine blk_drew ?_ | refine blk_alloc ?_ _)); exact BK144.out) k_ hn_)), Or.elim hk_ (fun hs_ => Or.elim hs_ (fun hs_ => hs_.2.2.2.2) (fun hs_ => hs_.2.2.2.2)) (fun hn_ => (Kd.freshB (g := gb149) (o := .cells #[.int .u8 ((rd_T25 l0_2 x20_1).f0), .string ((rd_T25 l0_2 x20_1).f1), .slice A148_2 ((rd_T25 l0_2 x20_1).f2).length c148_2, .slice A148_3 ((rd_T25 l0_2 x20_1).f3).length c148_3] 25 (0, 0)) (by (with_reducible repeat (first | refine blk_drewN ?_ _ | refine blk_drew ?_ | refine blk_alloc ?_ _)); exact BK149.out) k_ hn_))⟩)) (below_size (by repeat (first | (with_reducible first | exact HB.out | apply below_alloc | apply pw_below_drewN | apply below_drew1 | refine below_set ?_ GE143.out | refine below_set ?_ GE144.out | refine below_set ?_ GE149.out) | exact HB.out)))); have n8_ := Aside0.mk (blk_below (g := gb143) (o := .cells #[.int .u8 x144000_1, .string x144001_1, u144002, u144003] 25 (0, 0)) (by (with_reducible repeat (first | refine blk_drewN ?_ _ | refine blk_drew ?_ | refine blk_alloc ?_ _)); exact BK143.out) hb); have n9_ := Aside0.mk (blk_below (g := gb144) (o := .cells #[.int .u8 x145000_1, .string x145001_1, .slice none 0 0, .slice none 0 0] 25 (0, 0)) (by (with_reducible repeat (first | refine blk_drewN ?_ _ | refine blk_drew ?_ | refine blk_alloc ?_ _)); exact BK144.out) hb); have n10_ := Aside0.mk (Kd.V_reads' n4_.out).2.2; have n11_ := Aside0.mk (Kd.V_reads' n5_.out).2.2; have n12_ := Aside0.mk (blk_below (g := gb149) (o := .cells #[.int .u8 ((rd_T25 l0_2 x20_1).f0), .string ((rd_T25 l0_2 x20_1).f1), .slice A148_2 ((rd_T25 l0_2 x20_1).f2).length c148_2, .slice A148_3 ((rd_T25 l0_2 x20_1).f3).length c148_3] 25 (0, 0)) (by (with_reducible repeat (first | refine blk_drewN ?_ _ | refine blk_drew ?_ | refine blk_alloc ?_ _)); exact BK149.out) hb); have n13_ := Aside0.mk (below_step (by repeat (first | (with_reducible first | exact HB.out | apply below_alloc | apply pw_below_drewN | apply below_drew1 | refine below_set ?_ GE143.out | refine below_set ?_ GE144.out | refine below_set ?_ GE149.out) | exact HB.out)) hb); clear HO_3; clear HO_18; clear HO_144002; clear HO_144003; clear HL148_2; clear HL148_3; clear BK143; clear BK144; clear HR148_2; clear HR148_3; clear BK149; clear HB; have HO_3 := n0_; have HO_18 := n1_; have HO_144002 := n2_; have HO_144003 := n3_; have HL148_2 := n4_; have HL148_3 := n5_; have HO154 := n6_; have HO157 := n7_; have BK143 := n8_; have BK144 := n9_; have HR148_2 := n10_; have HR148_3 := n11_; have BK149 := n12_; have HB := n13_; clear n0_ n1_ n2_ n3_ n4_ n5_ n6_ n7_ n8_ n9_ n10_ n11_ n12_ n13_; (try clear hb); (try clear hb2); (try clear hk); (try clear hi); (try clear ho0); (try clear ho1); have p20 : 0 ≤ (x20_1 : Int) := of_decide_eq_true (by first | (with_reducible assumption) | assumption); have q20 : (x20_1 : Int) < ((x3_1.length : Int) : Int) := of_decide_eq_true (by first | (with_reducible assumption) | assumption); obtain ⟨go20, co20, eo20, gb20, gl20, cl20, HG20⟩ := Kd.N_form HO_3.out (by omega); (first | cases eo20 | (injection eo20 with ea_ en_ ec_; (first | subst ea_ | (injection ea_ with ea_; subst ea_)); subst ec_; clear en_)); have GB20 := Aside0.mk gb20; have GG20 := Aside0.mk HG20; clear gb20 gl20 HG20; obtain ⟨ce20, hcl20, hM20, hcc20, hfr20⟩ := Kd.N_elem HO_3.out z25 (x20_1 : Int) p20 q20; obtain ⟨ua20_2, uc20_2, ua20_3, uc20_3, rfl, ul20_2, ge20_2, ul20_3, ge20_3⟩ := k25_openF hM20; have hx20_0 : w27.cell? ⟨go20, (x20_1 : Int).toNat * 4, none⟩ = some (.int .u8 ((rd_T25 x3_1 x20_1).f0)) := hcc20 0 _ rfl; have hx20_1 : w27.cell? ⟨go20, (x20_1 : Int).toNat * 4 + 1, none⟩ = some (.string ((rd_T25 x3_1 x20_1).f1)) := hcc20 1 _ rfl; have hx20_2 : w27.cell? ⟨go20, (x20_1 : Int).toNat * 4 + 2, none⟩ = some (.slice ua20_2 ((rd_T25 x3_1 x20_1).f2).length uc20_2) := hcc20 2 _ rfl; have hx20_3 : w27.cell? ⟨go20, (x20_1 : Int).toNat * 4 + 3, none⟩ = some (.slice ua20_3 ((rd_T25 x3_1 x20_1).f3).length uc20_3) := hcc20 3 _ rfl; have hf20_0 : w27.frozen? ⟨go20, (x20_1 : Int).toNat * 4, none⟩ = false := hfr20 0; have hf20_1 : w27.frozen? ⟨go20, (x20_1 : Int).toNat * 4 + 1, none⟩ = false := hfr20 1; have hf20_2 : w27.frozen? ⟨go20, (x20_1 : Int).toNat * 4 + 2, none⟩ = false := hfr20 2; have hf20_3 : w27.frozen? ⟨go20, (x20_1 : Int).toNat * 4 + 3, none⟩ = false := hfr20 3; clear hcl20 hcc20 hfr20 hM20; replace p20 := eq_true p20; replace q20 := eq_true q20; have HX28 := Aside0.mk (show Kd.N k25 25 w27 w.heap.size (fun k_ => ((P0_2_ k_ ∨ P0_3_ k_) ∨ w.heap.size ≤ k_) ∧ k_ ≠ gb143 ∧ k_ ≠ gb144 ∧ k_ ≠ gb149) (.slice (some ⟨go20, 0, none⟩) x3_1.length co20) x3_1 from (by (with_reducible repeat (first | apply Kd.N_alloc | apply Kd.N_drewN | apply Kd.N_drew)); exact HO_3.out)); obtain ⟨ce28, hcl28, hM28, hcc28, hfr28⟩ := Kd.N_elem HX28.out z25 (x20_1 : Int) (of_decide_eq_true (by first | (with_reducible assumption) | assumption)) (by have h_ : (x20_1 : Int) < ((x3_1.length : Int) : Int) := of_decide_eq_true (by first | (with_reducible assumption) | assumption); first | exact h_ | (have e_ := (Kd.N_reads' HO_3.out).1; omega) | simpa using h_); obtain ⟨ua28_2, uc28_2, ua28_3, uc28_3, rfl, ul28_2, ge28_2, ul28_3, ge28_3⟩ := k25_openF hM28; have HP28 := Kd.N_seg HX28.out (x20_1 : Int) (of_decide_eq_true (by first | (with_reducible assumption) | assumption)) (by have h_ : (x20_1 : Int) < ((x3_1.length : Int) : Int) := of_decide_eq_true (by first | (with_reducible assumption) | assumption); first | exact h_ | (have e_ := (Kd.N_reads' HO_3.out).1; omega) | simpa using h_) (seg := [.int .u8 t150, .string t151, (.slice Av153 t152.length cv153), (.slice Av156 t155.length cv156)]) (j := 0) hcl28 hcc28 (show 4 ≤ 4 from by decide) (x' := (⟨t150, t151, t152, t155⟩ : S25)) (k25_mkFV (⟨t150, t151, t152, t155⟩ : S25) (Kd.V_mono (ok' := (fun k_ => ((fun k_ => ((P0_2_ k_ ∨ P0_3_ k_) ∨ w.heap.size ≤ k_) ∧ k_ ≠ gb143 ∧ k_ ≠ gb144 ∧ k_ ≠ gb149)) k_ ∧ k_ ≠ go20)) (HO154.out) (fun k_ hk => ⟨⟨hk.1, ⟨hk.2.2.1, ⟨hk.2.2.2.1, hk.2.2.2.2⟩⟩⟩, fun e_ => (hk.2.1) (by rw [e_]; rfl)⟩)) (Kd.V_mono (ok' := (fun k_ => ((fun k_ => ((P0_2_ k_ ∨ P0_3_ k_) ∨ w.heap.size ≤ k_) ∧ k_ ≠ gb143 ∧ k_ ≠ gb144 ∧ k_ ≠ gb149)) k_ ∧ k_ ≠ go20)) (HO157.out) (fun k_ hk => ⟨⟨hk.1, ⟨hk.2.2.1, ⟨hk.2.2.2.1, hk.2.2.2.2⟩⟩⟩, fun e_ => (hk.2.1) (by rw [e_]; rfl)⟩))) (fun _ hk => hk); have hx28_0 := hcc28 0 _ rfl; (try simp only [show (k25).sz = 4 from rfl, Nat.mul_one, Nat.add_zero] at hx28_0); have hf28_0 := hfr28 0; (try simp only [show (k25).sz = 4 from rfl, Nat.mul_one, Nat.add_zero] at hf28_0); have hx28_1 := hcc28 1 _ rfl; (try simp only [show (k25).sz = 4 from rfl, Nat.mul_one, Nat.add_zero] at hx28_1); have hf28_1 := hfr28 1; (try simp only [show (k25).sz = 4 from rfl, Nat.mul_one, Nat.add_zero] at hf28_1); have hx28_2 := hcc28 2 _ rfl; (try simp only [show (k25).sz = 4 from rfl, Nat.mul_one, Nat.add_zero] at hx28_2); have hf28_2 := hfr28 2; (try simp only [show (k25).sz = 4 from rfl, Nat.mul_one, Nat.add_zero] at hf28_2); have hx28_3 := hcc28 3 _ rfl; (try simp only [show (k25).sz = 4 from rfl, Nat.mul_one, Nat.add_zero] at hx28_3); have hf28_3 := hfr28 3; (try simp only [show (k25).sz = 4 from rfl, Nat.mul_one, Nat.add_zero] at hf28_3); clear hcl28 hcc28 hfr28 hM28) | ((with_reducible refine gate_store (t := 25) (p := 29) rfl ?_); refine store_event (t := 25) (p := 29) (v := ?vo_w29) (w1 := ((((w27.setCell ⟨go20, (x20_1 : Int).toNat * 4, none⟩ (.int .u8 t150)).setCell ⟨go20, (x20_1 : Int).toNat * 4 + 1, none⟩ (.string t151)).setCell ⟨go20, (x20_1 : Int).toNat * 4 + 2, none⟩ ((.slice Av153 t152.length cv153))).setCell ⟨go20, (x20_1 : Int).toNat * 4 + 3, none⟩ ((.slice Av156 t155.length cv156)))) ?hg ?ho ?hn ?hr ?_; (case ho => rfl); (case hg => rfl); (case hn => rfl); (case hr => first | (go_simp; done) | (go_simp; rfl)); intro w29 hw; have hg : w27.grownBy w29 (some go20) := (by rw [hw]; exact HP28.2); have hp_ : Kd.N k25 25 w29 w.heap.size (fun k_ => ((P0_2_ k_ ∨ P0_3_ k_) ∨ w.heap.size ≤ k_) ∧ k_ ≠ gb143 ∧ k_ ≠ gb144 ∧ k_ ≠ gb149) (.slice (some ⟨go20, 0, none⟩) x3_1.length co20) y158 := (by rw [hw, Ny158.out]; exact HP28.1); clear HP28; have n0_ := Aside0.mk (hp_); have n1_ := Aside0.mk (Kd.V_afterv (v := (.slice (some ⟨go20, 0, none⟩) x3_1.length co20)) (v1 := (.slice (some ⟨go20, 0, none⟩) x3_1.length co20)) (ok := (fun k_ => ((P0_2_ k_ ∨ P0_3_ k_) ∨ w.heap.size ≤ k_) ∧ k_ ≠ gb143 ∧ k_ ≠ gb144 ∧ k_ ≠ gb149)) (by (with_reducible repeat (first | apply Kd.V_alloc | apply Kd.V_drewN | apply Kd.V_drew)); exact Kd.V_mono HO_18.out (fun _ hk => ⟨⟨hk.1, ⟨hk.2.2.1, ⟨hk.2.2.2.1, hk.2.2.2.2⟩⟩⟩, hk.2.1⟩)) hg (.inl rfl)); have n2_ := Aside0.mk (Kd.V_afterv (v := (.slice (some ⟨go20, 0, none⟩) x3_1.length co20)) (v1 := (.slice (some ⟨go20, 0, none⟩) x3_1.length co20)) (ok := (fun k_ => ((P0_2_ k_ ∨ P0_3_ k_) ∨ w.heap.size ≤ k_) ∧ k_ ≠ gb143 ∧ k_ ≠ gb144 ∧ k_ ≠ gb149)) (by (with_reducible repeat (first | apply Kd.V_alloc | apply Kd.V_drewN | apply Kd.V_drew)); exact Kd.V_mono HO_144002.out (fun _ hk => ⟨⟨hk.1, ⟨hk.2.2.1, ⟨hk.2.2.2.1, hk.2.2.2.2⟩⟩⟩, hk.2.1⟩)) hg (.inl rfl)); have n3_ := Aside0.mk (Kd.V_afterv (v := (.slice (some ⟨go20, 0, none⟩) x3_1.length co20)) (v1 := (.slice (some ⟨go20, 0, none⟩) x3_1.length co20)) (ok := (fun k_ => ((P0_2_ k_ ∨ P0_3_ k_) ∨ w.heap.size ≤ k_) ∧ k_ ≠ gb143 ∧ k_ ≠ gb144 ∧ k_ ≠ gb149)) (by (with_reducible repeat (first | apply Kd.V_alloc | apply Kd.V_drewN | apply Kd.V_drew)); exact Kd.V_mono HO_144003.out (fun _ hk => ⟨⟨hk.1, ⟨hk.2.2.1, ⟨hk.2.2.2.1, hk.2.2.2.2⟩⟩⟩, hk.2.1⟩)) hg (.inl rfl)); have n4_ := Aside0.mk (blk_grown (g := gb143) (o := .cells #[.int .u8 x144000_1, .string x144001_1, u144002, u144003] 25 (0, 0)) (by (with_reducible repeat (first | refine blk_drewN ?_ _ | refine blk_drew ?_ | refine blk_alloc ?_ _)); exact BK143.out) hg (Kd.N_away HO_3.out (fun _ hk => hk.2.1))); have n5_ := Aside0.mk (blk_grown (g := gb144) (o := .cells #[.int .u8 x145000_1, .string x145001_1, .slice none 0 0, .slice none 0 0] 25 (0, 0)) (by (with_reducible repeat (first | refine blk_drewN ?_ _ | refine blk_drew ?_ | refine blk_alloc ?_ _)); exact BK144.out) hg (Kd.N_away HO_3.out (fun _ hk => hk.2.2.1))); have n6_ := Aside0.mk (Kd.V_afterv (v := (.slice (some ⟨go20, 0, none⟩) x3_1.length co20)) (v1 := (.slice (some ⟨go20, 0, none⟩) x3_1.length co20)) (ok := (fun k_ => ((P0_2_ k_ ∨ P0_3_ k_) ∨ w.heap.size ≤ k_) ∧ k_ ≠ gb143 ∧ k_ ≠ gb144 ∧ k_ ≠ gb149)) (by (with_reducible repeat (first | apply Kd.V_alloc | apply Kd.V_drewN | apply Kd.V_drew)); exact Kd.V_mono HL148_2.out (fun _ hk => ⟨⟨hk.1, ⟨hk.2.2.1, ⟨hk.2.2.2.1, hk.2.2.2.2⟩⟩⟩, hk.2.1⟩)) hg (.inl rfl)); have n7_ := Aside0.mk (Kd.V_afterv (v := (.slice (some ⟨go20, 0, none⟩) x3_1.length co20)) (v1 := (.slice (some ⟨go20, 0, none⟩) x3_1.length co20)) (ok := (fun k_ => ((P0_2_ k_ ∨ P0_3_ k_) ∨ w.heap.size ≤ k_) ∧ k_ ≠ gb143 ∧ k_ ≠ gb144 ∧ k_ ≠ gb149)) (by (with_reducible repeat (first | apply Kd.V_alloc | apply Kd.V_drewN | apply Kd.V_drew)); exact Kd.V_mono HL148_3.out (fun _ hk => ⟨⟨hk.1, ⟨hk.2.2.1, ⟨hk.2.2.2.1, hk.2.2.2.2⟩⟩⟩, hk.2.1⟩)) hg (.inl rfl)); have n8_ := Aside0.mk (blk_grown (g := gb149) (o := .cells #[.int .u8 ((rd_T25 l0_2 x20_1).f0), .string ((rd_T25 l0_2 x20_1).f1), .slice A148_2 ((rd_T25 l0_2 x20_1).f2).length c148_2, .slice A148_3 ((rd_T25 l0_2 x20_1).f3).length c148_3] 25 (0, 0)) (by (with_reducible repeat (first | refine blk_drewN ?_ _ | refine blk_drew ?_ | refine blk_alloc ?_ _)); exact BK149.out) hg (Kd.N_away HO_3.out (fun _ hk => hk.2.2.2))); have n9_ := Aside0.mk (Kd.V_afterv (v := (.slice (some ⟨go20, 0, none⟩) x3_1.length co20)) (v1 := (.slice (some ⟨go20, 0, none⟩) x3_1.length co20)) (ok := (fun k_ => ((P0_2_ k_ ∨ P0_3_ k_) ∨ w.heap.size ≤ k_) ∧ k_ ≠ gb143 ∧ k_ ≠ gb144 ∧ k_ ≠ gb149)) (by (with_reducible repeat (first | apply Kd.V_alloc | apply Kd.V_drewN | apply Kd.V_drew)); exact Kd.V_mono HO154.out (fun _ hk => ⟨⟨hk.1, ⟨hk.2.2.1, ⟨hk.2.2.2.1, hk.2.2.2.2⟩⟩⟩, hk.2.1⟩)) hg (.inl rfl)); have n10_ := Aside0.mk (Kd.V_afterv (v := (.slice (some ⟨go20, 0, none⟩) x3_1.length co20)) (v1 := (.slice (some ⟨go20, 0, none⟩) x3_1.length co20)) (ok := (fun k_ => ((P0_2_ k_ ∨ P0_3_ k_) ∨ w.heap.size ≤ k_) ∧ k_ ≠ gb143 ∧ k_ ≠ gb144 ∧ k_ ≠ gb149)) (by (with_reducible repeat (first | apply Kd.V_alloc | apply Kd.V_drewN | apply Kd.V_drew)); exact Kd.V_mono HO157.out (fun _ hk => ⟨⟨hk.1, ⟨hk.2.2.1, ⟨hk.2.2.2.1, hk.2.2.2.2⟩⟩⟩, hk.2.1⟩)) hg (.inl rfl)); have n11_ := Aside0.mk ((by rw [hw]; exact below_set (below_set (below_set (below_set (HB.out) GB20.out) GB20.out) GB20.out) GB20.out : Below w.heap.size w w29)); clear HO_3; clear HO_18; clear HO_144002; clear HO_144003; clear BK143; clear BK144; clear HL148_2; clear HL148_3; clear BK149; clear HO154; clear HO157; clear HB; have HO_3 := n0_; have HO_18 := n1_; have HO_144002 := n2_; have HO_144003 := n3_; have BK143 := n4_; have BK144 := n5_; have HL148_2 := n6_; have HL148_3 := n7_; have BK149 := n8_; have HO154 := n9_; have HO157 := n10_; have HB := n11_; clear n0_ n1_ n2_ n3_ n4_ n5_ n6_ n7_ n8_ n9_ n10_ n11_; clear hg hw hp_))
                      go_roundg k1
                      case measure => have := HK1.out; omega
                      case rel => exact ⟨(y158), (wrap64 (x20_1 + 1)), (x144000_1), (x144001_1), (x144002_1), (x144003_1), (x145000_1), (x145001_1), (u144002), (u144003), (by first | rfl | (simp; done) | (simp [*]; done)), H', ⟨by have := HK1.out; omega⟩, ⟨by (with_reducible repeat (first | apply Kd.N_alloc | apply Kd.N_drewN | apply Kd.N_drew)); exact Kd.N_mono HO_3.out (fun _ hk => ⟨hk.1, ⟨hk.2.1, hk.2.2.1⟩⟩)⟩, ⟨by (with_reducible repeat (first | apply Kd.V_alloc | apply Kd.V_drewN | apply Kd.V_drew)); exact Kd.V_mono HO_18.out (fun _ hk => ⟨hk.1.1, ⟨hk.2, ⟨hk.1.2.1, hk.1.2.2.1⟩⟩⟩)⟩, ⟨by (with_reducible repeat (first | apply Kd.V_alloc | apply Kd.V_drewN | apply Kd.V_drew)); exact Kd.V_mono HO_144002.out (fun _ hk => ⟨hk.1.1, ⟨hk.2, ⟨hk.1.2.1, hk.1.2.2.1⟩⟩⟩)⟩, ⟨by (with_reducible repeat (first | apply Kd.V_alloc | apply Kd.V_drewN | apply Kd.V_drew)); exact Kd.V_mono HO_144003.out (fun _ hk => ⟨hk.1.1, ⟨hk.2, ⟨hk.1.2.1, hk.1.2.2.1⟩⟩⟩)⟩, ⟨by (with_reducible repeat (first | refine blk_drewN ?_ _ | refine blk_drew ?_ | refine blk_alloc ?_ _)); exact BK143.out⟩, ⟨by (with_reducible repeat (first | refine blk_drewN ?_ _ | refine blk_drew ?_ | refine blk_alloc ?_ _)); exact BK144.out⟩, ⟨by repeat (first | (with_reducible first | exact HB.out | apply below_alloc | apply pw_below_drewN | apply below_drew1 | refine below_set ?_ GE143.out | refine below_set ?_ GE144.out | refine below_set ?_ GE149.out) | exact HB.out)⟩⟩
                    · rw [if_neg c19] at H
                      exact absurd H (by simp)
                  · rw [if_neg c17] at H
                    exact absurd H (by simp)
                · rw [if_neg c16] at H
                  exact absurd H (by simp)
              · rw [if_neg c15] at H
                have c15b0 : decide (x20_1 < (l0_2.length : Int)) = false := decide_eq_false c15
                clear c15
                have H' := Aside0.mk H
                clear H
                obtain ⟨Ao30, co30, eo30⟩ := Kd.N_slice HO_3.out
                subst eo30
                have hnb31 := NB143_144.out
                have hnc31 := NB144_143.out
                have hcz32_0 : wr.cell? ⟨gb143, 0, none⟩ = some (.int .u8 x144000_1) := (blk_cell BK143.out 0).trans rfl
                have hcz32_1 : wr.cell? ⟨gb143, 1, none⟩ = some (.string x144001_1) := (blk_cell BK143.out 1).trans rfl
                have hcz32_2 : wr.cell? ⟨gb143, 2, none⟩ = some (u144002) := (blk_cell BK143.out 2).trans rfl
                have hcz32_3 : wr.cell? ⟨gb143, 3, none⟩ = some (u144003) := (blk_cell BK143.out 3).trans rfl
                have hfz32_0 := blk_frozen BK143.out 0
                have hfz32_1 := blk_frozen BK143.out 1
                have hfz32_2 := blk_frozen BK143.out 2
                have hfz32_3 := blk_frozen BK143.out 3
                go_wp2
                go_meet
                case rel => exact ⟨_, (x144000_1), (x144001_1), (x3_1), (x144003_1), (x145000_1), (x145001_1), (.slice Ao30 x3_1.length co30), (u144003), H', ⟨by have := HK1.out; first | omega | exact Nat.le_refl _⟩, ⟨Kd.N_VW (by (with_reducible repeat (first | apply Kd.N_alloc | apply Kd.N_drewN | apply Kd.N_drew)); exact Kd.N_mono (Kd.N_far (p := ⟨gb143, 2, none⟩) (Kd.N_mono HO_3.out (fun k_ hk => (⟨hk, hk.2.1⟩ : _ ∧ k_ ≠ gb143))) (fun _ hk => hk.2) (.slice Ao30 x3_1.length co30)) (fun _ hk => ⟨hk.1.1, ⟨hk.1.2.1, hk.1.2.2⟩⟩))⟩, ⟨by (with_reducible repeat (first | apply Kd.V_alloc | apply Kd.V_drewN | apply Kd.V_drew)); exact Kd.V_mono (Kd.V_far (p := ⟨gb143, 2, none⟩) (Kd.V_mono HO_144003.out (fun k_ hk => (⟨hk, hk.2.2.1⟩ : _ ∧ k_ ≠ gb143))) (fun _ hk => hk.2) (.slice Ao30 x3_1.length co30)) (fun _ hk => ⟨hk.1.1, ⟨hk.1.2.2.1, hk.1.2.2.2⟩⟩)⟩, ⟨by (with_reducible repeat (first | refine blk_drewN ?_ _ | refine blk_drew ?_ | refine blk_alloc ?_ _)); refine blk_put (cs := #[.int .u8 x144000_1, .string x144001_1, u144002, u144003]) ?_ 2 _ rfl; (with_reducible repeat (first | refine blk_drewN ?_ _ | refine blk_drew ?_ | refine blk_alloc ?_ _)); exact BK143.out⟩, ⟨by (with_reducible repeat (first | refine blk_drewN ?_ _ | refine blk_drew ?_ | refine blk_alloc ?_ _)); refine blk_far ?_ NB144_143.out _; (with_reducible repeat (first | refine blk_drewN ?_ _ | refine blk_drew ?_ | refine blk_alloc ?_ _)); exact BK144.out⟩, ⟨by repeat (first | (with_reducible first | exact HB.out | apply below_alloc | apply pw_below_drewN | apply below_drew1 | refine below_set ?_ GE143.out | refine below_set ?_ GE144.out) | exact HB.out)⟩⟩
        · rw [if_neg c9] at H
          exact absurd H (by simp)
      · rw [if_neg c8] at H
        exact absurd H (by simp)
    · rw [if_neg c7] at H
      have c7b0 : decide (0 < (l0_2.length : Int)) = false := decide_eq_false c7
      have c7b1 : decide (0 < l0_2.length) = false := decide_eq_false (by omega)
      have c7b2 : ¬ (0 < l0_2.length) := of_decide_eq_false c7b1
      clear c7
      (first | rw [c7b0] | (simp only [i64_w, i32_w]; rw [c7b0]) | skip)
      have H' := Aside0.mk H
      clear H
      go_wp2
      go_meet
      case rel => exact ⟨_, (a0_0), (a0_1), (l0_2), (l0_3), (0), ((⟨#[]⟩ : ByteArray)), (.slice A0_2 l0_2.length c0_2), (.slice A0_3 l0_3.length c0_3), H', ⟨by first | omega | exact Nat.le_refl _⟩, ⟨Kd.VW_nil (base := 0) (by (with_reducible repeat (first | apply Kd.V_alloc | apply Kd.V_drewN | apply Kd.V_drew)); exact Kd.V_mono HO0_2.out (fun _ hk => ⟨hk.1.1, ⟨hk.1.2, hk.2⟩⟩)) (by omega)⟩, ⟨by (with_reducible repeat (first | apply Kd.V_alloc | apply Kd.V_drewN | apply Kd.V_drew)); exact Kd.V_mono HO0_3.out (fun _ hk => ⟨hk.1.1, ⟨hk.1.2, hk.2⟩⟩)⟩, ⟨by (with_reducible repeat (first | refine blk_drewN ?_ _ | refine blk_drew ?_ | refine blk_alloc ?_ _)); exact BK143.out⟩, ⟨by (with_reducible repeat (first | refine blk_drewN ?_ _ | refine blk_drew ?_ | refine blk_alloc ?_ _)); exact BK144.out⟩, ⟨by repeat (first | (with_reducible first | exact HB.out | apply below_alloc | apply pw_below_drewN | apply below_drew1 | refine below_set ?_ GE143.out | refine below_set ?_ GE144.out) | exact HB.out)⟩⟩
  case rest =>
    clear HC2
    try clear c1
    try clear p1
    try clear q1
    try clear hx1
    try clear c2
    try clear p2
    try clear q2
    try clear hx2
    try clear hf2
    try clear c3
    try clear c5
    try clear p6
    try clear c7
    try clear c7b0
    try clear c7b1
    try clear c8
    try clear c8b0
    try clear c8b1
    try clear c9
    try clear c9b0
    try clear c9b1
    try clear c10
    try clear c14
    try clear p14
    try clear q14
    try clear hx14
    try clear c15
    try clear c15b0
    try clear c16
    try clear c16b0
    try clear c17
    try clear c17b0
    try clear c19
    try clear c19b0
    try clear c20
    try clear p20
    try clear q20
    try clear hx20
    try clear hf20
    try clear c22
    try clear c23
    try clear c28
    try clear hx28
    try clear hf28
    try clear c31
    try clear hcz11_0
    try clear hcz11_1
    try clear hcz11_2
    try clear hcz11_3
    try clear hcz14_0
    try clear hcz14_1
    try clear hcz14_2
    try clear hcz14_3
    try clear hcz24_0
    try clear hcz24_1
    try clear hcz24_2
    try clear hcz24_3
    try clear hcz26_0
    try clear hcz26_1
    try clear hcz26_2
    try clear hcz26_3
    try clear hcz32_0
    try clear hcz32_1
    try clear hcz32_2
    try clear hcz32_3
    try clear hcz6_0
    try clear hcz6_1
    try clear hcz6_2
    try clear hcz6_3
    try clear hfz11_0
    try clear hfz11_1
    try clear hfz11_2
    try clear hfz11_3
    try clear hfz14_0
    try clear hfz14_1
    try clear hfz14_2
    try clear hfz14_3
    try clear hfz24_0
    try clear hfz24_1
    try clear hfz24_2
    try clear hfz24_3
    try clear hfz26_0
    try clear hfz26_1
    try clear hfz26_2
    try clear hfz26_3
    try clear hfz32_0
    try clear hfz32_1
    try clear hfz32_2
    try clear hfz32_3
    try clear hfz6_0
    try clear hfz6_1
    try clear hfz6_2
    try clear hfz6_3
    try clear hx148_0
    try clear hx148_1
    try clear hx148_2
    try clear hx148_3
    try clear hx20_0
    try clear hx20_1
    try clear hx20_2
    try clear hx20_3
    try clear hx28_0
    try clear hx28_1
    try clear hx28_2
    try clear hx28_3
    try clear p148
    try clear p2
    try clear p20
    try clear q148
    try clear q20
    obtain ⟨kq, x144000_1, x144001_1, x144002_1, x144003_1, x145000_1, x145001_1, u144002, u144003, HA, HJ1, HO_144002, HO_144003, BK143, BK144, HB⟩ := hcut
    cases kq with
    | zero => exact absurd HA.out (by simp [json_twin.j1])
    | succ kj1 =>
      have H := HA.out
      clear HA
      simp only [json_twin.j1] at H
      by_cases c33 : (x144003_1.length : Int) > 0
      · rw [if_pos c33] at H
        have c33b0 : decide (0 < (x144003_1.length : Int)) = true := decide_eq_true c33
        have c33b1 : decide (0 < x144003_1.length) = true := decide_eq_true (by omega)
        have c33b2 : 0 < x144003_1.length := of_decide_eq_true c33b1
        clear c33
        by_cases c34 : 0 ≤ (x144003_1.length : Int)
        · rw [if_pos c34] at H
          have c34b0 := eq_true c34
          have c34b1 : decide (0 ≤ (x144003_1.length : Int)) = true := decide_eq_true c34
          clear c34
          by_cases c35 : ((x144003_1.length : Int) : Int).toNat ≤ 3198579280802
          · rw [if_pos c35] at H
            have c35b0 := eq_true c35
            have c35b1 : decide (((x144003_1.length : Int) : Int).toNat ≤ 3198579280802) = true := decide_eq_true c35
            clear c35
            obtain ⟨y159, hy159⟩ : ∃ y_ : List (S32), y_ = (List.replicate ((x144003_1.length : Int) : Int).toNat z32) := ⟨_, rfl⟩
            replace H : (json_twin.l1 kj1 y159 x144003_1 (x144003_1.length : Int) 0 x144000_1 x144001_1 x144002_1 x144003_1) = some (r1, r2, r3, r4) := by first | (rw [hy159]; with_reducible exact H) | (have H2_ := (Option.bind_some _ _).symm.trans H; rw [hy159]; with_reducible exact H2_) | (have H2_ := (Option.bind_some _ _).symm.trans H; with_reducible exact H2_) | with_reducible exact H | (rw [hy159]; exact H) | exact H
            have Ny159 := Aside0.mk hy159
            clear hy159
            have H' := Aside0.mk H
            clear H
            have hnb36 := NB143_144.out
            have hnc36 := NB144_143.out
            have hcz37_0 : wc.cell? ⟨gb143, 0, none⟩ = some (.int .u8 x144000_1) := (blk_cell BK143.out 0).trans rfl
            have hcz37_1 : wc.cell? ⟨gb143, 1, none⟩ = some (.string x144001_1) := (blk_cell BK143.out 1).trans rfl
            have hcz37_2 : wc.cell? ⟨gb143, 2, none⟩ = some (u144002) := (blk_cell BK143.out 2).trans rfl
            have hcz37_3 : wc.cell? ⟨gb143, 3, none⟩ = some (u144003) := (blk_cell BK143.out 3).trans rfl
            have hfz37_0 := blk_frozen BK143.out 0
            have hfz37_1 := blk_frozen BK143.out 1
            have hfz37_2 := blk_frozen BK143.out 2
            have hfz37_3 := blk_frozen BK143.out 3
            obtain ⟨Ao38, co38, eo38⟩ := Kd.V_slice HO_144003.out
            subst eo38
            go_wp2_with (first | ((with_reducible refine gate_dst (N := 40) rfl ?_); refine Kd.N_make k32 _ 32 rfl (N' := 40) rfl 23 _ _ rfl (x144003_1.length : Int) rfl rfl Try.underlying23 (.agg #[(.string ⟨#[]⟩), (.int .u8 0), (.string ⟨#[]⟩), (.slice none 0 0), (.slice none 0 0)]) 88 info32 rfl (by decide) (by omega) z32 (ok := fun k_ => wc.heap.size ≤ k_) (okp := fun _ => False) (k32_mkF _ _ z32 (Nat.le_refl _) (Kd.F_nil _ _ _) (Nat.le_refl _) (Kd.F_nil _ _ _)) (fun _ hk => hk.elim) (Nat.le_refl _) (of_decide_eq_true (by first | (with_reducible assumption) | assumption)) (Nat.le_trans (Nat.mul_le_mul_right _ (of_decide_eq_true (by first | (with_reducible assumption) | assumption) : (x144003_1.length : Int).toNat ≤ 3198579280802)) (by omega)) (Below.refl _ _) (Nat.le_refl _) ?_; intro v160 w39 ho40 hb hg_ hnew_; clear hg_ hnew_; (first | rw [← Ny159.out] at ho40 | (simp only [Int.reduceToNat] at ho40; rw [← Ny159.out] at ho40)); have n0_ := Aside0.mk (Kd.VW_elder' (by (with_reducible repeat (first | apply Kd.VW_alloc | apply Kd.VW_drewN | apply Kd.VW_drew)); exact HO_144002.out) (Kd.N_base ho40) hb); have n1_ := Aside0.mk (Kd.V_elder' (by (with_reducible repeat (first | apply Kd.V_alloc | apply Kd.V_drewN | apply Kd.V_drew)); exact HO_144003.out) (Kd.N_base ho40) hb); have n2_ := Aside0.mk (Kd.N_lower (Kd.N_mono (ok' := fun k_ => ((P0_2_ k_ ∨ P0_3_ k_) ∨ w.heap.size ≤ k_) ∧ k_ ≠ gb143 ∧ k_ ≠ gb144) ho40 (fun k_ hk_ => ⟨(.inr (Nat.le_trans (below_size (by repeat (first | (with_reducible first | exact HB.out | apply below_alloc | apply pw_below_drewN | apply below_drew1 | refine below_set ?_ GE143.out | refine below_set ?_ GE144.out) | exact HB.out))) hk_)), (Kd.freshB (g := gb143) (o := .cells #[.int .u8 x144000_1, .string x144001_1, u144002, .slice Ao38 x144003_1.length co38] 25 (0, 0)) (by (with_reducible repeat (first | refine blk_drewN ?_ _ | refine blk_drew ?_ | refine blk_alloc ?_ _)); exact BK143.out) k_ hk_), (Kd.freshB (g := gb144) (o := .cells #[.int .u8 x145000_1, .string x145001_1, .slice none 0 0, .slice none 0 0] 25 (0, 0)) (by (with_reducible repeat (first | refine blk_drewN ?_ _ | refine blk_drew ?_ | refine blk_alloc ?_ _)); exact BK144.out) k_ hk_)⟩)) (below_size (by repeat (first | (with_reducible first | exact HB.out | apply below_alloc | apply pw_below_drewN | apply below_drew1 | refine below_set ?_ GE143.out | refine below_set ?_ GE144.out) | exact HB.out)))); have n3_ := Aside0.mk (blk_below (g := gb143) (o := .cells #[.int .u8 x144000_1, .string x144001_1, u144002, .slice Ao38 x144003_1.length co38] 25 (0, 0)) (by (with_reducible repeat (first | refine blk_drewN ?_ _ | refine blk_drew ?_ | refine blk_alloc ?_ _)); exact BK143.out) hb); have n4_ := Aside0.mk (blk_below (g := gb144) (o := .cells #[.int .u8 x145000_1, .string x145001_1, .slice none 0 0, .slice none 0 0] 25 (0, 0)) (by (with_reducible repeat (first | refine blk_drewN ?_ _ | refine blk_drew ?_ | refine blk_alloc ?_ _)); exact BK144.out) hb); have n5_ := Aside0.mk (below_step (by repeat (first | (with_reducible first | exact HB.out | apply below_alloc | apply pw_below_drewN | apply below_drew1 | refine below_set ?_ GE143.out | refine below_set ?_ GE144.out) | exact HB.out)) hb); clear HO_144002; clear HO_144003; clear BK143; clear BK144; clear HB; have HO_144002 := n0_; have HO_144003 := n1_; have HO161 := n2_; have BK143 := n3_; have BK144 := n4_; have HB := n5_; clear n0_ n1_ n2_ n3_ n4_ n5_; clear hb ho40; have hcz41_0 : w39.cell? ⟨gb143, 0, none⟩ = some (.int .u8 x144000_1) := (blk_cell BK143.out 0).trans rfl; have hcz41_1 : w39.cell? ⟨gb143, 1, none⟩ = some (.string x144001_1) := (blk_cell BK143.out 1).trans rfl; have hcz41_2 : w39.cell? ⟨gb143, 2, none⟩ = some (u144002) := (blk_cell BK143.out 2).trans rfl; have hcz41_3 : w39.cell? ⟨gb143, 3, none⟩ = some (.slice Ao38 x144003_1.length co38) := (blk_cell BK143.out 3).trans rfl; have hfz41_0 := blk_frozen BK143.out 0; have hfz41_1 := blk_frozen BK143.out 1; have hfz41_2 := blk_frozen BK143.out 2; have hfz41_3 := blk_frozen BK143.out 3))
            go_loopg [44] kj1 (fun kq v44 w' => ∃ (x6_2 : List (S32)) (x44_2 : Int), v44 = .int .i64 x44_2 ∧ Aside0 (json_twin.l1 kq x6_2 x144003_1 (x144003_1.length : Int) x44_2 x144000_1 x144001_1 x144002_1 x144003_1 = some (r1, r2, r3, r4)) ∧ Aside0 (kq ≤ kj1) ∧ Aside0 (Kd.N k32 32 w' w.heap.size (fun k_ => ((P0_2_ k_ ∨ P0_3_ k_) ∨ w.heap.size ≤ k_) ∧ k_ ≠ gb143 ∧ k_ ≠ gb144) v160 x6_2) ∧ Aside0 (Kd.V k32 32 w' w.heap.size (fun k_ => ((P0_2_ k_ ∨ P0_3_ k_) ∨ w.heap.size ≤ k_) ∧ some k_ ≠ (v160 : Value).ownBlock ∧ k_ ≠ gb143 ∧ k_ ≠ gb144) (.slice Ao38 x144003_1.length co38) x144003_1) ∧ Aside0 (Kd.VW k25 25 w' w.heap.size (fun k_ => ((P0_2_ k_ ∨ P0_3_ k_) ∨ w.heap.size ≤ k_) ∧ some k_ ≠ (v160 : Value).ownBlock ∧ k_ ≠ gb143 ∧ k_ ≠ gb144) u144002 x144002_1) ∧ Aside0 (Kd.V k32 32 w' w.heap.size (fun k_ => ((P0_2_ k_ ∨ P0_3_ k_) ∨ w.heap.size ≤ k_) ∧ some k_ ≠ (v160 : Value).ownBlock ∧ k_ ≠ gb143 ∧ k_ ≠ gb144) (.slice Ao38 x144003_1.length co38) x144003_1) ∧ Aside0 (w'.heap[gb143]? = some (.cells #[.int .u8 x144000_1, .string x144001_1, u144002, (.slice Ao38 x144003_1.length co38)] 25 (0, 0))) ∧ Aside0 (w'.heap[gb144]? = some (.cells #[.int .u8 x145000_1, .string x145001_1, (.slice none 0 0), (.slice none 0 0)] 25 (0, 0))) ∧ Aside0 (Below w.heap.size w w'))
            case atStart => exact ⟨(y159), (0), (by first | rfl | (simp; done) | (simp [*]; done)), H', ⟨Nat.le_refl _⟩, ⟨by (with_reducible repeat (first | apply Kd.N_alloc | apply Kd.N_drewN | apply Kd.N_drew)); exact HO161.out⟩, ⟨by (with_reducible repeat (first | apply Kd.V_alloc | apply Kd.V_drewN | apply Kd.V_drew)); exact Kd.V_mono HO_144003.out (fun _ hk => ⟨hk.1.1, ⟨hk.2, ⟨hk.1.2.1, hk.1.2.2⟩⟩⟩)⟩, ⟨by (with_reducible repeat (first | apply Kd.VW_alloc | apply Kd.VW_drewN | apply Kd.VW_drew)); exact Kd.VW_mono HO_144002.out (fun _ hk => ⟨hk.1.1, ⟨hk.2, ⟨hk.1.2.1, hk.1.2.2⟩⟩⟩)⟩, ⟨by (with_reducible repeat (first | apply Kd.V_alloc | apply Kd.V_drewN | apply Kd.V_drew)); exact Kd.V_mono HO_144003.out (fun _ hk => ⟨hk.1.1, ⟨hk.2, ⟨hk.1.2.1, hk.1.2.2⟩⟩⟩)⟩, ⟨by (with_reducible repeat (first | refine blk_drewN ?_ _ | refine blk_drew ?_ | refine blk_alloc ?_ _)); exact BK143.out⟩, ⟨by (with_reducible repeat (first | refine blk_drewN ?_ _ | refine blk_drew ?_ | refine blk_alloc ?_ _)); exact BK144.out⟩, ⟨by repeat (first | (with_reducible first | exact HB.out | apply below_alloc | apply pw_below_drewN | apply below_drew1 | refine below_set ?_ GE143.out | refine below_set ?_ GE144.out) | exact HB.out)⟩⟩
            case round =>
              clear H'
              try clear c1
              try clear p1
              try clear q1
              try clear hx1
              try clear c2
              try clear p2
              try clear q2
              try clear hx2
              try clear hf2
              try clear c3
              try clear c5
              try clear p6
              try clear c7
              try clear c7b0
              try clear c7b1
              try clear c8
              try clear c8b0
              try clear c8b1
              try clear c9
              try clear c9b0
              try clear c9b1
              try clear c10
              try clear c14
              try clear p14
              try clear q14
              try clear hx14
              try clear c15
              try clear c15b0
              try clear c16
              try clear c16b0
              try clear c17
              try clear c17b0
              try clear c19
              try clear c19b0
              try clear c20
              try clear p20
              try clear q20
              try clear hx20
              try clear hf20
              try clear c22
              try clear c23
              try clear c28
              try clear hx28
              try clear hf28
              try clear c31
              try clear c33
              try clear c33b0
              try clear c33b1
              try clear c34
              try clear c34b0
              try clear c34b1
              try clear c35
              try clear c35b0
              try clear c35b1
              try clear c36
              try clear hcz11_0
              try clear hcz11_1
              try clear hcz11_2
              try clear hcz11_3
              try clear hcz14_0
              try clear hcz14_1
              try clear hcz14_2
              try clear hcz14_3
              try clear hcz24_0
              try clear hcz24_1
              try clear hcz24_2
              try clear hcz24_3
              try clear hcz26_0
              try clear hcz26_1
              try clear hcz26_2
              try clear hcz26_3
              try clear hcz32_0
              try clear hcz32_1
              try clear hcz32_2
              try clear hcz32_3
              try clear hcz37_0
              try clear hcz37_1
              try clear hcz37_2
              try clear hcz37_3
              try clear hcz41_0
              try clear hcz41_1
              try clear hcz41_2
              try clear hcz41_3
              try clear hcz6_0
              try clear hcz6_1
              try clear hcz6_2
              try clear hcz6_3
              try clear hfz11_0
              try clear hfz11_1
              try clear hfz11_2
              try clear hfz11_3
              try clear hfz14_0
              try clear hfz14_1
              try clear hfz14_2
              try clear hfz14_3
              try clear hfz24_0
              try clear hfz24_1
              try clear hfz24_2
              try clear hfz24_3
              try clear hfz26_0
              try clear hfz26_1
              try clear hfz26_2
              try clear hfz26_3
              try clear hfz32_0
              try clear hfz32_1
              try clear hfz32_2
              try clear hfz32_3
              try clear hfz37_0
              try clear hfz37_1
              try clear hfz37_2
              try clear hfz37_3
              try clear hfz41_0
              try clear hfz41_1
              try clear hfz41_2
              try clear hfz41_3
              try clear hfz6_0
              try clear hfz6_1
              try clear hfz6_2
              try clear hfz6_3
              try clear hx148_0
              try clear hx148_1
              try clear hx148_2
              try clear hx148_3
              try clear hx20_0
              try clear hx20_1
              try clear hx20_2
              try clear hx20_3
              try clear hx28_0
              try clear hx28_1
              try clear hx28_2
              try clear hx28_3
              try clear p1
              try clear p14
              try clear p148
              try clear p2
              try clear p20
              try clear p6
              try clear q1
              try clear q14
              try clear q148
              try clear q2
              try clear q20
              (try clear  BK143)
              (try clear  BK144)
              obtain ⟨x6_2, x44_2, rfl, HA, HK2, HO_6, HO_42, HO_144002, HO_144003, BK143, BK144, HB⟩ := hrel
              cases gk with
              | zero => exact absurd HA.out (by simp [json_twin.l1])
              | succ k2 =>
                have H := HA.out
                clear HA
                simp only [json_twin.l1] at H
                by_cases c42 : x44_2 < (x144003_1.length : Int)
                · rw [if_pos c42] at H
                  have c42b0 : decide (x44_2 < (x144003_1.length : Int)) = true := decide_eq_true c42
                  clear c42
                  by_cases c43 : 0 ≤ x44_2
                  · rw [if_pos c43] at H
                    have c43b0 : decide (0 ≤ x44_2) = true := decide_eq_true c43
                    clear c43
                    by_cases c44 : x44_2 < (x144003_1.length : Int)
                    · rw [if_pos c44] at H
                      have c44b0 : decide (x44_2 < (x144003_1.length : Int)) = true := decide_eq_true c44
                      clear c44
                      replace H := Option.bind_eq_some_iff.mp H
                      obtain ⟨⟨t164, t165, t166, t169⟩, A450, H⟩ := H
                      replace H : (if x44_2 < (x6_2.length : Int) then (json_twin.l1 k2 (x6_2.set (x44_2 : Int).toNat (⟨(rd_T32 x144003_1 x44_2).f0, (⟨t164, t165, t166, t169⟩ : S25)⟩ : S32)) x144003_1 (x144003_1.length : Int) (wrap64 (x44_2 + 1)) x144000_1 x144001_1 x144002_1 x144003_1) else (none)) = some (r1, r2, r3, r4) := H
                      have A45 := Aside0.mk A450
                      clear A450
                      by_cases c46 : x44_2 < (x6_2.length : Int)
                      · rw [if_pos c46] at H
                        have c46b0 : decide (x44_2 < (x6_2.length : Int)) = true := decide_eq_true c46
                        clear c46
                        obtain ⟨y172, hy172⟩ : ∃ y_ : List (S32), y_ = (x6_2.set (x44_2 : Int).toNat (⟨(rd_T32 x144003_1 x44_2).f0, (⟨t164, t165, t166, t169⟩ : S25)⟩ : S32)) := ⟨_, rfl⟩
                        replace H : (json_twin.l1 k2 y172 x144003_1 (x144003_1.length : Int) (wrap64 (x44_2 + 1)) x144000_1 x144001_1 x144002_1 x144003_1) = some (r1, r2, r3, r4) := by first | (rw [hy172]; with_reducible exact H) | (have H2_ := (Option.bind_some _ _).symm.trans H; rw [hy172]; with_reducible exact H2_) | (have H2_ := (Option.bind_some _ _).symm.trans H; with_reducible exact H2_) | with_reducible exact H | (rw [hy172]; exact H) | exact H
                        have Ny172 := Aside0.mk hy172
                        clear hy172
                        have H' := Aside0.mk H
                        clear H
                        have p162 : 0 ≤ (x44_2 : Int) := of_decide_eq_true (by first | (with_reducible assumption) | assumption)
                        have q162 : x44_2 < (x144003_1.length : Int) := of_decide_eq_true (by first | (with_reducible assumption) | assumption)
                        obtain ⟨ad162, A162_3, c162_3, A162_4, c162_4, e162, hx162_0, hx162_1, hx162_2, hx162_3, hx162_4, hl162_3, hi162_3, hl162_4, hi162_4⟩ := at_T32 (Kd.V_reads' HO_42.out).2.2 x44_2 p162 q162
                        cases e162
                        obtain ⟨ce162, hce162, hMe162, hcc162⟩ := Kd.V_get HO_42.out z32 x44_2 p162 (by first | exact q162 | exact of_decide_eq_true (by first | (with_reducible assumption) | assumption) | (have e_ := (Kd.V_reads' HO_42.out).1; omega))
                        obtain ⟨ua162_3, uc162_3, ua162_4, uc162_4, rfl, ul162_3, ge162_3, ul162_4, ge162_4⟩ := k32_openF hMe162
                        have hv162_3 := hcc162 3 _ rfl
                        rw [add_field _ _ 3 (by omega)] at hv162_3
                        replace hv162_3 := Option.some.inj (hv162_3.symm.trans hx162_3)
                        injection hv162_3 with hva_ hvn_ hvc_
                        rw [hva_] at ge162_3
                        rw [hvc_] at ul162_3
                        have HL162_3 := Aside0.mk (show Kd.V k25 25 _ w.heap.size _ _ ((rd_T32 x144003_1 x44_2).f1.f2) from Kd.V_mk ul162_3 ge162_3)
                        clear hva_ hvn_ hvc_ ge162_3 ul162_3
                        have hv162_4 := hcc162 4 _ rfl
                        rw [add_field _ _ 4 (by omega)] at hv162_4
                        replace hv162_4 := Option.some.inj (hv162_4.symm.trans hx162_4)
                        injection hv162_4 with hva_ hvn_ hvc_
                        rw [hva_] at ge162_4
                        rw [hvc_] at ul162_4
                        have HL162_4 := Aside0.mk (show Kd.V k32 32 _ w.heap.size _ _ ((rd_T32 x144003_1 x44_2).f1.f3) from Kd.V_mk ul162_4 ge162_4)
                        clear hva_ hvn_ hvc_ ge162_4 ul162_4
                        clear hcc162 hce162
                        have HR162_3 := Aside0.mk hi162_3
                        have HC162_3 := Aside0.mk hl162_3
                        clear hi162_3 hl162_3
                        have HR162_4 := Aside0.mk hi162_4
                        have HC162_4 := Aside0.mk hl162_4
                        clear hi162_4 hl162_4
                        replace p162 := eq_true p162
                        replace q162 := eq_true q162
                        try go_wp2_with (first | ((with_reducible refine gate_dst (N := 8) rfl ?_); refine box_event ?hg (N := 8) ?hd (cs := #[.string (⟨#[]⟩ : ByteArray), .int .u8 0, .string (⟨#[]⟩ : ByteArray), .slice none 0 0, .slice none 0 0]) (t := 32) ?hr ?_; (case hd => rfl); (case hg => rfl); (case hr => first | (go_simp; done) | (go_simp; rfl)); intro gb163 hg w48 hbox hb; have n0_ := Aside0.mk (Kd.N_below (Kd.N_elderB (by (with_reducible repeat (first | apply Kd.N_alloc | apply Kd.N_drewN | apply Kd.N_drew)); exact HO_6.out) gb163 (Nat.le_of_eq hg.symm)) hb); have n1_ := Aside0.mk (Kd.V_below (Kd.V_elderB (by (with_reducible repeat (first | apply Kd.V_alloc | apply Kd.V_drewN | apply Kd.V_drew)); exact HO_42.out) gb163 (Nat.le_of_eq hg.symm)) hb); have n2_ := Aside0.mk (Kd.VW_below (Kd.VW_elderB (by (with_reducible repeat (first | apply Kd.VW_alloc | apply Kd.VW_drewN | apply Kd.VW_drew)); exact HO_144002.out) gb163 (Nat.le_of_eq hg.symm)) hb); have n3_ := Aside0.mk (Kd.V_below (Kd.V_elderB (by (with_reducible repeat (first | apply Kd.V_alloc | apply Kd.V_drewN | apply Kd.V_drew)); exact HO_144003.out) gb163 (Nat.le_of_eq hg.symm)) hb); have n4_ := Aside0.mk (Kd.V_below (Kd.V_elderB (by (with_reducible repeat (first | apply Kd.V_alloc | apply Kd.V_drewN | apply Kd.V_drew)); exact HL162_3.out) gb163 (Nat.le_of_eq hg.symm)) hb); have n5_ := Aside0.mk (Kd.V_below (Kd.V_elderB (by (with_reducible repeat (first | apply Kd.V_alloc | apply Kd.V_drewN | apply Kd.V_drew)); exact HL162_4.out) gb163 (Nat.le_of_eq hg.symm)) hb); have n6_ := Aside0.mk (blk_below (g := gb143) (o := .cells #[.int .u8 x144000_1, .string x144001_1, u144002, .slice (some ad162) x144003_1.length co38] 25 (0, 0)) (by (with_reducible repeat (first | refine blk_drewN ?_ _ | refine blk_drew ?_ | refine blk_alloc ?_ _)); exact BK143.out) hb); have n7_ := Aside0.mk (blk_below (g := gb144) (o := .cells #[.int .u8 x145000_1, .string x145001_1, .slice none 0 0, .slice none 0 0] 25 (0, 0)) (by (with_reducible repeat (first | refine blk_drewN ?_ _ | refine blk_drew ?_ | refine blk_alloc ?_ _)); exact BK144.out) hb); have n8_ := Aside0.mk (Kd.V_reads' n4_.out).2.2; have n9_ := Aside0.mk (Kd.V_reads' n5_.out).2.2; have n10_ := Aside0.mk (below_step (by repeat (first | (with_reducible first | exact HB.out | apply below_alloc | apply pw_below_drewN | apply below_drew1 | refine below_set ?_ GE143.out | refine below_set ?_ GE144.out) | exact HB.out)) hb); have n11_ := Aside0.mk (hbox); have n12_ := Aside0.mk ((by rw [hg]; exact (below_size (by repeat (first | (with_reducible first | exact HB.out | apply below_alloc | apply pw_below_drewN | apply below_drew1 | refine below_set ?_ GE143.out | refine below_set ?_ GE144.out) | exact HB.out))) : w.heap.size ≤ gb163)); have n13_ := Aside0.mk ((by rw [hg]; exact (below_size (by repeat (first | (with_reducible first | exact HB.out | apply below_alloc | apply pw_below_drewN | apply below_drew1 | refine below_set ?_ GE143.out | refine below_set ?_ GE144.out) | exact HB.out))) : w.heap.size ≤ gb163)); have n14_ := Aside0.mk ((by rw [hg]; exact Nat.ne_of_lt (blk_lt (g := gb143) (o := .cells #[.int .u8 x144000_1, .string x144001_1, u144002, .slice (some ad162) x144003_1.length co38] 25 (0, 0)) (by (with_reducible repeat (first | refine blk_drewN ?_ _ | refine blk_drew ?_ | refine blk_alloc ?_ _)); exact BK143.out)) : gb143 ≠ gb163)); have n15_ := Aside0.mk ((by rw [hg]; exact Nat.ne_of_gt (blk_lt (g := gb143) (o := .cells #[.int .u8 x144000_1, .string x144001_1, u144002, .slice (some ad162) x144003_1.length co38] 25 (0, 0)) (by (with_reducible repeat (first | refine blk_drewN ?_ _ | refine blk_drew ?_ | refine blk_alloc ?_ _)); exact BK143.out)) : gb163 ≠ gb143)); have n16_ := Aside0.mk ((by rw [hg]; exact Nat.ne_of_lt (blk_lt (g := gb144) (o := .cells #[.int .u8 x145000_1, .string x145001_1, .slice none 0 0, .slice none 0 0] 25 (0, 0)) (by (with_reducible repeat (first | refine blk_drewN ?_ _ | refine blk_drew ?_ | refine blk_alloc ?_ _)); exact BK144.out)) : gb144 ≠ gb163)); have n17_ := Aside0.mk ((by rw [hg]; exact Nat.ne_of_gt (blk_lt (g := gb144) (o := .cells #[.int .u8 x145000_1, .string x145001_1, .slice none 0 0, .slice none 0 0] 25 (0, 0)) (by (with_reducible repeat (first | refine blk_drewN ?_ _ | refine blk_drew ?_ | refine blk_alloc ?_ _)); exact BK144.out)) : gb163 ≠ gb144)); clear HO_6; clear HO_42; clear HO_144002; clear HO_144003; clear HL162_3; clear HL162_4; clear BK143; clear BK144; clear HR162_3; clear HR162_4; clear HB; have HO_6 := n0_; have HO_42 := n1_; have HO_144002 := n2_; have HO_144003 := n3_; have HL162_3 := n4_; have HL162_4 := n5_; have BK143 := n6_; have BK144 := n7_; have HR162_3 := n8_; have HR162_4 := n9_; have HB := n10_; have BK163 := n11_; have GW163 := n12_; have GE163 := n13_; have NB143_163 := n14_; have NB163_143 := n15_; have NB144_163 := n16_; have NB163_144 := n17_; clear n0_ n1_ n2_ n3_ n4_ n5_ n6_ n7_ n8_ n9_ n10_ n11_ n12_ n13_ n14_ n15_ n16_ n17_; clear hb hbox hg; have hnb49 := NB163_143.out; have hnc49 := NB143_163.out; have hnb50 := NB163_144.out; have hnc50 := NB144_163.out; have hcz51_0 : w48.cell? ⟨gb163, 0, none⟩ = some (.string (⟨#[]⟩ : ByteArray)) := (blk_cell BK163.out 0).trans rfl; have hcz51_1 : w48.cell? ⟨gb163, 1, none⟩ = some (.int .u8 0) := (blk_cell BK163.out 1).trans rfl; have hcz51_2 : w48.cell? ⟨gb163, 2, none⟩ = some (.string (⟨#[]⟩ : ByteArray)) := (blk_cell BK163.out 2).trans rfl; have hcz51_3 : w48.cell? ⟨gb163, 3, none⟩ = some (.slice none 0 0) := (blk_cell BK163.out 3).trans rfl; have hcz51_4 : w48.cell? ⟨gb163, 4, none⟩ = some (.slice none 0 0) := (blk_cell BK163.out 4).trans rfl; have hfz51_0 := blk_frozen BK163.out 0; have hfz51_1 := blk_frozen BK163.out 1; have hfz51_2 := blk_frozen BK163.out 2; have hfz51_3 := blk_frozen BK163.out 3; have hfz51_4 := blk_frozen BK163.out 4))
                        have n0_ : Aside0 (Kd.N k32 32 (((((w48.setCell ⟨gb163, 0, none⟩ (.string ((rd_T32 x144003_1 x44_2).f0))).setCell ⟨gb163, 1, none⟩ (.int .u8 ((rd_T32 x144003_1 x44_2).f1.f0))).setCell ⟨gb163, 2, none⟩ (.string ((rd_T32 x144003_1 x44_2).f1.f1))).setCell ⟨gb163, 3, none⟩ (.slice A162_3 ((rd_T32 x144003_1 x44_2).f1.f2).length c162_3)).setCell ⟨gb163, 4, none⟩ (.slice A162_4 ((rd_T32 x144003_1 x44_2).f1.f3).length c162_4)) w.heap.size (fun k_ => ((P0_2_ k_ ∨ P0_3_ k_) ∨ w.heap.size ≤ k_) ∧ k_ ≠ gb143 ∧ k_ ≠ gb144 ∧ k_ ≠ gb163) v160 x6_2) := ⟨by (with_reducible repeat (first | apply Kd.N_alloc | apply Kd.N_drewN | apply Kd.N_drew)); exact Kd.N_mono (Kd.N_far (p := ⟨gb163, 4, none⟩) (Kd.N_far (p := ⟨gb163, 3, none⟩) (Kd.N_far (p := ⟨gb163, 2, none⟩) (Kd.N_far (p := ⟨gb163, 1, none⟩) (Kd.N_far (p := ⟨gb163, 0, none⟩) (Kd.N_mono HO_6.out (fun k_ hk => (⟨hk, hk.2⟩ : _ ∧ k_ ≠ gb163))) (fun _ hk => hk.2) (.string ((rd_T32 x144003_1 x44_2).f0))) (fun _ hk => hk.2) (.int .u8 ((rd_T32 x144003_1 x44_2).f1.f0))) (fun _ hk => hk.2) (.string ((rd_T32 x144003_1 x44_2).f1.f1))) (fun _ hk => hk.2) (.slice A162_3 ((rd_T32 x144003_1 x44_2).f1.f2).length c162_3)) (fun _ hk => hk.2) (.slice A162_4 ((rd_T32 x144003_1 x44_2).f1.f3).length c162_4)) (fun _ hk => ⟨hk.1.1.1, ⟨hk.1.1.2.1, ⟨hk.1.1.2.2, hk.1.2⟩⟩⟩)⟩
                        have n1_ : Aside0 (Kd.V k32 32 (((((w48.setCell ⟨gb163, 0, none⟩ (.string ((rd_T32 x144003_1 x44_2).f0))).setCell ⟨gb163, 1, none⟩ (.int .u8 ((rd_T32 x144003_1 x44_2).f1.f0))).setCell ⟨gb163, 2, none⟩ (.string ((rd_T32 x144003_1 x44_2).f1.f1))).setCell ⟨gb163, 3, none⟩ (.slice A162_3 ((rd_T32 x144003_1 x44_2).f1.f2).length c162_3)).setCell ⟨gb163, 4, none⟩ (.slice A162_4 ((rd_T32 x144003_1 x44_2).f1.f3).length c162_4)) w.heap.size (fun k_ => ((P0_2_ k_ ∨ P0_3_ k_) ∨ w.heap.size ≤ k_) ∧ some k_ ≠ (v160 : Value).ownBlock ∧ k_ ≠ gb143 ∧ k_ ≠ gb144 ∧ k_ ≠ gb163) (.slice (some ad162) x144003_1.length co38) x144003_1) := ⟨by (with_reducible repeat (first | apply Kd.V_alloc | apply Kd.V_drewN | apply Kd.V_drew)); exact Kd.V_mono (Kd.V_far (p := ⟨gb163, 4, none⟩) (Kd.V_far (p := ⟨gb163, 3, none⟩) (Kd.V_far (p := ⟨gb163, 2, none⟩) (Kd.V_far (p := ⟨gb163, 1, none⟩) (Kd.V_far (p := ⟨gb163, 0, none⟩) (Kd.V_mono HO_42.out (fun k_ hk => (⟨hk, hk.2⟩ : _ ∧ k_ ≠ gb163))) (fun _ hk => hk.2) (.string ((rd_T32 x144003_1 x44_2).f0))) (fun _ hk => hk.2) (.int .u8 ((rd_T32 x144003_1 x44_2).f1.f0))) (fun _ hk => hk.2) (.string ((rd_T32 x144003_1 x44_2).f1.f1))) (fun _ hk => hk.2) (.slice A162_3 ((rd_T32 x144003_1 x44_2).f1.f2).length c162_3)) (fun _ hk => hk.2) (.slice A162_4 ((rd_T32 x144003_1 x44_2).f1.f3).length c162_4)) (fun _ hk => ⟨hk.1.1.1, ⟨hk.1.1.2.1, ⟨hk.1.1.2.2.1, ⟨hk.1.1.2.2.2, hk.1.2⟩⟩⟩⟩)⟩
                        have n2_ : Aside0 (Kd.VW k25 25 (((((w48.setCell ⟨gb163, 0, none⟩ (.string ((rd_T32 x144003_1 x44_2).f0))).setCell ⟨gb163, 1, none⟩ (.int .u8 ((rd_T32 x144003_1 x44_2).f1.f0))).setCell ⟨gb163, 2, none⟩ (.string ((rd_T32 x144003_1 x44_2).f1.f1))).setCell ⟨gb163, 3, none⟩ (.slice A162_3 ((rd_T32 x144003_1 x44_2).f1.f2).length c162_3)).setCell ⟨gb163, 4, none⟩ (.slice A162_4 ((rd_T32 x144003_1 x44_2).f1.f3).length c162_4)) w.heap.size (fun k_ => ((P0_2_ k_ ∨ P0_3_ k_) ∨ w.heap.size ≤ k_) ∧ some k_ ≠ (v160 : Value).ownBlock ∧ k_ ≠ gb143 ∧ k_ ≠ gb144 ∧ k_ ≠ gb163) u144002 x144002_1) := ⟨by (with_reducible repeat (first | apply Kd.VW_alloc | apply Kd.VW_drewN | apply Kd.VW_drew)); exact Kd.VW_mono (Kd.VW_far (p := ⟨gb163, 4, none⟩) (Kd.VW_far (p := ⟨gb163, 3, none⟩) (Kd.VW_far (p := ⟨gb163, 2, none⟩) (Kd.VW_far (p := ⟨gb163, 1, none⟩) (Kd.VW_far (p := ⟨gb163, 0, none⟩) (Kd.VW_mono HO_144002.out (fun k_ hk => (⟨hk, hk.2⟩ : _ ∧ k_ ≠ gb163))) (fun _ hk => hk.2) (.string ((rd_T32 x144003_1 x44_2).f0))) (fun _ hk => hk.2) (.int .u8 ((rd_T32 x144003_1 x44_2).f1.f0))) (fun _ hk => hk.2) (.string ((rd_T32 x144003_1 x44_2).f1.f1))) (fun _ hk => hk.2) (.slice A162_3 ((rd_T32 x144003_1 x44_2).f1.f2).length c162_3)) (fun _ hk => hk.2) (.slice A162_4 ((rd_T32 x144003_1 x44_2).f1.f3).length c162_4)) (fun _ hk => ⟨hk.1.1.1, ⟨hk.1.1.2.1, ⟨hk.1.1.2.2.1, ⟨hk.1.1.2.2.2, hk.1.2⟩⟩⟩⟩)⟩
                        have n3_ : Aside0 (Kd.V k32 32 (((((w48.setCell ⟨gb163, 0, none⟩ (.string ((rd_T32 x144003_1 x44_2).f0))).setCell ⟨gb163, 1, none⟩ (.int .u8 ((rd_T32 x144003_1 x44_2).f1.f0))).setCell ⟨gb163, 2, none⟩ (.string ((rd_T32 x144003_1 x44_2).f1.f1))).setCell ⟨gb163, 3, none⟩ (.slice A162_3 ((rd_T32 x144003_1 x44_2).f1.f2).length c162_3)).setCell ⟨gb163, 4, none⟩ (.slice A162_4 ((rd_T32 x144003_1 x44_2).f1.f3).length c162_4)) w.heap.size (fun k_ => ((P0_2_ k_ ∨ P0_3_ k_) ∨ w.heap.size ≤ k_) ∧ some k_ ≠ (v160 : Value).ownBlock ∧ k_ ≠ gb143 ∧ k_ ≠ gb144 ∧ k_ ≠ gb163) (.slice (some ad162) x144003_1.length co38) x144003_1) := ⟨by (with_reducible repeat (first | apply Kd.V_alloc | apply Kd.V_drewN | apply Kd.V_drew)); exact Kd.V_mono (Kd.V_far (p := ⟨gb163, 4, none⟩) (Kd.V_far (p := ⟨gb163, 3, none⟩) (Kd.V_far (p := ⟨gb163, 2, none⟩) (Kd.V_far (p := ⟨gb163, 1, none⟩) (Kd.V_far (p := ⟨gb163, 0, none⟩) (Kd.V_mono HO_144003.out (fun k_ hk => (⟨hk, hk.2⟩ : _ ∧ k_ ≠ gb163))) (fun _ hk => hk.2) (.string ((rd_T32 x144003_1 x44_2).f0))) (fun _ hk => hk.2) (.int .u8 ((rd_T32 x144003_1 x44_2).f1.f0))) (fun _ hk => hk.2) (.string ((rd_T32 x144003_1 x44_2).f1.f1))) (fun _ hk => hk.2) (.slice A162_3 ((rd_T32 x144003_1 x44_2).f1.f2).length c162_3)) (fun _ hk => hk.2) (.slice A162_4 ((rd_T32 x144003_1 x44_2).f1.f3).length c162_4)) (fun _ hk => ⟨hk.1.1.1, ⟨hk.1.1.2.1, ⟨hk.1.1.2.2.1, ⟨hk.1.1.2.2.2, hk.1.2⟩⟩⟩⟩)⟩
                        have n4_ : Aside0 (Kd.V k25 25 (((((w48.setCell ⟨gb163, 0, none⟩ (.string ((rd_T32 x144003_1 x44_2).f0))).setCell ⟨gb163, 1, none⟩ (.int .u8 ((rd_T32 x144003_1 x44_2).f1.f0))).setCell ⟨gb163, 2, none⟩ (.string ((rd_T32 x144003_1 x44_2).f1.f1))).setCell ⟨gb163, 3, none⟩ (.slice A162_3 ((rd_T32 x144003_1 x44_2).f1.f2).length c162_3)).setCell ⟨gb163, 4, none⟩ (.slice A162_4 ((rd_T32 x144003_1 x44_2).f1.f3).length c162_4)) w.heap.size (fun k_ => ((P0_2_ k_ ∨ P0_3_ k_) ∨ w.heap.size ≤ k_) ∧ some k_ ≠ (v160 : Value).ownBlock ∧ k_ ≠ gb143 ∧ k_ ≠ gb144 ∧ k_ ≠ gb163) (.slice A162_3 ((rd_T32 x144003_1 x44_2).f1.f2).length c162_3) ((rd_T32 x144003_1 x44_2).f1.f2)) := ⟨by (with_reducible repeat (first | apply Kd.V_alloc | apply Kd.V_drewN | apply Kd.V_drew)); exact Kd.V_mono (Kd.V_far (p := ⟨gb163, 4, none⟩) (Kd.V_far (p := ⟨gb163, 3, none⟩) (Kd.V_far (p := ⟨gb163, 2, none⟩) (Kd.V_far (p := ⟨gb163, 1, none⟩) (Kd.V_far (p := ⟨gb163, 0, none⟩) (Kd.V_mono HL162_3.out (fun k_ hk => (⟨hk, hk.2⟩ : _ ∧ k_ ≠ gb163))) (fun _ hk => hk.2) (.string ((rd_T32 x144003_1 x44_2).f0))) (fun _ hk => hk.2) (.int .u8 ((rd_T32 x144003_1 x44_2).f1.f0))) (fun _ hk => hk.2) (.string ((rd_T32 x144003_1 x44_2).f1.f1))) (fun _ hk => hk.2) (.slice A162_3 ((rd_T32 x144003_1 x44_2).f1.f2).length c162_3)) (fun _ hk => hk.2) (.slice A162_4 ((rd_T32 x144003_1 x44_2).f1.f3).length c162_4)) (fun _ hk => ⟨hk.1.1.1, ⟨hk.1.1.2.1, ⟨hk.1.1.2.2.1, ⟨hk.1.1.2.2.2, hk.1.2⟩⟩⟩⟩)⟩
                        have n5_ : Aside0 (Kd.V k32 32 (((((w48.setCell ⟨gb163, 0, none⟩ (.string ((rd_T32 x144003_1 x44_2).f0))).setCell ⟨gb163, 1, none⟩ (.int .u8 ((rd_T32 x144003_1 x44_2).f1.f0))).setCell ⟨gb163, 2, none⟩ (.string ((rd_T32 x144003_1 x44_2).f1.f1))).setCell ⟨gb163, 3, none⟩ (.slice A162_3 ((rd_T32 x144003_1 x44_2).f1.f2).length c162_3)).setCell ⟨gb163, 4, none⟩ (.slice A162_4 ((rd_T32 x144003_1 x44_2).f1.f3).length c162_4)) w.heap.size (fun k_ => ((P0_2_ k_ ∨ P0_3_ k_) ∨ w.heap.size ≤ k_) ∧ some k_ ≠ (v160 : Value).ownBlock ∧ k_ ≠ gb143 ∧ k_ ≠ gb144 ∧ k_ ≠ gb163) (.slice A162_4 ((rd_T32 x144003_1 x44_2).f1.f3).length c162_4) ((rd_T32 x144003_1 x44_2).f1.f3)) := ⟨by (with_reducible repeat (first | apply Kd.V_alloc | apply Kd.V_drewN | apply Kd.V_drew)); exact Kd.V_mono (Kd.V_far (p := ⟨gb163, 4, none⟩) (Kd.V_far (p := ⟨gb163, 3, none⟩) (Kd.V_far (p := ⟨gb163, 2, none⟩) (Kd.V_far (p := ⟨gb163, 1, none⟩) (Kd.V_far (p := ⟨gb163, 0, none⟩) (Kd.V_mono HL162_4.out (fun k_ hk => (⟨hk, hk.2⟩ : _ ∧ k_ ≠ gb163))) (fun _ hk => hk.2) (.string ((rd_T32 x144003_1 x44_2).f0))) (fun _ hk => hk.2) (.int .u8 ((rd_T32 x144003_1 x44_2).f1.f0))) (fun _ hk => hk.2) (.string ((rd_T32 x144003_1 x44_2).f1.f1))) (fun _ hk => hk.2) (.slice A162_3 ((rd_T32 x144003_1 x44_2).f1.f2).length c162_3)) (fun _ hk => hk.2) (.slice A162_4 ((rd_T32 x144003_1 x44_2).f1.f3).length c162_4)) (fun _ hk => ⟨hk.1.1.1, ⟨hk.1.1.2.1, ⟨hk.1.1.2.2.1, ⟨hk.1.1.2.2.2, hk.1.2⟩⟩⟩⟩)⟩
                        have n6_ : Aside0 ((((((w48.setCell ⟨gb163, 0, none⟩ (.string ((rd_T32 x144003_1 x44_2).f0))).setCell ⟨gb163, 1, none⟩ (.int .u8 ((rd_T32 x144003_1 x44_2).f1.f0))).setCell ⟨gb163, 2, none⟩ (.string ((rd_T32 x144003_1 x44_2).f1.f1))).setCell ⟨gb163, 3, none⟩ (.slice A162_3 ((rd_T32 x144003_1 x44_2).f1.f2).length c162_3)).setCell ⟨gb163, 4, none⟩ (.slice A162_4 ((rd_T32 x144003_1 x44_2).f1.f3).length c162_4)).heap[gb143]? = some (.cells #[.int .u8 x144000_1, .string x144001_1, u144002, .slice (some ad162) x144003_1.length co38] 25 (0, 0))) := ⟨by (with_reducible repeat (first | refine blk_drewN ?_ _ | refine blk_drew ?_ | refine blk_alloc ?_ _)); refine blk_far ?_ NB143_163.out _; (with_reducible repeat (first | refine blk_drewN ?_ _ | refine blk_drew ?_ | refine blk_alloc ?_ _)); refine blk_far ?_ NB143_163.out _; (with_reducible repeat (first | refine blk_drewN ?_ _ | refine blk_drew ?_ | refine blk_alloc ?_ _)); refine blk_far ?_ NB143_163.out _; (with_reducible repeat (first | refine blk_drewN ?_ _ | refine blk_drew ?_ | refine blk_alloc ?_ _)); refine blk_far ?_ NB143_163.out _; (with_reducible repeat (first | refine blk_drewN ?_ _ | refine blk_drew ?_ | refine blk_alloc ?_ _)); refine blk_far ?_ NB143_163.out _; (with_reducible repeat (first | refine blk_drewN ?_ _ | refine blk_drew ?_ | refine blk_alloc ?_ _)); exact BK143.out⟩
                        have n7_ : Aside0 ((((((w48.setCell ⟨gb163, 0, none⟩ (.string ((rd_T32 x144003_1 x44_2).f0))).setCell ⟨gb163, 1, none⟩ (.int .u8 ((rd_T32 x144003_1 x44_2).f1.f0))).setCell ⟨gb163, 2, none⟩ (.string ((rd_T32 x144003_1 x44_2).f1.f1))).setCell ⟨gb163, 3, none⟩ (.slice A162_3 ((rd_T32 x144003_1 x44_2).f1.f2).length c162_3)).setCell ⟨gb163, 4, none⟩ (.slice A162_4 ((rd_T32 x144003_1 x44_2).f1.f3).length c162_4)).heap[gb144]? = some (.cells #[.int .u8 x145000_1, .string x145001_1, .slice none 0 0, .slice none 0 0] 25 (0, 0))) := ⟨by (with_reducible repeat (first | refine blk_drewN ?_ _ | refine blk_drew ?_ | refine blk_alloc ?_ _)); refine blk_far ?_ NB144_163.out _; (with_reducible repeat (first | refine blk_drewN ?_ _ | refine blk_drew ?_ | refine blk_alloc ?_ _)); refine blk_far ?_ NB144_163.out _; (with_reducible repeat (first | refine blk_drewN ?_ _ | refine blk_drew ?_ | refine blk_alloc ?_ _)); refine blk_far ?_ NB144_163.out _; (with_reducible repeat (first | refine blk_drewN ?_ _ | refine blk_drew ?_ | refine blk_alloc ?_ _)); refine blk_far ?_ NB144_163.out _; (with_reducible repeat (first | refine blk_drewN ?_ _ | refine blk_drew ?_ | refine blk_alloc ?_ _)); refine blk_far ?_ NB144_163.out _; (with_reducible repeat (first | refine blk_drewN ?_ _ | refine blk_drew ?_ | refine blk_alloc ?_ _)); exact BK144.out⟩
                        have n8_ : Aside0 ((((((w48.setCell ⟨gb163, 0, none⟩ (.string ((rd_T32 x144003_1 x44_2).f0))).setCell ⟨gb163, 1, none⟩ (.int .u8 ((rd_T32 x144003_1 x44_2).f1.f0))).setCell ⟨gb163, 2, none⟩ (.string ((rd_T32 x144003_1 x44_2).f1.f1))).setCell ⟨gb163, 3, none⟩ (.slice A162_3 ((rd_T32 x144003_1 x44_2).f1.f2).length c162_3)).setCell ⟨gb163, 4, none⟩ (.slice A162_4 ((rd_T32 x144003_1 x44_2).f1.f3).length c162_4)).heap[gb163]? = some (.cells #[.string ((rd_T32 x144003_1 x44_2).f0), .int .u8 ((rd_T32 x144003_1 x44_2).f1.f0), .string ((rd_T32 x144003_1 x44_2).f1.f1), .slice A162_3 ((rd_T32 x144003_1 x44_2).f1.f2).length c162_3, .slice A162_4 ((rd_T32 x144003_1 x44_2).f1.f3).length c162_4] 32 (0, 0))) := ⟨by (with_reducible repeat (first | refine blk_drewN ?_ _ | refine blk_drew ?_ | refine blk_alloc ?_ _)); refine blk_put (cs := #[.string ((rd_T32 x144003_1 x44_2).f0), .int .u8 ((rd_T32 x144003_1 x44_2).f1.f0), .string ((rd_T32 x144003_1 x44_2).f1.f1), .slice A162_3 ((rd_T32 x144003_1 x44_2).f1.f2).length c162_3, .slice none 0 0]) ?_ 4 _ rfl; (with_reducible repeat (first | refine blk_drewN ?_ _ | refine blk_drew ?_ | refine blk_alloc ?_ _)); refine blk_put (cs := #[.string ((rd_T32 x144003_1 x44_2).f0), .int .u8 ((rd_T32 x144003_1 x44_2).f1.f0), .string ((rd_T32 x144003_1 x44_2).f1.f1), .slice none 0 0, .slice none 0 0]) ?_ 3 _ rfl; (with_reducible repeat (first | refine blk_drewN ?_ _ | refine blk_drew ?_ | refine blk_alloc ?_ _)); refine blk_put (cs := #[.string ((rd_T32 x144003_1 x44_2).f0), .int .u8 ((rd_T32 x144003_1 x44_2).f1.f0), .string (⟨#[]⟩ : ByteArray), .slice none 0 0, .slice none 0 0]) ?_ 2 _ rfl; (with_reducible repeat (first | refine blk_drewN ?_ _ | refine blk_drew ?_ | refine blk_alloc ?_ _)); refine blk_put (cs := #[.string ((rd_T32 x144003_1 x44_2).f0), .int .u8 0, .string (⟨#[]⟩ : ByteArray), .slice none 0 0, .slice none 0 0]) ?_ 1 _ rfl; (with_reducible repeat (first | refine blk_drewN ?_ _ | refine blk_drew ?_ | refine blk_alloc ?_ _)); refine blk_put (cs := #[.string (⟨#[]⟩ : ByteArray), .int .u8 0, .string (⟨#[]⟩ : ByteArray), .slice none 0 0, .slice none 0 0]) ?_ 0 _ rfl; (with_reducible repeat (first | refine blk_drewN ?_ _ | refine blk_drew ?_ | refine blk_alloc ?_ _)); exact BK163.out⟩
                        have n9_ : Aside0 (Below w.heap.size w (((((w48.setCell ⟨gb163, 0, none⟩ (.string ((rd_T32 x144003_1 x44_2).f0))).setCell ⟨gb163, 1, none⟩ (.int .u8 ((rd_T32 x144003_1 x44_2).f1.f0))).setCell ⟨gb163, 2, none⟩ (.string ((rd_T32 x144003_1 x44_2).f1.f1))).setCell ⟨gb163, 3, none⟩ (.slice A162_3 ((rd_T32 x144003_1 x44_2).f1.f2).length c162_3)).setCell ⟨gb163, 4, none⟩ (.slice A162_4 ((rd_T32 x144003_1 x44_2).f1.f3).length c162_4))) := ⟨by repeat (first | (with_reducible first | exact HB.out | apply below_alloc | apply pw_below_drewN | apply below_drew1 | refine below_set ?_ GE143.out | refine below_set ?_ GE144.out | refine below_set ?_ GE163.out) | exact HB.out)⟩
                        (try clear HO_6)
                        (try clear HO_42)
                        (try clear HO_144002)
                        (try clear HO_144003)
                        (try clear HL162_3)
                        (try clear HL162_4)
                        (try clear BK143)
                        (try clear BK144)
                        (try clear BK163)
                        (try clear HB)
                        generalize (((((w48.setCell ⟨gb163, 0, none⟩ (.string ((rd_T32 x144003_1 x44_2).f0))).setCell ⟨gb163, 1, none⟩ (.int .u8 ((rd_T32 x144003_1 x44_2).f1.f0))).setCell ⟨gb163, 2, none⟩ (.string ((rd_T32 x144003_1 x44_2).f1.f1))).setCell ⟨gb163, 3, none⟩ (.slice A162_3 ((rd_T32 x144003_1 x44_2).f1.f2).length c162_3)).setCell ⟨gb163, 4, none⟩ (.slice A162_4 ((rd_T32 x144003_1 x44_2).f1.f3).length c162_4)) = w52 at n0_ n1_ n2_ n3_ n4_ n5_ n6_ n7_ n8_ n9_ ⊢
                        have HO_6 := n0_
                        have HO_42 := n1_
                        have HO_144002 := n2_
                        have HO_144003 := n3_
                        have HL162_3 := n4_
                        have HL162_4 := n5_
                        have BK143 := n6_
                        have BK144 := n7_
                        have BK163 := n8_
                        have HB := n9_
                        clear n0_ n1_ n2_ n3_ n4_ n5_ n6_ n7_ n8_ n9_
                        have n0_ := Aside0.mk (Kd.N_drew HO_6.out)
                        have n1_ := Aside0.mk (Kd.V_drew HO_42.out)
                        have n2_ := Aside0.mk (Kd.VW_drew HO_144002.out)
                        have n3_ := Aside0.mk (Kd.V_drew HO_144003.out)
                        have n4_ := Aside0.mk (Kd.V_drew HL162_3.out)
                        have n5_ := Aside0.mk (Kd.V_drew HL162_4.out)
                        have n6_ := Aside0.mk (blk_drew BK143.out)
                        have n7_ := Aside0.mk (blk_drew BK144.out)
                        have n8_ := Aside0.mk (blk_drew BK163.out)
                        have n9_ := Aside0.mk (below_drew1 HB.out)
                        clear HO_6
                        clear HO_42
                        clear HO_144002
                        clear HO_144003
                        clear HL162_3
                        clear HL162_4
                        clear BK143
                        clear BK144
                        clear BK163
                        clear HB
                        have HO_6 := n0_
                        have HO_42 := n1_
                        have HO_144002 := n2_
                        have HO_144003 := n3_
                        have HL162_3 := n4_
                        have HL162_4 := n5_
                        have BK143 := n6_
                        have BK144 := n7_
                        have BK163 := n8_
                        have HB := n9_
                        clear n0_ n1_ n2_ n3_ n4_ n5_ n6_ n7_ n8_ n9_
                        refine start_ (n := 10) (S := fun w' => w'.cell? ⟨gb163, 0, none⟩ = some (.string ((rd_T32 x144003_1 x44_2).f0)) ∧ w'.cell? ⟨gb163, 1, none⟩ = some (.int .u8 ((rd_T32 x144003_1 x44_2).f1.f0)) ∧ w'.cell? ⟨gb163, 2, none⟩ = some (.string ((rd_T32 x144003_1 x44_2).f1.f1)) ∧ w'.cell? ⟨gb163, 3, none⟩ = some (.slice A162_3 ((rd_T32 x144003_1 x44_2).f1.f2).length c162_3) ∧ w'.cell? ⟨gb163, 4, none⟩ = some (.slice A162_4 ((rd_T32 x144003_1 x44_2).f1.f3).length c162_4)) (ds := [9]) #[false, false, false, false, false, false, false, false, false, false] (by kernel_rfl) rfl rfl ⟨(blk_cell BK163.out 0).trans rfl, (blk_cell BK163.out 1).trans rfl, (blk_cell BK163.out 2).trans rfl, (blk_cell BK163.out 3).trans rfl, (blk_cell BK163.out 4).trans rfl⟩ (fun hHeld => ?_); refine with_tabW json_twin.tab14 json_twin.bits14 (fun HT_ HW_ => ?_)
                        generalize w52.drew = w53 at HO_6 HO_42 HO_144002 HO_144003 HL162_3 HL162_4 BK143 BK144 BK163 HB hHeld ⊢
                        refine pure_ (i := 0) (N := some 49) (v := ?_) (a' := ?_) #[true, false, false, false, false, false, false, false, false, false] rfl rfl (any_of HT_.out (by kernel_rfl)) (fun _ _ _ h => h) (Or.inl ⟨by rfl, ?_⟩) ?_ ?_
                        rotate_left
                        · intro w'
                          go_simp
                          with_reducible rfl
                        rotate_left
                        · simp only [Act.put, List.setIfInBounds_toArray, List.set_cons_zero, List.set_cons_succ, i64_w, i32_w]
                          rfl
                        refine pure_ (i := 1) (N := some 50) (v := ?_) (a' := ?_) #[true, true, false, false, false, false, false, false, false, false] rfl rfl (any_of HT_.out (by kernel_rfl)) (fun _ _ _ h => h) (Or.inl ⟨by rfl, ?_⟩) ?_ ?_
                        rotate_left
                        · intro w'
                          go_simp
                          with_reducible rfl
                        rotate_left
                        · simp only [Act.put, List.setIfInBounds_toArray, List.set_cons_zero, List.set_cons_succ, i64_w, i32_w]
                          rfl
                        refine pure_ (i := 2) (N := some 51) (v := ?_) (a' := ?_) #[true, true, true, false, false, false, false, false, false, false] rfl rfl (any_of HT_.out (by kernel_rfl)) (fun _ _ _ h => h) (Or.inl ⟨by rfl, ?_⟩) ?_ ?_
                        rotate_left
                        · intro w'
                          go_simp
                          with_reducible rfl
                        rotate_left
                        · simp only [Act.put, List.setIfInBounds_toArray, List.set_cons_zero, List.set_cons_succ, i64_w, i32_w]
                          rfl
                        refine pure_ (i := 4) (N := some 53) (v := ?_) (a' := ?_) #[true, true, true, false, true, false, false, false, false, false] rfl rfl (any_of HT_.out (by kernel_rfl)) (fun _ _ _ h => h) (Or.inl ⟨by rfl, ?_⟩) ?_ ?_
                        rotate_left
                        · intro w'
                          go_simp
                          with_reducible rfl
                        rotate_left
                        · simp only [Act.put, List.setIfInBounds_toArray, List.set_cons_zero, List.set_cons_succ, i64_w, i32_w]
                          rfl
                        refine take_ (i := 3) (N := some 52) (v := ?_) (a' := ?_) #[true, true, true, true, true, false, false, false, false, false] rfl rfl (take_ofW HT_.out HW_.out (by kernel_rfl)) (fun _ _ _ h => h) (Or.inl ⟨by rfl, ?_⟩) hHeld ?_ ?_
                        rotate_left
                        · rintro w' ⟨s0, s1, s2, s3, s4⟩
                          go_simp
                          with_reducible rfl
                        rotate_left
                        · simp only [Act.put, List.setIfInBounds_toArray, List.set_cons_zero, List.set_cons_succ, i64_w, i32_w]
                          rfl
                        refine take_ (i := 5) (N := some 54) (v := ?_) (a' := ?_) #[true, true, true, true, true, true, false, false, false, false] rfl rfl (take_ofW HT_.out HW_.out (by kernel_rfl)) (fun _ _ _ h => h) (Or.inl ⟨by rfl, ?_⟩) hHeld ?_ ?_
                        rotate_left
                        · rintro w' ⟨s0, s1, s2, s3, s4⟩
                          go_simp
                          with_reducible rfl
                        rotate_left
                        · simp only [Act.put, List.setIfInBounds_toArray, List.set_cons_zero, List.set_cons_succ, i64_w, i32_w]
                          rfl
                        refine one_ (i := 6) (N := some 55) #[true, true, true, true, true, true, true, false, false, false] rfl rfl (one_of HT_.out (by kernel_rfl)) (by decide) (fun K hK => ?_)
                        refine goes_ Try.func10 (by kernel_rfl) rfl #[.agg #[.int .u8 ((rd_T32 x144003_1 x44_2).f1.f0), .string ((rd_T32 x144003_1 x44_2).f1.f1), .slice A162_3 ((rd_T32 x144003_1 x44_2).f1.f2).length c162_3, .slice A162_4 ((rd_T32 x144003_1 x44_2).f1.f3).length c162_4]] (by rfl) rfl rfl (by (try simp only [List.map_toArray, List.map_cons, List.map_nil]); first | done | rfl | (simp only [List.length_drop, List.length_take]; rfl)) ?_
                        with_reducible refine (ih k2 (by have := HJ1.out; have := HK2.out; omega) ((rd_T32 x144003_1 x44_2).f1.f0) ((rd_T32 x144003_1 x44_2).f1.f1) (fun k_ => (((P0_2_ k_ ∨ P0_3_ k_) ∨ w.heap.size ≤ k_) ∧ (some k_ ≠ (v160 : Value).ownBlock ∧ (k_ ≠ gb143 ∧ (k_ ≠ gb144 ∧ k_ ≠ gb163))))) _ _ ((rd_T32 x144003_1 x44_2).f1.f2) (fun k_ => (((P0_2_ k_ ∨ P0_3_ k_) ∨ w.heap.size ≤ k_) ∧ (some k_ ≠ (v160 : Value).ownBlock ∧ (k_ ≠ gb143 ∧ (k_ ≠ gb144 ∧ k_ ≠ gb163))))) _ _ ((rd_T32 x144003_1 x44_2).f1.f3) t164 t165 t166 t169 _ ?side1 ?side2 A45.out).mono ?_
                        (case side1 => exact HL162_3.out)
                        (case side2 => exact HL162_4.out)
                        rintro e w54 ⟨v167, v170, rfl, ho0, ho1, hb⟩; replace ho0 := Kd.VW_fst ho0; replace ho1 := Kd.VW_fst ho1
                        refine ⟨_, rfl, ?_⟩
                        have n0_ := Aside0.mk (Kd.N_below (by (with_reducible repeat (first | apply Kd.N_alloc | apply Kd.N_drewN | apply Kd.N_drew)); exact HO_6.out) hb)
                        have n1_ := Aside0.mk (Kd.V_below (by (with_reducible repeat (first | apply Kd.V_alloc | apply Kd.V_drewN | apply Kd.V_drew)); exact HO_42.out) hb)
                        have n2_ := Aside0.mk (Kd.VW_below (by (with_reducible repeat (first | apply Kd.VW_alloc | apply Kd.VW_drewN | apply Kd.VW_drew)); exact HO_144002.out) hb)
                        have n3_ := Aside0.mk (Kd.V_below (by (with_reducible repeat (first | apply Kd.V_alloc | apply Kd.V_drewN | apply Kd.V_drew)); exact HO_144003.out) hb)
                        have n4_ := Aside0.mk (Kd.V_below (by (with_reducible repeat (first | apply Kd.V_alloc | apply Kd.V_drewN | apply Kd.V_drew)); exact HL162_3.out) hb)
                        have n5_ := Aside0.mk (Kd.V_below (by (with_reducible repeat (first | apply Kd.V_alloc | apply Kd.V_drewN | apply Kd.V_drew)); exact HL162_4.out) hb)
                        have n6_ := Aside0.mk (Kd.V_lower (Kd.V_mono (ok' := fun k_ => ((P0_2_ k_ ∨ P0_3_ k_) ∨ w.heap.size ≤ k_) ∧ some k_ ≠ (v160 : Value).ownBlock ∧ k_ ≠ gb143 ∧ k_ ≠ gb144 ∧ k_ ≠ gb163) ho0 (fun k_ hk_ => ⟨Or.elim hk_ (fun hs_ => Or.elim hs_ (fun hs_ => hs_.1) (fun hs_ => hs_.1)) (fun hn_ => (.inr (Nat.le_trans (below_size (by repeat (first | (with_reducible first | exact HB.out | apply below_alloc | apply pw_below_drewN | apply below_drew1 | refine below_set ?_ GE143.out | refine below_set ?_ GE144.out | refine below_set ?_ GE163.out) | exact HB.out))) hn_))), Or.elim hk_ (fun hs_ => Or.elim hs_ (fun hs_ => hs_.2.1) (fun hs_ => hs_.2.1)) (fun hn_ => (Kd.fresh' (Kd.N_lt (by (with_reducible repeat (first | apply Kd.N_alloc | apply Kd.N_drewN | apply Kd.N_drew)); exact HO_6.out)) k_ hn_)), Or.elim hk_ (fun hs_ => Or.elim hs_ (fun hs_ => hs_.2.2.1) (fun hs_ => hs_.2.2.1)) (fun hn_ => (Kd.freshB (g := gb143) (o := .cells #[.int .u8 x144000_1, .string x144001_1, u144002, .slice (some ad162) x144003_1.length co38] 25 (0, 0)) (by (with_reducible repeat (first | refine blk_drewN ?_ _ | refine blk_drew ?_ | refine blk_alloc ?_ _)); exact BK143.out) k_ hn_)), Or.elim hk_ (fun hs_ => Or.elim hs_ (fun hs_ => hs_.2.2.2.1) (fun hs_ => hs_.2.2.2.1)) (fun hn_ => (Kd.freshB (g := gb144) (o := .cells #[.int .u8 x145000_1, .string x145001_1, .slice none 0 0, .slice none 0 0] 25 (0, 0)) (by (with_reducible repeat (first | refine blk_drewN ?_ _ | refine blk_drew ?_ | refine blk_alloc ?_ _)); exact BK144.out) k_ hn_)), Or.elim hk_ (fun hs_ => Or.elim hs_ (fun hs_ => hs_.2.2.2.2) (fun hs_ => hs_.2.2.2.2)) (fun hn_ => (Kd.freshB (g := gb163) (o := .cells #[.string ((rd_T32 x144003_1 x44_2).f0), .int .u8 ((rd_T32 x144003_1 x44_2).f1.f0), .string ((rd_T32 x144003_1 x44_2).f1.f1), .slice A162_3 ((rd_T32 x144003_1 x44_2).f1.f2).length c162_3, .slice A162_4 ((rd_T32 x144003_1 x44_2).f1.f3).length c162_4] 32 (0, 0)) (by (with_reducible repeat (first | refine blk_drewN ?_ _ | refine blk_drew ?_ | refine blk_alloc ?_ _)); exact BK163.out) k_ hn_))⟩)) (below_size (by repeat (first | (with_reducible first | exact HB.out | apply below_alloc | apply pw_below_drewN | apply below_drew1 | refine below_set ?_ GE143.out | refine below_set ?_ GE144.out | refine below_set ?_ GE163.out) | exact HB.out))))
                        have n7_ := Aside0.mk (Kd.V_lower (Kd.V_mono (ok' := fun k_ => ((P0_2_ k_ ∨ P0_3_ k_) ∨ w.heap.size ≤ k_) ∧ some k_ ≠ (v160 : Value).ownBlock ∧ k_ ≠ gb143 ∧ k_ ≠ gb144 ∧ k_ ≠ gb163) ho1 (fun k_ hk_ => ⟨Or.elim hk_ (fun hs_ => Or.elim hs_ (fun hs_ => hs_.1) (fun hs_ => hs_.1)) (fun hn_ => (.inr (Nat.le_trans (below_size (by repeat (first | (with_reducible first | exact HB.out | apply below_alloc | apply pw_below_drewN | apply below_drew1 | refine below_set ?_ GE143.out | refine below_set ?_ GE144.out | refine below_set ?_ GE163.out) | exact HB.out))) hn_))), Or.elim hk_ (fun hs_ => Or.elim hs_ (fun hs_ => hs_.2.1) (fun hs_ => hs_.2.1)) (fun hn_ => (Kd.fresh' (Kd.N_lt (by (with_reducible repeat (first | apply Kd.N_alloc | apply Kd.N_drewN | apply Kd.N_drew)); exact HO_6.out)) k_ hn_)), Or.elim hk_ (fun hs_ => Or.elim hs_ (fun hs_ => hs_.2.2.1) (fun hs_ => hs_.2.2.1)) (fun hn_ => (Kd.freshB (g := gb143) (o := .cells #[.int .u8 x144000_1, .string x144001_1, u144002, .slice (some ad162) x144003_1.length co38] 25 (0, 0)) (by (with_reducible repeat (first | refine blk_drewN ?_ _ | refine blk_drew ?_ | refine blk_alloc ?_ _)); exact BK143.out) k_ hn_)), Or.elim hk_ (fun hs_ => Or.elim hs_ (fun hs_ => hs_.2.2.2.1) (fun hs_ => hs_.2.2.2.1)) (fun hn_ => (Kd.freshB (g := gb144) (o := .cells #[.int .u8 x145000_1, .string x145001_1, .slice none 0 0, .slice none 0 0] 25 (0, 0)) (by (with_reducible repeat (first | refine blk_drewN ?_ _ | refine blk_drew ?_ | refine blk_alloc ?_ _)); exact BK144.out) k_ hn_)), Or.elim hk_ (fun hs_ => Or.elim hs_ (fun hs_ => hs_.2.2.2.2) (fun hs_ => hs_.2.2.2.2)) (fun hn_ => (Kd.freshB (g := gb163) (o := .cells #[.string ((rd_T32 x144003_1 x44_2).f0), .int .u8 ((rd_T32 x144003_1 x44_2).f1.f0), .string ((rd_T32 x144003_1 x44_2).f1.f1), .slice A162_3 ((rd_T32 x144003_1 x44_2).f1.f2).length c162_3, .slice A162_4 ((rd_T32 x144003_1 x44_2).f1.f3).length c162_4] 32 (0, 0)) (by (with_reducible repeat (first | refine blk_drewN ?_ _ | refine blk_drew ?_ | refine blk_alloc ?_ _)); exact BK163.out) k_ hn_))⟩)) (below_size (by repeat (first | (with_reducible first | exact HB.out | apply below_alloc | apply pw_below_drewN | apply below_drew1 | refine below_set ?_ GE143.out | refine below_set ?_ GE144.out | refine below_set ?_ GE163.out) | exact HB.out))))
                        have n8_ := Aside0.mk (blk_below (g := gb143) (o := .cells #[.int .u8 x144000_1, .string x144001_1, u144002, .slice (some ad162) x144003_1.length co38] 25 (0, 0)) (by (with_reducible repeat (first | refine blk_drewN ?_ _ | refine blk_drew ?_ | refine blk_alloc ?_ _)); exact BK143.out) hb)
                        have n9_ := Aside0.mk (blk_below (g := gb144) (o := .cells #[.int .u8 x145000_1, .string x145001_1, .slice none 0 0, .slice none 0 0] 25 (0, 0)) (by (with_reducible repeat (first | refine blk_drewN ?_ _ | refine blk_drew ?_ | refine blk_alloc ?_ _)); exact BK144.out) hb)
                        have n10_ := Aside0.mk (blk_below (g := gb163) (o := .cells #[.string ((rd_T32 x144003_1 x44_2).f0), .int .u8 ((rd_T32 x144003_1 x44_2).f1.f0), .string ((rd_T32 x144003_1 x44_2).f1.f1), .slice A162_3 ((rd_T32 x144003_1 x44_2).f1.f2).length c162_3, .slice A162_4 ((rd_T32 x144003_1 x44_2).f1.f3).length c162_4] 32 (0, 0)) (by (with_reducible repeat (first | refine blk_drewN ?_ _ | refine blk_drew ?_ | refine blk_alloc ?_ _)); exact BK163.out) hb)
                        have n11_ := Aside0.mk (below_step (by repeat (first | (with_reducible first | exact HB.out | apply below_alloc | apply pw_below_drewN | apply below_drew1 | refine below_set ?_ GE143.out | refine below_set ?_ GE144.out | refine below_set ?_ GE163.out) | exact HB.out)) hb)
                        clear HO_6
                        clear HO_42
                        clear HO_144002
                        clear HO_144003
                        clear HL162_3
                        clear HL162_4
                        clear BK143
                        clear BK144
                        clear BK163
                        clear HB
                        have HO_6 := n0_
                        have HO_42 := n1_
                        have HO_144002 := n2_
                        have HO_144003 := n3_
                        have HL162_3 := n4_
                        have HL162_4 := n5_
                        have HO168 := n6_
                        have HO171 := n7_
                        have BK143 := n8_
                        have BK144 := n9_
                        have BK163 := n10_
                        have HB := n11_
                        clear n0_ n1_ n2_ n3_ n4_ n5_ n6_ n7_ n8_ n9_ n10_ n11_
                        (try clear hb)
                        (try clear hb2)
                        (try clear hk)
                        (try clear hi)
                        (try clear ho0)
                        (try clear ho1)
                        obtain ⟨Ao55, co55, eo55⟩ := Kd.V_slice HO171.out
                        (first | subst eo55 | (injection eo55 with f1_ f2_ f3_; have f4_ := f1_.symm; have f5_ := f3_.symm; clear f1_ f2_ f3_; subst f4_; subst f5_))
                        obtain ⟨Ao56, co56, eo56⟩ := Kd.V_slice HO168.out
                        (first | subst eo56 | (injection eo56 with f1_ f2_ f3_; have f4_ := f1_.symm; have f5_ := f3_.symm; clear f1_ f2_ f3_; subst f4_; subst f5_))
                        have p47 : 0 ≤ (x44_2 : Int) := of_decide_eq_true (by first | (with_reducible assumption) | assumption)
                        have q47 : (x44_2 : Int) < ((x6_2.length : Int) : Int) := of_decide_eq_true (by first | (with_reducible assumption) | assumption)
                        obtain ⟨go47, co47, eo47, gb47, gl47, cl47, HG47⟩ := Kd.N_form HO_6.out (by omega)
                        (first | cases eo47 | (injection eo47 with ea_ en_ ec_; (first | subst ea_ | (injection ea_ with ea_; subst ea_)); subst ec_; clear en_))
                        have GB47 := Aside0.mk gb47
                        have GG47 := Aside0.mk HG47
                        clear gb47 gl47 HG47
                        obtain ⟨ce47, hcl47, hM47, hcc47, hfr47⟩ := Kd.N_elem HO_6.out z32 (x44_2 : Int) p47 q47
                        obtain ⟨ua47_3, uc47_3, ua47_4, uc47_4, rfl, ul47_3, ge47_3, ul47_4, ge47_4⟩ := k32_openF hM47
                        have hx47_0 : World.cell? _ ⟨go47, (x44_2 : Int).toNat * 5, none⟩ = some (.string ((rd_T32 x6_2 x44_2).f0)) := hcc47 0 _ rfl
                        have hx47_1 : World.cell? _ ⟨go47, (x44_2 : Int).toNat * 5 + 1, none⟩ = some (.int .u8 ((rd_T32 x6_2 x44_2).f1.f0)) := hcc47 1 _ rfl
                        have hx47_2 : World.cell? _ ⟨go47, (x44_2 : Int).toNat * 5 + 2, none⟩ = some (.string ((rd_T32 x6_2 x44_2).f1.f1)) := hcc47 2 _ rfl
                        have hx47_3 : World.cell? _ ⟨go47, (x44_2 : Int).toNat * 5 + 3, none⟩ = some (.slice ua47_3 ((rd_T32 x6_2 x44_2).f1.f2).length uc47_3) := hcc47 3 _ rfl
                        have hx47_4 : World.cell? _ ⟨go47, (x44_2 : Int).toNat * 5 + 4, none⟩ = some (.slice ua47_4 ((rd_T32 x6_2 x44_2).f1.f3).length uc47_4) := hcc47 4 _ rfl
                        have hf47_0 : World.frozen? _ ⟨go47, (x44_2 : Int).toNat * 5, none⟩ = false := hfr47 0
                        have hf47_1 : World.frozen? _ ⟨go47, (x44_2 : Int).toNat * 5 + 1, none⟩ = false := hfr47 1
                        have hf47_2 : World.frozen? _ ⟨go47, (x44_2 : Int).toNat * 5 + 2, none⟩ = false := hfr47 2
                        have hf47_3 : World.frozen? _ ⟨go47, (x44_2 : Int).toNat * 5 + 3, none⟩ = false := hfr47 3
                        have hf47_4 : World.frozen? _ ⟨go47, (x44_2 : Int).toNat * 5 + 4, none⟩ = false := hfr47 4
                        clear hcl47 hcc47 hfr47 hM47
                        replace p47 := eq_true p47
                        replace q47 := eq_true q47
                        have HX57 := Aside0.mk (show Kd.N k32 32 _ w.heap.size (fun k_ => ((P0_2_ k_ ∨ P0_3_ k_) ∨ w.heap.size ≤ k_) ∧ k_ ≠ gb143 ∧ k_ ≠ gb144 ∧ k_ ≠ gb163) (.slice (some ⟨go47, 0, none⟩) x6_2.length co47) x6_2 from (Kd.N_mono (HO_6.out) (fun k_ hk => ⟨hk.1, ⟨hk.2.1, ⟨hk.2.2.1, hk.2.2.2⟩⟩⟩)))
                        obtain ⟨ce57, hcl57, hM57, hcc57, hfr57⟩ := Kd.N_elem HX57.out z32 (x44_2 : Int) (of_decide_eq_true (by first | (with_reducible assumption) | assumption)) (by have h_ : (x44_2 : Int) < ((x6_2.length : Int) : Int) := of_decide_eq_true (by first | (with_reducible assumption) | assumption); first | exact h_ | (have e_ := (Kd.N_reads' HO_6.out).1; omega) | simpa using h_)
                        obtain ⟨ua57_3, uc57_3, ua57_4, uc57_4, rfl, ul57_3, ge57_3, ul57_4, ge57_4⟩ := k32_openF hM57
                        have HP57 := (Kd.N_seg HX57.out (x44_2 : Int) (of_decide_eq_true (by first | (with_reducible assumption) | assumption)) (by have h_ : (x44_2 : Int) < ((x6_2.length : Int) : Int) := of_decide_eq_true (by first | (with_reducible assumption) | assumption); first | exact h_ | (have e_ := (Kd.N_reads' HO_6.out).1; omega) | simpa using h_) (seg := [.string ((rd_T32 x144003_1 x44_2).f0), .int .u8 t164, .string t165, .slice Ao56 t166.length co56, .slice Ao55 t169.length co55]) (j := 0) hcl57 hcc57 (show 5 ≤ 5 from by decide) (x' := (⟨(rd_T32 x144003_1 x44_2).f0, (⟨t164, t165, t166, t169⟩ : S25)⟩ : S32)) (k32_mkFV (⟨(rd_T32 x144003_1 x44_2).f0, (⟨t164, t165, t166, t169⟩ : S25)⟩ : S32) (Kd.V_mono (ok' := (fun k_ => ((fun k_ => ((P0_2_ k_ ∨ P0_3_ k_) ∨ w.heap.size ≤ k_) ∧ k_ ≠ gb143 ∧ k_ ≠ gb144 ∧ k_ ≠ gb163)) k_ ∧ k_ ≠ go47)) (HO168.out) (fun k_ hk => ⟨⟨hk.1, ⟨hk.2.2.1, ⟨hk.2.2.2.1, hk.2.2.2.2⟩⟩⟩, fun e_ => (hk.2.1) (by rw [e_]; rfl)⟩)) (Kd.V_mono (ok' := (fun k_ => ((fun k_ => ((P0_2_ k_ ∨ P0_3_ k_) ∨ w.heap.size ≤ k_) ∧ k_ ≠ gb143 ∧ k_ ≠ gb144 ∧ k_ ≠ gb163)) k_ ∧ k_ ≠ go47)) (HO171.out) (fun k_ hk => ⟨⟨hk.1, ⟨hk.2.2.1, ⟨hk.2.2.2.1, hk.2.2.2.2⟩⟩⟩, fun e_ => (hk.2.1) (by rw [e_]; rfl)⟩))) (fun _ hk => hk)).1
                        rw [← Ny172.out] at HP57
                        have HQ57 := Aside0.mk HP57
                        clear hcl57 hcc57 hfr57 hM57 HP57
                        refine hK.out _ _ ⟨(blk_cell BK163.out 0).trans rfl, (blk_cell BK163.out 1).trans rfl, (blk_cell BK163.out 2).trans rfl, (blk_cell BK163.out 3).trans rfl, (blk_cell BK163.out 4).trans rfl⟩ (fun hHeld => ?_)
                        clear hK K
                        refine norm_ (a' := ?_) ?_ ?_
                        rotate_left
                        · show Act.put _ (some 55) _ = _
                          simp only [Act.put, List.setIfInBounds_toArray, List.set_cons_zero, List.set_cons_succ, i64_w, i32_w]
                          rfl
                        refine pure_ (i := 7) (N := some 56) (v := ?_) (a' := ?_) #[true, true, true, true, true, true, true, true, false, false] rfl rfl (any_of HT_.out (by kernel_rfl)) (fun _ _ _ h => h) (Or.inl ⟨by rfl, ?_⟩) ?_ ?_
                        rotate_left
                        · intro w'
                          go_simp
                          with_reducible rfl
                        rotate_left
                        · simp only [Act.put, List.setIfInBounds_toArray, List.set_cons_zero, List.set_cons_succ, i64_w, i32_w]
                          rfl
                        refine pure_ (i := 8) (N := some 57) (v := ?_) (a' := ?_) #[true, true, true, true, true, true, true, true, true, false] rfl rfl (any_of HT_.out (by kernel_rfl)) (fun _ _ _ h => h) (Or.inl ⟨by rfl, ?_⟩) ?_ ?_
                        rotate_left
                        · intro w'
                          go_simp
                          with_reducible rfl
                        rotate_left
                        · simp only [Act.put, List.setIfInBounds_toArray, List.set_cons_zero, List.set_cons_succ, i64_w, i32_w]
                          rfl
                        refine last_ (i := 9) (N := none) #[true, true, true, true, true, true, true, true, true, true] rfl rfl (one_of HT_.out (by kernel_rfl)) (by decide) (fun K hK => ?_)
                        refine skip_ (w1 := ?_) (by rfl) rfl ?_ ?_
                        rotate_left
                        · go_simp
                          rfl
                        refine hK.out _ _ ?_
                        clear hK K
                        refine done_ (done_of HT_.out (by kernel_rfl)) ?_
                        try go_wp2
                        go_roundg k2
                        case measure => have := HJ1.out; have := HK2.out; omega
                        case rel => exact ⟨(y172), (wrap64 (x44_2 + 1)), (by first | rfl | (simp; done) | (simp [*]; done)), H', ⟨by have := HJ1.out; have := HK2.out; omega⟩, ⟨by (with_reducible repeat (first | apply Kd.N_alloc | apply Kd.N_drewN | apply Kd.N_drew)); exact Kd.N_mono HQ57.out (fun _ hk => ⟨hk.1, ⟨hk.2.1, hk.2.2.1⟩⟩)⟩, ⟨by (with_reducible repeat (first | apply Kd.V_alloc | apply Kd.V_drewN | apply Kd.V_drew)); exact Kd.V_mono (Kd.V_far (p := ⟨go47, (x44_2 : Int).toNat * 5 + 4, none⟩) (Kd.V_far (p := ⟨go47, (x44_2 : Int).toNat * 5 + 3, none⟩) (Kd.V_far (p := ⟨go47, (x44_2 : Int).toNat * 5 + 2, none⟩) (Kd.V_far (p := ⟨go47, (x44_2 : Int).toNat * 5 + 1, none⟩) (Kd.V_far (p := ⟨go47, (x44_2 : Int).toNat * 5, none⟩) (Kd.V_mono HO_42.out (fun k_ hk => (⟨hk, fun e_ => hk.2.1 (by rw [e_]; rfl)⟩ : _ ∧ k_ ≠ go47))) (fun _ hk => hk.2) (.string ((rd_T32 x144003_1 x44_2).f0))) (fun _ hk => hk.2) (.int .u8 t164)) (fun _ hk => hk.2) (.string t165)) (fun _ hk => hk.2) (.slice Ao56 t166.length co56)) (fun _ hk => hk.2) (.slice Ao55 t169.length co55)) (fun _ hk => ⟨hk.1.1, ⟨hk.1.2.1, ⟨hk.1.2.2.1, hk.1.2.2.2.1⟩⟩⟩)⟩, ⟨by (with_reducible repeat (first | apply Kd.VW_alloc | apply Kd.VW_drewN | apply Kd.VW_drew)); exact Kd.VW_mono (Kd.VW_far (p := ⟨go47, (x44_2 : Int).toNat * 5 + 4, none⟩) (Kd.VW_far (p := ⟨go47, (x44_2 : Int).toNat * 5 + 3, none⟩) (Kd.VW_far (p := ⟨go47, (x44_2 : Int).toNat * 5 + 2, none⟩) (Kd.VW_far (p := ⟨go47, (x44_2 : Int).toNat * 5 + 1, none⟩) (Kd.VW_far (p := ⟨go47, (x44_2 : Int).toNat * 5, none⟩) (Kd.VW_mono HO_144002.out (fun k_ hk => (⟨hk, fun e_ => hk.2.1 (by rw [e_]; rfl)⟩ : _ ∧ k_ ≠ go47))) (fun _ hk => hk.2) (.string ((rd_T32 x144003_1 x44_2).f0))) (fun _ hk => hk.2) (.int .u8 t164)) (fun _ hk => hk.2) (.string t165)) (fun _ hk => hk.2) (.slice Ao56 t166.length co56)) (fun _ hk => hk.2) (.slice Ao55 t169.length co55)) (fun _ hk => ⟨hk.1.1, ⟨hk.1.2.1, ⟨hk.1.2.2.1, hk.1.2.2.2.1⟩⟩⟩)⟩, ⟨by (with_reducible repeat (first | apply Kd.V_alloc | apply Kd.V_drewN | apply Kd.V_drew)); exact Kd.V_mono (Kd.V_far (p := ⟨go47, (x44_2 : Int).toNat * 5 + 4, none⟩) (Kd.V_far (p := ⟨go47, (x44_2 : Int).toNat * 5 + 3, none⟩) (Kd.V_far (p := ⟨go47, (x44_2 : Int).toNat * 5 + 2, none⟩) (Kd.V_far (p := ⟨go47, (x44_2 : Int).toNat * 5 + 1, none⟩) (Kd.V_far (p := ⟨go47, (x44_2 : Int).toNat * 5, none⟩) (Kd.V_mono HO_144003.out (fun k_ hk => (⟨hk, fun e_ => hk.2.1 (by rw [e_]; rfl)⟩ : _ ∧ k_ ≠ go47))) (fun _ hk => hk.2) (.string ((rd_T32 x144003_1 x44_2).f0))) (fun _ hk => hk.2) (.int .u8 t164)) (fun _ hk => hk.2) (.string t165)) (fun _ hk => hk.2) (.slice Ao56 t166.length co56)) (fun _ hk => hk.2) (.slice Ao55 t169.length co55)) (fun _ hk => ⟨hk.1.1, ⟨hk.1.2.1, ⟨hk.1.2.2.1, hk.1.2.2.2.1⟩⟩⟩)⟩, ⟨by (with_reducible repeat (first | refine blk_drewN ?_ _ | refine blk_drew ?_ | refine blk_alloc ?_ _)); refine blk_far ?_ (by have h_ := Kd.N_away HO_6.out (fun _ hk => hk.2.1); intro e_; exact h_ (by rw [e_]; rfl)) _; (with_reducible repeat (first | refine blk_drewN ?_ _ | refine blk_drew ?_ | refine blk_alloc ?_ _)); refine blk_far ?_ (by have h_ := Kd.N_away HO_6.out (fun _ hk => hk.2.1); intro e_; exact h_ (by rw [e_]; rfl)) _; (with_reducible repeat (first | refine blk_drewN ?_ _ | refine blk_drew ?_ | refine blk_alloc ?_ _)); refine blk_far ?_ (by have h_ := Kd.N_away HO_6.out (fun _ hk => hk.2.1); intro e_; exact h_ (by rw [e_]; rfl)) _; (with_reducible repeat (first | refine blk_drewN ?_ _ | refine blk_drew ?_ | refine blk_alloc ?_ _)); refine blk_far ?_ (by have h_ := Kd.N_away HO_6.out (fun _ hk => hk.2.1); intro e_; exact h_ (by rw [e_]; rfl)) _; (with_reducible repeat (first | refine blk_drewN ?_ _ | refine blk_drew ?_ | refine blk_alloc ?_ _)); refine blk_far ?_ (by have h_ := Kd.N_away HO_6.out (fun _ hk => hk.2.1); intro e_; exact h_ (by rw [e_]; rfl)) _; (with_reducible repeat (first | refine blk_drewN ?_ _ | refine blk_drew ?_ | refine blk_alloc ?_ _)); exact BK143.out⟩, ⟨by (with_reducible repeat (first | refine blk_drewN ?_ _ | refine blk_drew ?_ | refine blk_alloc ?_ _)); refine blk_far ?_ (by have h_ := Kd.N_away HO_6.out (fun _ hk => hk.2.2.1); intro e_; exact h_ (by rw [e_]; rfl)) _; (with_reducible repeat (first | refine blk_drewN ?_ _ | refine blk_drew ?_ | refine blk_alloc ?_ _)); refine blk_far ?_ (by have h_ := Kd.N_away HO_6.out (fun _ hk => hk.2.2.1); intro e_; exact h_ (by rw [e_]; rfl)) _; (with_reducible repeat (first | refine blk_drewN ?_ _ | refine blk_drew ?_ | refine blk_alloc ?_ _)); refine blk_far ?_ (by have h_ := Kd.N_away HO_6.out (fun _ hk => hk.2.2.1); intro e_; exact h_ (by rw [e_]; rfl)) _; (with_reducible repeat (first | refine blk_drewN ?_ _ | refine blk_drew ?_ | refine blk_alloc ?_ _)); refine blk_far ?_ (by have h_ := Kd.N_away HO_6.out (fun _ hk => hk.2.2.1); intro e_; exact h_ (by rw [e_]; rfl)) _; (with_reducible repeat (first | refine blk_drewN ?_ _ | refine blk_drew ?_ | refine blk_alloc ?_ _)); refine blk_far ?_ (by have h_ := Kd.N_away HO_6.out (fun _ hk => hk.2.2.1); intro e_; exact h_ (by rw [e_]; rfl)) _; (with_reducible repeat (first | refine blk_drewN ?_ _ | refine blk_drew ?_ | refine blk_alloc ?_ _)); exact BK144.out⟩, ⟨by repeat (first | (with_reducible first | exact HB.out | apply below_alloc | apply pw_below_drewN | apply below_drew1 | refine below_set ?_ GB47.out | refine below_set ?_ GB47.out | refine below_set ?_ GB47.out | refine below_set ?_ GB47.out | refine below_set ?_ GB47.out | refine below_set ?_ GE143.out | refine below_set ?_ GE144.out | refine below_set ?_ GE163.out) | exact HB.out)⟩⟩
                      · rw [if_neg c46] at H
                        exact absurd H (by simp)
                    · rw [if_neg c44] at H
                      exact absurd H (by simp)
                  · rw [if_neg c43] at H
                    exact absurd H (by simp)
                · rw [if_neg c42] at H
                  have c42b0 : decide (x44_2 < (x144003_1.length : Int)) = false := decide_eq_false c42
                  clear c42
                  simp only [Option.some.injEq, Prod.mk.injEq] at H
                  obtain ⟨rfl, rfl, rfl, rfl⟩ := H
                  obtain ⟨Ao58, co58, eo58⟩ := Kd.N_slice HO_6.out
                  subst eo58
                  have hnb59 := NB143_144.out
                  have hnc59 := NB144_143.out
                  have hcz60_0 : wr.cell? ⟨gb143, 0, none⟩ = some (.int .u8 x144000_1) := (blk_cell BK143.out 0).trans rfl
                  have hcz60_1 : wr.cell? ⟨gb143, 1, none⟩ = some (.string x144001_1) := (blk_cell BK143.out 1).trans rfl
                  have hcz60_2 : wr.cell? ⟨gb143, 2, none⟩ = some (u144002) := (blk_cell BK143.out 2).trans rfl
                  have hcz60_3 : wr.cell? ⟨gb143, 3, none⟩ = some (.slice Ao38 x144003_1.length co38) := (blk_cell BK143.out 3).trans rfl
                  have hfz60_0 := blk_frozen BK143.out 0
                  have hfz60_1 := blk_frozen BK143.out 1
                  have hfz60_2 := blk_frozen BK143.out 2
                  have hfz60_3 := blk_frozen BK143.out 3
                  have hcz61_0 : wr.cell? ⟨gb144, 0, none⟩ = some (.int .u8 x145000_1) := (blk_cell BK144.out 0).trans rfl
                  have hcz61_1 : wr.cell? ⟨gb144, 1, none⟩ = some (.string x145001_1) := (blk_cell BK144.out 1).trans rfl
                  have hcz61_2 : wr.cell? ⟨gb144, 2, none⟩ = some (.slice none 0 0) := (blk_cell BK144.out 2).trans rfl
                  have hcz61_3 : wr.cell? ⟨gb144, 3, none⟩ = some (.slice none 0 0) := (blk_cell BK144.out 3).trans rfl
                  have hfz61_0 := blk_frozen BK144.out 0
                  have hfz61_1 := blk_frozen BK144.out 1
                  have hfz61_2 := blk_frozen BK144.out 2
                  have hfz61_3 := blk_frozen BK144.out 3
                  obtain ⟨Ao62, co62, eo62⟩ := Kd.VW_slice HO_144002.out
                  subst eo62
                  go_wp2
                  refine bodyPost_ret (results_cell_row rfl _ _ gb144 25 #[.int .u8 x144000_1, .string x144001_1, .slice Ao62 x144002_1.length co62, .slice Ao58 x6_2.length co58] (0, 0) _ rfl (by (with_reducible repeat (first | refine blk_drewN ?_ _ | refine blk_drew ?_ | refine blk_alloc ?_ _)); refine blk_put (cs := #[.int .u8 x144000_1, .string x144001_1, .slice Ao62 x144002_1.length co62, .slice none 0 0]) ?_ 3 _ rfl; (with_reducible repeat (first | refine blk_drewN ?_ _ | refine blk_drew ?_ | refine blk_alloc ?_ _)); refine blk_put (cs := #[.int .u8 x144000_1, .string x144001_1, .slice none 0 0, .slice none 0 0]) ?_ 2 _ rfl; (with_reducible repeat (first | refine blk_drewN ?_ _ | refine blk_drew ?_ | refine blk_alloc ?_ _)); refine blk_put (cs := #[.int .u8 x144000_1, .string x145001_1, .slice none 0 0, .slice none 0 0]) ?_ 1 _ rfl; (with_reducible repeat (first | refine blk_drewN ?_ _ | refine blk_drew ?_ | refine blk_alloc ?_ _)); refine blk_put (cs := #[.int .u8 x145000_1, .string x145001_1, .slice none 0 0, .slice none 0 0]) ?_ 0 _ rfl; (with_reducible repeat (first | refine blk_drewN ?_ _ | refine blk_drew ?_ | refine blk_alloc ?_ _)); refine blk_far ?_ NB144_143.out _; (with_reducible repeat (first | refine blk_drewN ?_ _ | refine blk_drew ?_ | refine blk_alloc ?_ _)); exact BK144.out) Try.underlying25 rfl (by kernel_rfl)) rfl ?_
                  exact ⟨_, _, by first | rfl | (simp [errW_none, errW_some] <;> rfl) | (simp [*, errW_none, errW_some] <;> rfl), by (with_reducible repeat (first | apply Kd.VW_alloc | apply Kd.VW_drewN | apply Kd.VW_drew)); exact Kd.VW_mono (Kd.VW_far (p := ⟨gb144, 3, none⟩) (Kd.VW_far (p := ⟨gb144, 2, none⟩) (Kd.VW_far (p := ⟨gb144, 1, none⟩) (Kd.VW_far (p := ⟨gb144, 0, none⟩) (Kd.VW_far (p := ⟨gb143, 3, none⟩) (Kd.VW_mono (Kd.VW_mono HO_144002.out (fun k_ hk => (⟨hk, hk.2.2.1⟩ : _ ∧ k_ ≠ gb143))) (fun k_ hk => (⟨hk, hk.1.2.2.2⟩ : _ ∧ k_ ≠ gb144))) (fun _ hk => hk.1.2) (.slice Ao58 x6_2.length co58)) (fun _ hk => hk.2) (.int .u8 x144000_1)) (fun _ hk => hk.2) (.string x144001_1)) (fun _ hk => hk.2) (.slice Ao62 x144002_1.length co62)) (fun _ hk => hk.2) (.slice Ao58 x6_2.length co58)) (fun _ hk => hk.1.1.1), Kd.N_VW (by (with_reducible repeat (first | apply Kd.N_alloc | apply Kd.N_drewN | apply Kd.N_drew)); exact Kd.N_mono (Kd.N_far (p := ⟨gb144, 3, none⟩) (Kd.N_far (p := ⟨gb144, 2, none⟩) (Kd.N_far (p := ⟨gb144, 1, none⟩) (Kd.N_far (p := ⟨gb144, 0, none⟩) (Kd.N_far (p := ⟨gb143, 3, none⟩) (Kd.N_mono (Kd.N_mono HO_6.out (fun k_ hk => (⟨hk, hk.2.1⟩ : _ ∧ k_ ≠ gb143))) (fun k_ hk => (⟨hk, hk.1.2.2⟩ : _ ∧ k_ ≠ gb144))) (fun _ hk => hk.1.2) (.slice Ao58 x6_2.length co58)) (fun _ hk => hk.2) (.int .u8 x144000_1)) (fun _ hk => hk.2) (.string x144001_1)) (fun _ hk => hk.2) (.slice Ao62 x144002_1.length co62)) (fun _ hk => hk.2) (.slice Ao58 x6_2.length co58)) (fun _ hk => hk.1.1.1)), by repeat (first | (with_reducible first | exact HB.out | apply below_alloc | apply pw_below_drewN | apply below_drew1 | refine below_set ?_ GE143.out | refine below_set ?_ GE144.out) | exact HB.out)⟩
          · rw [if_neg c35] at H
            exact absurd H (by simp)
        · rw [if_neg c34] at H
          exact absurd H (by simp)
      · rw [if_neg c33] at H
        have c33b0 : decide (0 < (x144003_1.length : Int)) = false := decide_eq_false c33
        have c33b1 : decide (0 < x144003_1.length) = false := decide_eq_false (by omega)
        have c33b2 : ¬ (0 < x144003_1.length) := of_decide_eq_false c33b1
        clear c33
        simp only [Option.some.injEq, Prod.mk.injEq] at H
        obtain ⟨rfl, rfl, rfl, rfl⟩ := H
        have hnb63 := NB143_144.out
        have hnc63 := NB144_143.out
        have hcz64_0 : wc.cell? ⟨gb143, 0, none⟩ = some (.int .u8 x144000_1) := (blk_cell BK143.out 0).trans rfl
        have hcz64_1 : wc.cell? ⟨gb143, 1, none⟩ = some (.string x144001_1) := (blk_cell BK143.out 1).trans rfl
        have hcz64_2 : wc.cell? ⟨gb143, 2, none⟩ = some (u144002) := (blk_cell BK143.out 2).trans rfl
        have hcz64_3 : wc.cell? ⟨gb143, 3, none⟩ = some (u144003) := (blk_cell BK143.out 3).trans rfl
        have hfz64_0 := blk_frozen BK143.out 0
        have hfz64_1 := blk_frozen BK143.out 1
        have hfz64_2 := blk_frozen BK143.out 2
        have hfz64_3 := blk_frozen BK143.out 3
        obtain ⟨Ao65, co65, eo65⟩ := Kd.V_slice HO_144003.out
        subst eo65
        have hcz66_0 : wc.cell? ⟨gb144, 0, none⟩ = some (.int .u8 x145000_1) := (blk_cell BK144.out 0).trans rfl
        have hcz66_1 : wc.cell? ⟨gb144, 1, none⟩ = some (.string x145001_1) := (blk_cell BK144.out 1).trans rfl
        have hcz66_2 : wc.cell? ⟨gb144, 2, none⟩ = some (.slice none 0 0) := (blk_cell BK144.out 2).trans rfl
        have hcz66_3 : wc.cell? ⟨gb144, 3, none⟩ = some (.slice none 0 0) := (blk_cell BK144.out 3).trans rfl
        have hfz66_0 := blk_frozen BK144.out 0
        have hfz66_1 := blk_frozen BK144.out 1
        have hfz66_2 := blk_frozen BK144.out 2
        have hfz66_3 := blk_frozen BK144.out 3
        obtain ⟨Ao67, co67, eo67⟩ := Kd.VW_slice HO_144002.out
        subst eo67
        go_wp2
        refine bodyPost_ret (results_cell_row rfl _ _ gb144 25 #[.int .u8 x144000_1, .string x144001_1, .slice Ao67 x144002_1.length co67, .slice Ao65 x144003_1.length co65] (0, 0) _ rfl (by (with_reducible repeat (first | refine blk_drewN ?_ _ | refine blk_drew ?_ | refine blk_alloc ?_ _)); refine blk_put (cs := #[.int .u8 x144000_1, .string x144001_1, .slice Ao67 x144002_1.length co67, .slice none 0 0]) ?_ 3 _ rfl; (with_reducible repeat (first | refine blk_drewN ?_ _ | refine blk_drew ?_ | refine blk_alloc ?_ _)); refine blk_put (cs := #[.int .u8 x144000_1, .string x144001_1, .slice none 0 0, .slice none 0 0]) ?_ 2 _ rfl; (with_reducible repeat (first | refine blk_drewN ?_ _ | refine blk_drew ?_ | refine blk_alloc ?_ _)); refine blk_put (cs := #[.int .u8 x144000_1, .string x145001_1, .slice none 0 0, .slice none 0 0]) ?_ 1 _ rfl; (with_reducible repeat (first | refine blk_drewN ?_ _ | refine blk_drew ?_ | refine blk_alloc ?_ _)); refine blk_put (cs := #[.int .u8 x145000_1, .string x145001_1, .slice none 0 0, .slice none 0 0]) ?_ 0 _ rfl; (with_reducible repeat (first | refine blk_drewN ?_ _ | refine blk_drew ?_ | refine blk_alloc ?_ _)); exact BK144.out) Try.underlying25 rfl (by kernel_rfl)) rfl ?_
        exact ⟨_, _, by first | rfl | (simp [errW_none, errW_some] <;> rfl) | (simp [*, errW_none, errW_some] <;> rfl), by (with_reducible repeat (first | apply Kd.VW_alloc | apply Kd.VW_drewN | apply Kd.VW_drew)); exact Kd.VW_mono (Kd.VW_far (p := ⟨gb144, 3, none⟩) (Kd.VW_far (p := ⟨gb144, 2, none⟩) (Kd.VW_far (p := ⟨gb144, 1, none⟩) (Kd.VW_far (p := ⟨gb144, 0, none⟩) (Kd.VW_mono HO_144002.out (fun k_ hk => (⟨hk, hk.2.2⟩ : _ ∧ k_ ≠ gb144))) (fun _ hk => hk.2) (.int .u8 x144000_1)) (fun _ hk => hk.2) (.string x144001_1)) (fun _ hk => hk.2) (.slice Ao67 x144002_1.length co67)) (fun _ hk => hk.2) (.slice Ao65 x144003_1.length co65)) (fun _ hk => hk.1.1), Kd.VW_nil (base := 0) (by (with_reducible repeat (first | apply Kd.V_alloc | apply Kd.V_drewN | apply Kd.V_drew)); exact Kd.V_mono (Kd.V_far (p := ⟨gb144, 3, none⟩) (Kd.V_far (p := ⟨gb144, 2, none⟩) (Kd.V_far (p := ⟨gb144, 1, none⟩) (Kd.V_far (p := ⟨gb144, 0, none⟩) (Kd.V_mono HO_144003.out (fun k_ hk => (⟨hk, hk.2.2⟩ : _ ∧ k_ ≠ gb144))) (fun _ hk => hk.2) (.int .u8 x144000_1)) (fun _ hk => hk.2) (.string x144001_1)) (fun _ hk => hk.2) (.slice Ao67 x144002_1.length co67)) (fun _ hk => hk.2) (.slice Ao65 x144003_1.length co65)) (fun _ hk => hk.1.1)) (by omega), by repeat (first | (with_reducible first | exact HB.out | apply below_alloc | apply pw_below_drewN | apply below_drew1 | refine below_set ?_ GE143.out | refine below_set ?_ GE144.out) | exact HB.out)⟩

end Go.Proofs.Ytahedgkdgnlcfaa.PJsonGets
