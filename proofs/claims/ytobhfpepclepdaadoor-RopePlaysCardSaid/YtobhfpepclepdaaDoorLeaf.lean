/- Ropes: units; a text as a piece. -/
import Derived.Test.YtobhfpepclepdaaDoorPair
import Derived.Test.YtobhfpepclepdaaDoorShelf
import Derived.Lib.RuneCount
import Derived.Laws.RangeString
import Derived.Laws.RangeAny
import Derived.LoopTactic
namespace Go.Proofs.YtobhfpepclepdaaDoor
open Go.RowKit Go.Proofs.YtobhfpepclepdaaDoorW.PrintWords Go.Proofs.YtobhfpepclepdaaDoorW.PrintLast Go.Proofs.YtobhfpepclepdaaDoorW.PrintMore
open Go.Proofs.YtobhfpepclepdaaDoor.PRope
open Go.Lib (decodeL validD)
set_option linter.unusedVariables false
attribute [local go_sem] fld0 fld1 fld2 fld3 fld4 fld5




theorem below_iter (w : World) (s : ByteArray) (pos : Nat) : Below w.heap.size w (w.iter s pos) := by
  exact (Below.refl _ _).alloc (Nat.le_refl _) _
/-- A character's units. -/
def uo (r : Nat) : Nat := if 65536 ≤ r then 2 else 1
theorem uo_le (r : Nat) : 1 ≤ uo r ∧ uo r ≤ 2 := by unfold uo; split <;> omega
theorem uo_of (r : Nat) : utf_of.f (r : Int) = some (uo r : Int) := by
  unfold utf_of.f uo
  by_cases h : 65536 ≤ r
  · rw [if_pos (by omega), if_pos h]; rfl
  · rw [if_neg (by omega), if_neg h]; rfl
set_option maxHeartbeats 2000000 in
set_option maxRecDepth 100000 in
theorem of_calls (r : Nat) (w : World) : Calls Tryd.prog 70 #[.int .i32 (r : Int)] w fun e w' => e = .returned (.int .i64 (uo r : Int)) ∧ w' = w := by
  unfold uo
  by_cases h : 65536 ≤ r
  · have h1 : (65536 : Int) ≤ (r : Int) := by omega
    rw [if_pos h]
    clear h
    go_enter Tryd.func70, Tryd.ntmps70
    go_wp2
    go_ret
    exact ⟨rfl, rfl⟩
  · have h1 : ¬ ((65536 : Int) ≤ (r : Int)) := by omega
    rw [if_neg h]
    clear h
    go_enter Tryd.func70, Tryd.ntmps70
    go_wp2
    go_ret
    exact ⟨rfl, rfl⟩
set_option maxHeartbeats 2000000 in
set_option maxRecDepth 100000 in
theorem units_calls (s : ByteArray) (w : World) (hs : s.size ≤ 1000000) :
    Calls Tryd.prog 55 #[.string s] w fun e w' => e = .returned (.int .i64 (units s.data.toList)) ∧ Below w.heap.size w w' := by
  have HU := Aside0.mk (units_le _ s.data.toList (Nat.le_refl _))
  have hsz : s.data.toList.length = s.size := by rw [Array.length_toList]; rfl
  go_enter Tryd.func55, Tryd.ntmps55
  go_wp2
  go_loopw [3] (fun n w' => ∃ (pos acc : Nat), w' = w.iter s pos ∧ n = .int .i64 acc ∧ Aside0 (acc + units (s.data.toList.drop pos) = units s.data.toList) ∧ pos ≤ s.size) (fun _ w' => s.size - w'.iterPos w.heap.size)
  case atStart => exact ⟨0, 0, rfl, rfl, ⟨by simp⟩, Nat.zero_le _⟩
  case round =>
    obtain ⟨pos, acc, rfl, rfl, hc, hb⟩ := hrel
    have hacc : acc ≤ 1000000 := by
      have h1 := hc.out
      have h2 := HU.out
      rw [hsz] at h2
      exact Nat.le_trans (Nat.le_trans (Nat.le_add_right _ _) (Nat.le_of_eq h1)) (Nat.le_trans h2 hs)
    by_cases hp : pos < s.size
    · have hnx : ∀ ty, (Instr.next (.pointer (some ⟨w.heap.size, 0, none⟩)) true ty).run Tryd.prog (w.iter s pos) = _ := fun ty => run_next_any w s pos ty hp
      have hwd := Lib.decode_width_pos s pos hp
      have hne : s.data.toList.drop pos ≠ [] := by intro h; have := congrArg List.length h; rw [List.length_drop, hsz] at this; simp at this; omega
      have hst := Aside0.mk (units_step _ hne)
      have hle := Go.Lib.decodeL_le _ hne
      rw [Go.Lib.decodeL_drop, List.length_drop, hsz] at hle
      have huo := uo_le (Utf8.decode s pos).1
      go_wp2_with (go_at_call 70; refine (of_calls _ _).mono ?_; rintro e w' ⟨rfl, rfl⟩)
      go_roundw
      case rel =>
        refine ⟨pos + (Utf8.decode s pos).2, acc + uo (Utf8.decode s pos).1, rfl, by go_num, ⟨?_⟩, by omega⟩
        have h1 := hc.out
        rw [hst.out, Go.Lib.decodeL_drop, List.drop_drop] at h1
        rw [← h1]
        unfold uo
        rw [Nat.add_assoc]
      case measure =>
        simp
        omega
    · have hnx : ∀ ty, (Instr.next (.pointer (some ⟨w.heap.size, 0, none⟩)) true ty).run Tryd.prog (w.iter s pos) = _ := fun ty => run_next_end w s pos ty hp
      go_wp2
      go_ret
      have h := hc.out
      rw [List.drop_of_length_le (by omega), units_nil, Nat.add_zero] at h
      rw [h]
      exact ⟨rfl, below_iter w s pos⟩
end Go.Proofs.YtobhfpepclepdaaDoor
