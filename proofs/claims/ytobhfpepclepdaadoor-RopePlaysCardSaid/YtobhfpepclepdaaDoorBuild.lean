/- Ropes: the builder's own methods at this dump; told. -/
import Derived.Test.YtobhfpepclepdaaDoorCut
import Derived.Laws.Externs
import Derived.Lib.AppendStr
import Derived.Lib.Builder
import Derived.Lib.UnsafeStr
namespace Go.Proofs.YtobhfpepclepdaaDoor
open Go.RowKit Go.Proofs.YtobhfpepclepdaaDoorW.PrintWords Go.Proofs.YtobhfpepclepdaaDoorW.PrintLast Go.Proofs.YtobhfpepclepdaaDoorW.PrintMore
open Go.Proofs.YtobhfpepclepdaaDoor.PRope
open Go.Lib (decodeL validD)
set_option linter.unusedVariables false
theorem size122 : (Tryd.prog.info? 122).map (·.size) = some 2 := by kernel_rfl
theorem lies122 : liesAt Tryd.prog Tryd.prog.depth 122 (2 / Tryd.prog.cellsOf 122) 0 122 1 = true := by kernel_rfl
theorem info5 : (Tryd.prog.info? 5).map (fun i => (i.zero, i.size, i.bytes)) = some (some (.int .u8 0), 1, 1) := by kernel_rfl
set_option maxHeartbeats 1000000 in
set_option maxRecDepth 100000 in
theorem check_used (b : Nat) (w : World) (h0 : w.cell? ⟨b, 0, none⟩ = some (.pointer (some ⟨b, 0, none⟩))) :
    Calls Tryd.prog 83 #[.pointer (some ⟨b, 0, none⟩)] w fun e w' => e = .returned (.tuple #[]) ∧ w' = w := by
  obtain ⟨j, hj, _⟩ := Option.map_eq_some_iff.1 size122
  go_enter Tryd.func83, Tryd.ntmps83
  go_wp2
  rw [Lib.run_neq_ptr_same w _ Tryd.underlying119 hj]
  go_wp2
  go_end0
  exact ⟨rfl, rfl⟩
set_option maxHeartbeats 1000000 in
set_option maxRecDepth 100000 in
theorem check_fresh (b : Nat) (w : World) (h0 : w.cell? ⟨b, 0, none⟩ = some (.pointer none)) (hsh : w.shape? b = some (122, 2)) (hfz : w.frozen? ⟨b, 0, none⟩ = false) :
    Calls Tryd.prog 83 #[.pointer (some ⟨b, 0, none⟩)] w fun e w' => e = .returned (.tuple #[]) ∧ w' = w.setCell ⟨b, 0, none⟩ (.pointer (some ⟨b, 0, none⟩)) := by
  obtain ⟨j, hj, hjs⟩ := Option.map_eq_some_iff.1 size122
  go_enter Tryd.func83, Tryd.ntmps83
  go_wp2
  rw [Lib.run_to_unsafe w ⟨b, 0, none⟩ Tryd.underlying119 Tryd.underlying143 hj (by rw [hjs]; decide) hsh (Nat.zero_lt_succ 1)]
  simp only [Result.andThen]
  rw [Oper.upon_value]
  go_wp2
  rw [run_callFunc_extern Tryd.func85 (by kernel_rfl) (by kernel_rfl) (by kernel_rfl) (e := Extern.AbiNoEscape.same) (by kernel_rfl)]
  rw [Lib.run_noEscape]
  simp only [Result.andThen]
  rw [Oper.upon_value]
  go_wp2
  rw [Lib.run_from_unsafe w ⟨b, 0, none⟩ Tryd.underlying143 Tryd.underlying119 hj hsh lies122]
  simp only [Result.andThen]
  rw [Oper.upon_value]
  go_wp2
  go_end0
  exact ⟨rfl, rfl⟩
/-- A builder of this dump. -/
abbrev IsB (B b : Nat) (l : List UInt8) (w : World) : Prop := Lib.IsBuilder 122 5 B b (Lib.byteCells l) w
theorem check_calls (B b : Nat) (bs : List Value) (w : World) (h : Lib.IsBuilder 122 5 B b bs w) :
    Calls Tryd.prog 83 #[.pointer (some ⟨b, 0, none⟩)] w fun e w' => e = .returned (.tuple #[]) ∧ Lib.BuilderAt 122 5 B b (.pointer (some ⟨b, 0, none⟩)) bs w' ∧ Below B w w' := by
  rcases h with h | h
  · refine (check_fresh b w h.cell0 h.shape h.frozen0).mono ?_
    rintro e w' ⟨rfl, rfl⟩
    exact ⟨rfl, h.used _, (Below.refl B w).setCell (p := ⟨b, 0, none⟩) h.1 _⟩
  · refine (check_used b w h.cell0).mono ?_
    rintro e w' ⟨rfl, rfl⟩
    exact ⟨rfl, h, Below.refl _ _⟩
set_option maxHeartbeats 2000000 in
set_option maxRecDepth 100000 in
theorem write_calls (B b : Nat) (l : List UInt8) (s : ByteArray) (w : World) (h : IsB B b l w) (hlen : l.length + s.size ≤ 140737488355328) (hBw : B ≤ w.heap.size) :
    Calls Tryd.prog 79 #[.pointer (some ⟨b, 0, none⟩), .string s] w fun e w' => e = .returned (.tuple #[.int .i64 s.size, .nilIface]) ∧ IsB B b (l ++ s.data.toList) w' ∧ Below B w w' := by
  obtain ⟨i0, hi, hz0, hz1, hz2⟩ := info_parts info5
  have hl : (Lib.byteCells l).length = l.length := Lib.byteCells_length l
  have HL := Aside0.mk hl
  clear hl
  go_enter Tryd.func79, Tryd.ntmps79
  go_wp2_with (go_at_call 83; refine (check_calls B b _ _ h).mono ?_)
  rintro e w1 ⟨rfl, h1, hb1⟩
  obtain ⟨hB, v, hbk, hown, hne⟩ := h1
  have c0 : w1.cell? ⟨b, 0, none⟩ = some (.pointer (some ⟨b, 0, none⟩)) := by rw [Lib.cell_of_heap hbk]; rfl
  have c1 : w1.cell? ⟨b, 1, none⟩ = some v := by rw [Lib.cell_of_heap hbk]; rfl
  go_wp2_with (at_builtin; refine Lib.wpList_append_own_string _ rfl _ _ 120 9 rfl B 5 i0 Tryd.underlying120 Tryd.underlying9 hi hz0 hz1 hz2 _ _ _ rfl hown s rfl ?c3 ?c4 ?c5 ?_)
  case c3 => rw [HL.out]; unfold maxLen; omega
  case c4 => rw [HL.out]; omega
  case c5 => have := hb1.size; omega
  intro v' w2 hown' hgrow _
  have hlt : b < w1.heap.size := by
    rcases Nat.lt_or_ge b w1.heap.size with h' | h'
    · exact h'
    · simp [Array.getElem?_eq_none h'] at hbk
  have hb2 : w2.heap[b]? = some (.cells #[.pointer (some ⟨b, 0, none⟩), v] 122 (0, 0)) := by
    rw [hgrow.block b hlt (fun e => hne e.symm)]
    exact hbk
  have d0 : w2.cell? ⟨b, 0, none⟩ = some (.pointer (some ⟨b, 0, none⟩)) := by rw [Lib.cell_of_heap hb2]; rfl
  have d1 : w2.cell? ⟨b, 1, none⟩ = some v := by rw [Lib.cell_of_heap hb2]; rfl
  have f1 : w2.frozen? ⟨b, 1, none⟩ = false := Lib.frozen_of_heap hb2 1
  obtain ⟨ao, n', cap, rfl⟩ : ∃ ao n' cap, v' = .slice ao n' cap := by
    rcases hown'.2 with ⟨hv, _⟩ | ⟨g, cap, cur, hv, _⟩
    · exact ⟨_, _, _, hv⟩
    · exact ⟨_, _, _, hv⟩
  go_wp2
  go_ret2
  have ecat : Lib.byteCells (l ++ s.data.toList) = Lib.byteCells l ++ Lib.strCells s := by simp [Lib.byteCells, Lib.strCells]
  refine ⟨rfl, Or.inr ?_, ?_⟩
  · show Lib.BuilderAt 122 5 B b _ (Lib.byteCells (l ++ s.data.toList)) _
    rw [ecat]
    exact Lib.BuilderAt.put (T := 122) (e := 5) hB hb2 (bs' := Lib.byteCells l ++ Lib.strCells s) (by simpa [Lib.strCells_length] using hown') (by decide)
  · exact (hb1.grown hgrow (by have := hb1.size; omega) (fun k hk => (hown.lt k hk).1)).setCell (p := ⟨b, 1, none⟩) hB _

attribute [local go_sem] fld0 fld1 fld2 fld3 fld4 fld5 ta112 ta109t ta112f ta112t max2_int min2_int max_two min_two
/-- Some bytes of a text: from a place up to another one, as far as there are any. -/
def mid (l : List UInt8) (f t : Int) : List UInt8 := (l.take t.toNat).drop f.toNat
theorem mid_app (a b : List UInt8) (f t : Int) : mid (a ++ b) f t = mid a f t ++ mid b (f - a.length) (t - a.length) := by
  unfold mid
  rw [List.take_append, List.drop_append, List.length_take]
  have e1 : t.toNat - a.length = (t - a.length).toNat := by omega
  rw [e1]
  by_cases h : t.toNat ≤ a.length
  · have e2 : (t - a.length).toNat = 0 := by omega
    rw [e2]; simp
  · rw [show f.toNat - min t.toNat a.length = (f - a.length).toNat by omega]
theorem mid_none (l : List UInt8) (f t : Int) (h : t ≤ f) : mid l f t = [] := by
  unfold mid
  rw [List.drop_eq_nil_iff, List.length_take]
  omega
theorem mid_clamp (l : List UInt8) (f t : Int) : mid l (if f < 0 then 0 else f) (if (l.length : Int) < t then (l.length : Int) else t) = mid l f t := by
  unfold mid
  have e1 : (if f < 0 then (0 : Int) else f).toNat = f.toNat := by split <;> omega
  rw [e1]
  by_cases h : (l.length : Int) < t
  · rw [if_pos h, Int.toNat_natCast, List.take_of_length_le (Nat.le_refl _), List.take_of_length_le (by omega)]
  · rw [if_neg h]
theorem mid_length (l : List UInt8) (f t : Int) : (mid l f t).length ≤ l.length := by
  unfold mid
  rw [List.length_drop, List.length_take]
  omega
theorem IsB.below {B b : Nat} {l : List UInt8} {w w' : World} (h : IsB B b l w) (hb : Below w.heap.size w w') : IsB B b l w' := by
  have one : ∀ {p : Value}, Lib.BuilderAt 122 5 B b p (Lib.byteCells l) w → Lib.BuilderAt 122 5 B b p (Lib.byteCells l) w' := by
    intro p ⟨hB, v, hbk, hown, hne⟩
    refine ⟨hB, v, blk_below hbk hb, ?_, hne⟩
    obtain ⟨h1, h2⟩ := hown
    refine ⟨h1, ?_⟩
    rcases h2 with h2 | ⟨g, cap, cur, hv, hg, hc, hrest⟩
    · exact .inl h2
    · exact .inr ⟨g, cap, cur, hv, hg, blk_below hc hb, hrest⟩
  rcases h with h | h
  · exact .inl (one h)
  · exact .inr (one h)
/-- What told says: a part's bytes stand behind what is there. -/
def Told (w0 : World) (b : Nat) (l : List UInt8) (e : Ending) (w' : World) : Prop := e = .returned (.tuple #[]) ∧ IsB w0.heap.size b l w' ∧ Below w0.heap.size w0 w'
theorem str_mid (s : ByteArray) (f t : Nat) (h : f ≤ t) (ht : t ≤ s.size) : (s.extract f t).data.toList = mid s.data.toList f t := by
  rw [ext_mid]
  unfold mid
  rw [Int.toNat_natCast, Int.toNat_natCast, List.drop_take]
set_option maxHeartbeats 4000000 in
set_option maxRecDepth 100000 in
theorem told_none {v : Value} {t : Tr} {w0 w : World} {b : Nat} {l : List UInt8} (hp : IsPart w0 v t) (hw : Below w0.heap.size w0 w) (hB : IsB w0.heap.size b l w) (f g f' g' : Int) (hf : (if f < 0 then 0 else f) = f') (hg : (if cB t < g then cB t else g) = g') (hle : g' ≤ f') :
    Calls Tryd.prog 68 #[.pointer (some ⟨b, 0, none⟩), v, .int .i64 f, .int .i64 g] w (Told w0 b l) := by
  obtain ⟨T, bx, hT, rfl, h0, h1, h2, h3, h4, h5⟩ := (hp.below hw).view
  have hm := meth hT bx _ _ _ _ _ _ w h0 h1 h2 h3 h4 h5
  have BL := Aside0.mk hw
  have BB := Aside0.mk hB
  clear hp h0 h1 h2 h3 h4 h5 hw hB
  rcases hT with rfl | rfl
  all_goals
    go_enter Tryd.func68, Tryd.ntmps68
    go_wp2_with (go_at_call 108; refine (has_calls _ _ _ _ _ _ _).mono ?_; rintro e w1 ⟨rfl, hb1⟩; clear hm; have BL' := Aside0.mk (below_step BL.out hb1); have BB' := Aside0.mk (BB.out.below hb1); clear BL BB hb1)
    go_end0
    exact ⟨rfl, BB'.out, BL'.out⟩
set_option maxHeartbeats 4000000 in
set_option maxRecDepth 100000 in
theorem told_leaf {v : Value} {s : ByteArray} {w0 w : World} {b : Nat} {l : List UInt8} (hp : IsPart w0 v (.leaf s)) (hw : Below w0.heap.size w0 w) (hB : IsB w0.heap.size b l w) (f g : Int) (f' g' : Nat) (hf : (if f < 0 then 0 else f) = (f' : Int)) (hg : (if cB (.leaf s) < g then cB (.leaf s) else g) = (g' : Int)) (hle : f' < g') (hgs : g' ≤ s.size) (hl : l.length + s.size ≤ 100000000) :
    Calls Tryd.prog 68 #[.pointer (some ⟨b, 0, none⟩), v, .int .i64 f, .int .i64 g] w (Told w0 b (l ++ mid s.data.toList f' g')) := by
  obtain ⟨T, bx, hT, hv, h0, h1, h2, h3, h4, h5⟩ := (hp.below hw).view
  have hm := meth hT bx _ _ _ _ _ _ w h0 h1 h2 h3 h4 h5
  obtain ⟨by_, hv2, c6⟩ := hp.string
  have C6 := Aside0.mk c6
  rw [hv] at hv2
  cases hv2
  subst hv
  have BL := Aside0.mk hw
  have BB := Aside0.mk hB
  have nle : ¬ ((g' : Int) ≤ (f' : Int)) := by omega
  have i1 : (0 : Int) ≤ (f' : Int) := by omega
  have i2 : (f' : Int) ≤ (g' : Int) := by omega
  have i3 : (g' : Int) ≤ (s.size : Int) := by omega
  have LL : Aside0 (l.length + (s.extract f' g').size ≤ 140737488355328) := ⟨by rw [← str_size, str_mid s f' g' (by omega) hgs]; have := mid_length s.data.toList f' g'; rw [str_size] at this; omega⟩
  have EX := Aside0.mk (str_mid s f' g' (by omega) hgs)
  have HS := Aside0.mk hgs
  clear hp h0 h1 h2 h3 h4 h5 hw hB c6 hT hl hgs hle
  go_enter Tryd.func68, Tryd.ntmps68
  go_wp2_with (first
    | (go_at_call 108; refine (has_calls _ _ _ _ _ _ _).mono ?_; rintro e w1 ⟨rfl, hb1⟩; clear hm; have BL' := Aside0.mk (below_step BL.out hb1); have BB' := Aside0.mk (BB.out.below hb1); clear BL BB hb1; have c6 := pw_cell_below BL'.out C6.out)
    | (go_at_call 79; (refine (write_calls w0.heap.size b l (s.extract f' g') _ BB'.out LL.out BL'.out.size).mono ?_); rintro e w2 ⟨rfl, hB2, hb2⟩; have BB2 := Aside0.mk hB2; have BL2 := Aside0.mk (BL'.out.trans hb2); clear hB2 hb2 c6))
  go_end0
  exact ⟨rfl, by rw [← EX.out]; exact BB2.out, BL2.out⟩
end Go.Proofs.YtobhfpepclepdaaDoor
