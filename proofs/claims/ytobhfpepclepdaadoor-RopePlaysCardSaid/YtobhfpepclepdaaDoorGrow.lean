/- Ropes: texts as parts, or none. -/
import Derived.Test.YtobhfpepclepdaaDoorJoin
import Derived.Test.YtobhfpepclepdaaDoorCuts
namespace Go.Proofs.YtobhfpepclepdaaDoor
open Go.RowKit Go.Proofs.YtobhfpepclepdaaDoorW.PrintWords Go.Proofs.YtobhfpepclepdaaDoorW.PrintLast Go.Proofs.YtobhfpepclepdaaDoorW.PrintMore
open Go.Proofs.YtobhfpepclepdaaDoor.PRope
open Go.Lib (decodeL validD)
set_option linter.unusedVariables false
attribute [local go_sem] fld0 fld1 fld2 fld3 fld4 fld5 ta112 ta109t ta112f
/-- A text as a part, or none. -/
def otxt : Option Tr → List UInt8
  | none => []
  | some t => t.txt
def OGood : Option Tr → Prop
  | none => True
  | some t => t.Ok ∧ t.Bal
theorem OGood.valid {o : Option Tr} (h : OGood o) : validD (otxt o) = true := by
  cases o with
  | none => rfl
  | some t => exact h.1.valid
def MadeO (w : World) (l : List UInt8) (e : Ending) (w' : World) : Prop := ∃ v o, e = .returned v ∧ IsOpt w' v o ∧ OGood o ∧ otxt o = l ∧ Below w.heap.size w w'
theorem join_opt {va vb : Value} {a b : Option Tr} {w : World} (ht : Tb w) (ha : IsOpt w va a) (hb : IsOpt w vb b) (ga : OGood a) (gb : OGood b) (hl : (otxt a).length + (otxt b).length ≤ 1000000) :
    Calls Tryd.prog 43 #[va, vb] w (MadeO w (otxt a ++ otxt b)) := by
  cases a with
  | none =>
    obtain rfl : va = .nilIface := ha
    exact (join_nil_left vb w).mono fun e w' ⟨h1, h2⟩ => ⟨vb, b, h1, h2 ▸ hb, gb, rfl, h2 ▸ Below.refl _ _⟩
  | some a =>
    cases b with
    | none =>
      obtain rfl : vb = .nilIface := hb
      exact (join_nil_right ha).mono fun e w' ⟨h1, h2⟩ => ⟨va, some a, h1, h2 ▸ ha, ga, by simp [otxt], h2 ▸ Below.refl _ _⟩
    | some b =>
      exact (join_calls _ (Nat.le_refl _) ht ha hb ga.1 gb.1 ga.2 gb.2 hl).mono fun e w' ⟨v, t, h1, h2, h3, h4⟩ => ⟨v, some t, h1, h2, ⟨h3.ok, h3.bal⟩, h3.txt, h4⟩
set_option maxHeartbeats 2000000 in
set_option maxRecDepth 100000 in
theorem leaf_none (w : World) : Calls Tryd.prog 61 #[.string (⟨#[]⟩ : ByteArray)] w fun e w' => e = .returned .nilIface ∧ w' = w := by
  go_enter Tryd.func61, Tryd.ntmps61
  go_wp2
  go_ret
  exact ⟨rfl, rfl⟩
theorem leaf_opt (s : ByteArray) (w : World) (ht : Tb w) (hs : s.size ≤ 1000000) (hv : validD s.data.toList = true) : Calls Tryd.prog 61 #[.string s] w (MadeO w s.data.toList) := by
  by_cases h0 : s.size = 0
  · obtain rfl : s = ⟨#[]⟩ := by
      obtain ⟨⟨l⟩⟩ := s
      have : l.length = 0 := h0
      rw [List.eq_nil_of_length_eq_zero this]
    exact (leaf_none w).mono fun e w' ⟨h1, h2⟩ => ⟨_, none, h1, rfl, trivial, rfl, h2 ▸ Below.refl _ _⟩
  · obtain ⟨m, hm⟩ := ht.m
    refine (leaf_calls s w hs (by omega) m hm).mono fun e w' ⟨v, h1, h2, h3⟩ => ⟨v, some (.leaf s), h1, h2, ⟨⟨?_, hv⟩, trivial⟩, rfl, h3⟩
    intro h
    have := congrArg List.length h
    rw [Array.length_toList] at this
    exact h0 this
theorem str_size (s : ByteArray) : s.data.toList.length = s.size := by rw [Array.length_toList]; rfl
theorem mk_size (l : List UInt8) : (⟨l.toArray⟩ : ByteArray).size = l.length := by show l.toArray.size = _; simp
set_option maxHeartbeats 4000000 in
set_option maxRecDepth 100000 in
theorem grow_small (s : ByteArray) (w : World) (ht : Tb w) (hs : s.size ≤ 128) (hv : validD s.data.toList = true) : Calls Tryd.prog 39 #[.string s] w (MadeO w s.data.toList) := by
  have h1 : (s.size : Int) ≤ 128 := by omega
  have HL := Aside0.mk (leaf_opt s w ht (by omega) hv)
  clear ht hv hs
  go_enter Tryd.func39, Tryd.ntmps39
  go_wp2_with (go_at_call 61; refine HL.out.mono ?_; rintro e w1 ⟨v, o, rfl, hp, hg, hx, hb⟩; have HP := Aside0.mk hp; have HG := Aside0.mk hg; have HX := Aside0.mk hx; have HB := Aside0.mk hb; clear hp hg hx hb)
  go_ret
  exact ⟨v, o, rfl, HP.out, HG.out, HX.out, HB.out⟩
theorem ext_mid (s : ByteArray) (a b : Nat) : (s.extract a b).data.toList = (s.data.toList.drop a).take (b - a) := by
  rw [ByteArray.data_extract, Array.toList_extract]
theorem ext_take (s : ByteArray) (k : Nat) : (s.extract 0 k).data.toList = s.data.toList.take k := by rw [ext_mid]; simp
theorem ext_drop (s : ByteArray) (k : Nat) : (s.extract k s.size).data.toList = s.data.toList.drop k := by
  rw [ext_mid, List.take_of_length_le (by rw [List.length_drop, str_size]; omega)]
theorem ext_take_size (s : ByteArray) (k : Nat) (h : k ≤ s.size) : (s.extract 0 k).size = k := by rw [← str_size, ext_take, List.length_take, str_size]; omega
theorem ext_drop_size (s : ByteArray) (k : Nat) : (s.extract k s.size).size = s.size - k := by rw [← str_size, ext_drop, List.length_drop, str_size]
theorem mask_amid' : ∀ n : Fin 256, (bits BinOp.and IntKind.u8 (n.val : Int) 192 == 128) = (n.val / 64 == 2) := by decide +kernel
theorem mask_amid (c : UInt8) : (bits BinOp.and IntKind.u8 (c.toNat : Int) 192 == 128) = amid c := mask_amid' ⟨c.toNat, c.toNat_lt⟩
theorem getD_str (s : ByteArray) (k : Nat) (h : k < s.size) : s.data.toList.getD k 0 = s[k] := by
  have e : s[k] = s.data.toList[k]'(by rw [str_size]; exact h) := rfl
  rw [e, List.getD, List.getElem?_eq_getElem (by rw [str_size]; exact h)]; rfl
set_option maxHeartbeats 4000000 in
set_option maxRecDepth 100000 in
theorem grow_big (s : ByteArray) (w : World) (ht : Tb w) (h0 : 128 < s.size) (hs : s.size ≤ 1000000) (hv : validD s.data.toList = true)
    (ih : ∀ (t : ByteArray) (w1 : World), t.size < s.size → Tb w1 → validD t.data.toList = true → Calls Tryd.prog 39 #[.string t] w1 (MadeO w1 t.data.toList)) : Calls Tryd.prog 39 #[.string s] w (MadeO w s.data.toList) := by
  have h1 : ¬ ((s.size : Int) ≤ 128) := by omega
  have IH := Aside0.mk ih
  have HT := Aside0.mk ht
  have HV := Aside0.mk hv
  clear ih ht hv
  go_enter Tryd.func39, Tryd.ntmps39
  go_wp2
  obtain ⟨j, j1, j2, j3, j4⟩ := near_edge HV.out (s.size / 2) (by rw [str_size]; omega)
  have J3 := Aside0.mk j3
  have J4 := Aside0.mk j4
  clear j3 j4
  go_loop [3] (fun v => ∃ k : Nat, s.size / 2 - j ≤ k ∧ k ≤ s.size / 2 ∧ v = .int .i64 k) (fun v => (intOf v).toNat)
  case atStart => exact ⟨s.size / 2, by omega, Nat.le_refl _, rfl⟩
  case round =>
    obtain ⟨k, k1, k2, rfl⟩ := hrel
    have hk : k < s.size := by omega
    by_cases hkj : k = s.size / 2 - j
    · have HE : Aside0 (edge s.data.toList k = true) := ⟨by rw [hkj]; exact J3.out⟩
      have hb : (bits BinOp.and IntKind.u8 (s[k].toNat : Int) 192 == 128) = false := by
        have := HE.out
        rw [edge_lt (by rw [str_size]; exact hk), getD_str s k hk] at this
        rw [mask_amid]
        simpa using this
      have hk1 : 0 < k := by omega
      clear hkj k1 k2 j1 j2 J3 J4
      have b1 : (0 : Int) ≤ k := by omega
      have b2 : (k : Int) ≤ s.size := by omega
      have C1 : Aside0 (∀ w1, Below w.heap.size w w1 → Calls Tryd.prog 39 #[.string (s.extract 0 k)] w1 (MadeO w1 (s.data.toList.take k))) := ⟨fun w1 hb1 => by
        have := IH.out (s.extract 0 k) w1 (by rw [ext_take_size _ _ (by omega)]; exact hk) (HT.out.below hb1) (by rw [ext_take]; exact (cut_valid HV.out k (by rw [str_size]; omega) HE.out).1)
        rw [ext_take] at this; exact this⟩
      have C2 : Aside0 (∀ w1, Below w.heap.size w w1 → Calls Tryd.prog 39 #[.string (s.extract k s.size)] w1 (MadeO w1 (s.data.toList.drop k))) := ⟨fun w1 hb1 => by
        have := IH.out (s.extract k s.size) w1 (by rw [ext_drop_size]; omega) (HT.out.below hb1) (by rw [ext_drop]; exact (cut_valid HV.out k (by rw [str_size]; omega) HE.out).2)
        rw [ext_drop] at this; exact this⟩
      have C3 : Aside0 ((s.data.toList.take k).length + (s.data.toList.drop k).length ≤ 1000000) := ⟨by rw [← List.length_append, List.take_append_drop, str_size]; exact hs⟩
      go_wp2
      have hbd : Below w.heap.size w w.drew := ⟨rfl, rfl, rfl, Nat.le_refl _, fun _ _ => rfl⟩
      go_region_held3 (fun w2 => Below w.heap.size w w2) (first | assumption) (first
        | (go_at_call 39; (with_reducible refine (C1.out _ (by assumption)).mono ?_); rintro e w3 ⟨v1, o1, rfl, hp1, hg1, hx1, hb1⟩; have hbx := below_step (by assumption) hb1; have X1 := Aside0.mk hx1; have G1 := Aside0.mk hg1; clear hx1 hg1)
        | (go_at_call 39; (with_reducible refine (C2.out _ (by assumption)).mono ?_); rintro e w4 ⟨v2, o2, rfl, hp2, hg2, hx2, hb1⟩; have hbx := below_step (by assumption) hb1; have X2 := Aside0.mk hx2; have G2 := Aside0.mk hg2; have hp1' := hp1.below hb1; clear hx2 hg2)
        | (go_at_call 43; (with_reducible refine (join_opt (HT.out.below (by assumption)) hp1' hp2 G1.out G2.out (by rw [X1.out, X2.out]; exact C3.out)).mono ?_); rintro e w5 ⟨v3, o3, rfl, hp3, hg3, hx3, hb1⟩; have hbx := below_step (by assumption) hb1; have X3 := Aside0.mk hx3; have G3 := Aside0.mk hg3; clear hx3 hg3))
      go_wp2
      go_ret
      exact ⟨v3, o3, rfl, hp3, G3.out, by rw [X3.out, X1.out, X2.out, List.take_append_drop], by assumption⟩
    · have hi : s.size / 2 - k < j := by omega
      have hb : (bits BinOp.and IntKind.u8 (s[k].toNat : Int) 192 == 128) = true := by
        have := J4.out _ hi
        rw [show s.size / 2 - (s.size / 2 - k) = k by omega, edge_lt (by rw [str_size]; exact hk), getD_str s k hk] at this
        rw [mask_amid]
        simpa using this
      have hk0 : 0 < k := by omega
      clear hi
      go_wp2
      go_round
      case rel => exact ⟨k - 1, by omega, by omega, by rw [show ((k - 1 : Nat) : Int) = (k : Int) - 1 by omega]⟩
      case measure => simp [intOf]; omega
theorem grow_all : ∀ (n : Nat) (s : ByteArray) (w : World), s.size ≤ n → Tb w → s.size ≤ 1000000 → validD s.data.toList = true → Calls Tryd.prog 39 #[.string s] w (MadeO w s.data.toList)
  | 0, s, w, hn, ht, _, hv => grow_small s w ht (by omega) hv
  | n + 1, s, w, hn, ht, hs, hv => by
    by_cases h : s.size ≤ 128
    · exact grow_small s w ht h hv
    · exact grow_big s w ht (by omega) hs hv (fun t w1 h1 h2 h3 => grow_all n t w1 (by omega) h2 (by omega) h3)
theorem grow_calls (s : ByteArray) (w : World) (ht : Tb w) (hs : s.size ≤ 1000000) (hv : validD s.data.toList = true) : Calls Tryd.prog 39 #[.string s] w (MadeO w s.data.toList) :=
  grow_all s.size s w (Nat.le_refl _) ht hs hv
end Go.Proofs.YtobhfpepclepdaaDoor
