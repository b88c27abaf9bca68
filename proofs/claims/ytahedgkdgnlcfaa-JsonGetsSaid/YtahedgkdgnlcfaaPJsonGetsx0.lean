-- Written by a program of this session (a turned copy of a printer): out of the translation, each function and its proof.
import Derived.Test.YtahedgkdgnlcfaaProg
import Derived.Below
import Derived.Deep.Draws
import Derived.Deep.AppendLies
import Derived.Maps.AppendAt
import Derived.OwnWalk
import Derived.Laws.BytesArg
import Derived.Laws.MakeOwn
import Derived.Laws.OwnMore
import Derived.Deep.OwnRows
import Derived.Tactics
import Derived.Lib.ConvBytes
import Derived.Laws.Slices
import Derived.WalkKit
import Derived.KernelRfl
import Derived.RowKit3
import Derived.Deep.LoopGhost
import Derived.Deep.QuietTactic
import Derived.BigQuiet
import Derived.WideLaws
import Derived.Deep.DeepCutAuto
import Derived.Deep.CutBlock
import Derived.Deep.RegionHeld3
import Derived.Laws.Rows
import Derived.Lib.AppendStr
import Derived.ArgAppend
import Derived.Laws.IdiomCopy
import Derived.OrdersHeld
import Derived.Laws.BitsLemmas
import Derived.RowKit
import Derived.Test.YtahedgkdgnlcfaaWWords
import Derived.Test.YtahedgkdgnlcfaaWLast
import Derived.Test.YtahedgkdgnlcfaaWTab
import Derived.Test.YtahedgkdgnlcfaaWFour
import Derived.Test.YtahedgkdgnlcfaaWQPut
import Derived.Test.YtahedgkdgnlcfaaWApart
import Derived.Test.YtahedgkdgnlcfaaWArr
import Derived.Test.YtahedgkdgnlcfaaWZeros
import Derived.Test.YtahedgkdgnlcfaaWFoot
import Derived.Test.YtahedgkdgnlcfaaWKept
import Derived.Test.YtahedgkdgnlcfaaWShare
import Derived.Test.YtahedgkdgnlcfaaWN
import Derived.Test.YtahedgkdgnlcfaaWFootNe
import Derived.Test.YtahedgkdgnlcfaaWAt
import Derived.Test.YtahedgkdgnlcfaaWEqStruct
import Derived.Test.YtahedgkdgnlcfaaWRepsOne
import Derived.Test.YtahedgkdgnlcfaaWInv
import Derived.Test.YtahedgkdgnlcfaaWInvWords
import Derived.Test.YtahedgkdgnlcfaaWGuard
import Derived.Test.YtahedgkdgnlcfaaWNEv
import Derived.Test.YtahedgkdgnlcfaaWMore
namespace Go.Proofs.Ytahedgkdgnlcfaa.PJsonGets
open Go.RowKit Go.Proofs.YtahedgkdgnlcfaaW.PrintWords Go.Proofs.YtahedgkdgnlcfaaW.PrintLast Go.Proofs.YtahedgkdgnlcfaaW.PrintMore
attribute [local go_sem] max2_int min2_int max_two min_two max_three min_three max_four min_four   -- for this text's walks alone
set_option linter.unusedVariables false
set_option linter.unusedSimpArgs false



def errW : Option Int → Value
  | none => .nilIface
  | some c => .iface 0 (.int .i64 c)
theorem errW_none : errW none = .nilIface := rfl
theorem errW_some (c : Int) : errW (some c) = .iface 0 (.int .i64 c) := rfl

theorem info25 : (Try.prog.info? 25).map (fun i => (i.zero, i.size, i.bytes)) = some (some (.agg #[(.int .u8 0), (.string ⟨#[]⟩), (.slice none 0 0), (.slice none 0 0)]), 4, 72) := by kernel_rfl
theorem info32 : (Try.prog.info? 32).map (fun i => (i.zero, i.size, i.bytes)) = some (some (.agg #[(.string ⟨#[]⟩), (.int .u8 0), (.string ⟨#[]⟩), (.slice none 0 0), (.slice none 0 0)]), 5, 88) := by kernel_rfl
-- the values' own types

/-! #### what a kind of kinds says of a kind nested in itself -/
/-- What G says of 'nested at some depth', it says at some depth. -/
structure Con {α β : Type} (G : Kd α → Kd β) : Prop where
  K : ∀ (F : Kd α → Kd α) (sz : Nat) (E : List Nat) (hs : ∀ n, (Kd.upto F sz E n).sz = sz) (hE : ∀ n q, q ∈ (Kd.upto F sz E n).E → q ∈ E), Kd.Mono F → ∀ w x cs, (G (Kd.fix F sz E hs hE)).K w x cs → ∃ n, (G (Kd.upto F sz E n)).K w x cs
  M : ∀ (F : Kd α → Kd α) (sz : Nat) (E : List Nat) (hs : ∀ n, (Kd.upto F sz E n).sz = sz) (hE : ∀ n q, q ∈ (Kd.upto F sz E n).E → q ∈ E), Kd.Mono F → ∀ w base ok x cs, (G (Kd.fix F sz E hs hE)).M w base ok x cs → ∃ n, (G (Kd.upto F sz E n)).M w base ok x cs
  mono : Kd.Mono G
theorem con_const {α β : Type} (k : Kd β) : Con (fun _ : Kd α => k) := ⟨fun _ _ _ _ _ _ _ _ _ h => ⟨0, h⟩, fun _ _ _ _ _ _ _ _ _ _ _ h => ⟨0, h⟩, Kd.mono_const k⟩
theorem con_id {α : Type} : Con (fun d : Kd α => d) := ⟨fun _ _ _ _ _ _ _ _ _ h => h, fun _ _ _ _ _ _ _ _ _ _ _ h => h, Kd.mono_id⟩
theorem con_iso {α β γ : Type} {G : Kd α → Kd β} (f : γ → β) (hG : Con G) : Con (fun d => Kd.iso (G d) f) :=
  ⟨fun F sz E hs hE hm w x cs h => hG.K F sz E hs hE hm w (f x) cs h, fun F sz E hs hE hm w base ok x cs h => hG.M F sz E hs hE hm w base ok (f x) cs h, Kd.mono_iso f hG.mono⟩
theorem con_pair {α β γ : Type} {G : Kd α → Kd β} {H : Kd α → Kd γ} (hG : Con G) (hH : Con H) : Con (fun d => Kd.pair (G d) (H d)) := by
  refine ⟨?_, ?_, Kd.mono_pair hG.mono hH.mono⟩
  · rintro F sz E hs hE hm w x cs ⟨c0, c1, rfl, h0, h1⟩
    obtain ⟨n0, h0⟩ := hG.K F sz E hs hE hm _ _ _ h0
    obtain ⟨n1, h1⟩ := hH.K F sz E hs hE hm _ _ _ h1
    exact ⟨max n0 n1, c0, c1, rfl, hG.mono.K _ _ (by rw [hs, hs]) (fun _ _ _ h => Kd.upto_K_le hm hs (Nat.le_max_left _ _) h) _ _ _ h0, hH.mono.K _ _ (by rw [hs, hs]) (fun _ _ _ h => Kd.upto_K_le hm hs (Nat.le_max_right _ _) h) _ _ _ h1⟩
  · rintro F sz E hs hE hm w base ok x cs ⟨c0, c1, rfl, h0, h1⟩
    obtain ⟨n0, h0⟩ := hG.M F sz E hs hE hm _ _ _ _ _ h0
    obtain ⟨n1, h1⟩ := hH.M F sz E hs hE hm _ _ _ _ _ h1
    exact ⟨max n0 n1, c0, c1, rfl, hG.mono.M _ _ (by rw [hs, hs]) (fun _ _ _ _ _ h => Kd.upto_M_le hm hs (Nat.le_max_left _ _) h) _ _ _ _ _ h0, hH.mono.M _ _ (by rw [hs, hs]) (fun _ _ _ _ _ h => Kd.upto_M_le hm hs (Nat.le_max_right _ _) h) _ _ _ _ _ h1⟩
section
variable {α β : Type} {F : Kd α → Kd α} {G : Kd α → Kd β} {sz : Nat} {E : List Nat} {hs : ∀ n, (Kd.upto F sz E n).sz = sz} {hE : ∀ n q, q ∈ (Kd.upto F sz E n).E → q ∈ E}
theorem C_up (hG : Kd.Mono G) {n : Nat} {w : World} {A : Option Addr} {m : Nat} {xs : List β} (h : (G (Kd.upto F sz E n)).C w A m xs) : (G (Kd.fix F sz E hs hE)).C w A m xs :=
  Kd.C_imp (hG.sz _ _ (hs n)) (hG.K _ _ (hs n) (fun w x cs hp => (⟨n, hp⟩ : ∃ n, (Kd.upto F sz E n).K w x cs))) h
theorem R_up (hG : Kd.Mono G) {n : Nat} {e : Nat} {w : World} {base : Nat} {ok : Nat → Prop} {v : Value} {xs : List β} (h : (G (Kd.upto F sz E n)).R e w base ok v xs) : (G (Kd.fix F sz E hs hE)).R e w base ok v xs :=
  Kd.R_imp (hG.sz _ _ (hs n)) (hG.M _ _ (hs n) (fun w base ok x cs hp => (⟨n, hp⟩ : ∃ n, (Kd.upto F sz E n).M w base ok x cs))) h
theorem C_le (hm : Kd.Mono F) (hG : Kd.Mono G) (hs : ∀ n, (Kd.upto F sz E n).sz = sz) {n m : Nat} (hnm : n ≤ m) {w : World} {A : Option Addr} {l : Nat} {xs : List β} (h : (G (Kd.upto F sz E n)).C w A l xs) : (G (Kd.upto F sz E m)).C w A l xs :=
  Kd.C_imp (hG.sz _ _ (by rw [hs, hs])) (hG.K _ _ (by rw [hs, hs]) (fun _ _ _ hp => Kd.upto_K_le hm hs hnm hp)) h
theorem R_le (hm : Kd.Mono F) (hG : Kd.Mono G) (hs : ∀ n, (Kd.upto F sz E n).sz = sz) {n m : Nat} (hnm : n ≤ m) {e : Nat} {w : World} {base : Nat} {ok : Nat → Prop} {v : Value} {xs : List β} (h : (G (Kd.upto F sz E n)).R e w base ok v xs) : (G (Kd.upto F sz E m)).R e w base ok v xs :=
  Kd.R_imp (hG.sz _ _ (by rw [hs, hs])) (hG.M _ _ (by rw [hs, hs]) (fun _ _ _ _ _ hp => Kd.upto_M_le hm hs hnm hp)) h
theorem R_dn (hm : Kd.Mono F) (hG : Kd.Mono G) (hc : Con G) {e : Nat} {w : World} {base : Nat} {ok : Nat → Prop} {v : Value} {xs : List β} (h : (G (Kd.fix F sz E hs hE)).R e w base ok v xs) : ∃ n, (G (Kd.upto F sz E n)).R e w base ok v xs := by
  obtain ⟨h0, inner, ho, hr⟩ := h
  obtain ⟨N, hN⟩ := Kd.reps_bounded (R := fun n p c => (G (Kd.upto F sz E n)).M w base (fun k => ok k ∧ some k ≠ v.ownBlock) p c) (fun n m p c hnm hp => hG.M _ _ (by rw [hs, hs]) (fun _ _ _ _ _ h => Kd.upto_M_le hm hs hnm h) _ _ _ _ _ hp)
    (hr.imp_ (fun _ _ hp => hc.M F sz E hs hE hm _ _ _ _ _ hp))
  have hz : (G (Kd.upto F sz E N)).sz = (G (Kd.fix F sz E hs hE)).sz := hG.sz _ _ (hs N)
  refine ⟨N, h0, inner, ?_, ?_⟩
  · rw [hz]; exact ho
  · rw [hz]; exact hN
theorem C_dn (hm : Kd.Mono F) (hG : Kd.Mono G) (hc : Con G) {w : World} {A : Option Addr} {m : Nat} {xs : List β} (h : (G (Kd.fix F sz E hs hE)).C w A m xs) : ∃ n, (G (Kd.upto F sz E n)).C w A m xs := by
  have hz : ∀ N, (G (Kd.upto F sz E N)).sz = (G (Kd.fix F sz E hs hE)).sz := fun N => hG.sz _ _ (hs N)
  rcases Nat.eq_zero_or_pos m with hz0 | hpos
  · subst hz0
    exact ⟨0, h.1, h.2.1, fun hp => absurd hp (Nat.lt_irrefl 0)⟩
  · obtain ⟨ad, e, hc0⟩ := h.2.2 hpos
    obtain ⟨N, hN⟩ := Kd.bounded (P := fun n j => ∀ p, xs[j]? = some p → ∃ c, c.length = (G (Kd.fix F sz E hs hE)).sz ∧ (G (Kd.upto F sz E n)).K w p c ∧ ∀ i u, c[i]? = some u → w.cell? (ad.add (j * (G (Kd.fix F sz E hs hE)).sz + i)) = some u)
      (fun n n' j hnm hp p hj => by
        obtain ⟨c, h1, h2, h3⟩ := hp p hj
        exact ⟨c, h1, hG.K _ _ (by rw [hs, hs]) (fun _ _ _ h => Kd.upto_K_le hm hs hnm h) _ _ _ h2, h3⟩) xs.length
      (fun j hj => by
        obtain ⟨c, h1, h2, h3⟩ := hc0 j _ (List.getElem?_eq_getElem hj)
        obtain ⟨n, h2⟩ := hc.K F sz E hs hE hm _ _ _ h2
        refine ⟨n, fun p hp => ?_⟩
        rw [List.getElem?_eq_getElem hj] at hp
        injection hp with hp
        rw [← hp]
        exact ⟨c, h1, h2, h3⟩)
    refine ⟨N, h.1, h.2.1, fun _ => ⟨ad, e, fun j p hj => ?_⟩⟩
    rw [hz N]
    exact hN j (List.getElem?_eq_some_iff.1 hj).1 p hj
end

structure G32 (α : Type) where
  f0 : ByteArray
  f1 : α
/-! #### struct type 25, nested in itself -/
structure S25 where
  f0 : Int
  f1 : ByteArray
  f2 : (List S25)
  f3 : (List (G32 S25))
abbrev S32 := G32 S25
def z25 : S25 := ⟨(0 : Int), (⟨#[]⟩ : ByteArray), ([] : List S25), []⟩
def GG32 (d : Kd S25) : Kd S32 := Kd.iso (Kd.pair Kd.string d) (fun x : S32 => (x.f0, x.f1))
theorem monoG32 : Kd.Mono GG32 := Kd.mono_iso _ (Kd.mono_pair (Kd.mono_const _) Kd.mono_id)
theorem conG32 : Con GG32 := con_iso _ (con_pair (con_const _) con_id)
theorem subG32 : Kd.Sub GG32 [25, 32] := Kd.sub_iso _ (Kd.sub_pair (Kd.sub_const _ (by decide)) Kd.sub_id)
def F25 (d : Kd S25) : Kd S25 := Kd.iso (Kd.pair (Kd.int .u8) (Kd.pair Kd.string (Kd.pair (Kd.slice 25 d) (Kd.slice 32 (GG32 d))))) (fun x : S25 => (x.f0, x.f1, x.f2, x.f3))
theorem mono25 : Kd.Mono F25 := Kd.mono_iso _ (Kd.mono_pair (Kd.mono_const _) (Kd.mono_pair (Kd.mono_const _) (Kd.mono_pair (Kd.mono_slice 25 Kd.mono_id) (Kd.mono_slice 32 monoG32))))
theorem sub25 : Kd.Sub F25 [25, 32] := Kd.sub_iso _ (Kd.sub_pair (Kd.sub_const _ (by decide)) (Kd.sub_pair (Kd.sub_const _ (by decide)) (Kd.sub_pair (Kd.sub_slice 25 (by decide) Kd.sub_id) (Kd.sub_slice 32 (by decide) subG32))))
theorem sz25 : ∀ n, (Kd.upto F25 4 [25, 32] n).sz = 4 := Kd.upto_sz (fun _ => rfl)
def k25 : Kd S25 := Kd.fix F25 4 [25, 32] sz25 (Kd.upto_E sub25)
def z32 : S32 := ⟨(⟨#[]⟩ : ByteArray), z25⟩
def k32 : Kd S32 := GG32 k25
theorem k25_heap : Kd.Heap k25 := Kd.heap_fix (fun _ h_ => Kd.heap_iso _ (Kd.heap_pair (Kd.heap_int .u8) (Kd.heap_pair Kd.heap_string (Kd.heap_pair (Kd.heap_slice 25 h_) (Kd.heap_slice 32 (Kd.heap_iso _ (Kd.heap_pair Kd.heap_string h_)))))))
theorem k25_open {w : World} {x : S25} {cs : List Value} (h : k25.K w x cs) : ∃ A2 c2 A3 c3, cs = [.int .u8 x.f0, .string x.f1, .slice A2 x.f2.length c2, .slice A3 x.f3.length c3] ∧ x.f2.length ≤ c2 ∧ k25.C w A2 x.f2.length x.f2 ∧ x.f3.length ≤ c3 ∧ k32.C w A3 x.f3.length x.f3 := by
  obtain ⟨n, h⟩ := h
  cases n with
  | zero => exact h.elim
  | succ n =>
    obtain ⟨_, _, rfl, rfl, ⟨_, _, rfl, rfl, ⟨_, _, rfl, ⟨A2, c2, rfl, l2, g2⟩, ⟨A3, c3, rfl, l3, g3⟩⟩⟩⟩ := h
    exact ⟨A2, c2, A3, c3, rfl, l2, Kd.fix_C g2, l3, C_up monoG32 g3⟩
theorem k25_openM {w : World} {base : Nat} {ok : Nat → Prop} {x : S25} {cs : List Value} (h : k25.M w base ok x cs) : ∃ v2 v3, cs = [.int .u8 x.f0, .string x.f1, v2, v3] ∧ k25.R 25 w base ok v2 x.f2 ∧ k32.R 32 w base ok v3 x.f3 := by
  obtain ⟨n, h⟩ := h
  cases n with
  | zero => exact h.elim
  | succ n =>
    obtain ⟨_, _, rfl, rfl, ⟨_, _, rfl, rfl, ⟨_, _, rfl, ⟨v2, rfl, g2⟩, ⟨v3, rfl, g3⟩⟩⟩⟩ := h
    exact ⟨v2, v3, rfl, Kd.fix_R g2, R_up monoG32 g3⟩
theorem k25_mk (w : World) (x : S25) {A2 : Option Addr} {c2 : Nat} (l2 : x.f2.length ≤ c2) (g2 : k25.C w A2 x.f2.length x.f2) {A3 : Option Addr} {c3 : Nat} (l3 : x.f3.length ≤ c3) (g3 : k32.C w A3 x.f3.length x.f3) : k25.K w x [.int .u8 x.f0, .string x.f1, .slice A2 x.f2.length c2, .slice A3 x.f3.length c3] := by
  obtain ⟨n2, q2⟩ := Kd.fix_C_back mono25 g2
  obtain ⟨n3, q3⟩ := C_dn mono25 monoG32 conG32 g3
  have r2 := Kd.upto_C_le mono25 sz25 (show n2 ≤ (max n2 n3) by omega) q2
  have r3 := C_le mono25 monoG32 sz25 (show n3 ≤ (max n2 n3) by omega) q3
  exact ⟨(max n2 n3) + 1, ⟨[.int .u8 x.f0], [.string x.f1, .slice A2 x.f2.length c2, .slice A3 x.f3.length c3], rfl, rfl, ⟨[.string x.f1], [.slice A2 x.f2.length c2, .slice A3 x.f3.length c3], rfl, rfl, ⟨[.slice A2 x.f2.length c2], [.slice A3 x.f3.length c3], rfl, ⟨A2, c2, rfl, l2, r2⟩, ⟨A3, c3, rfl, l3, r3⟩⟩⟩⟩⟩
theorem k25_mkM (w : World) (base : Nat) (ok : Nat → Prop) (x : S25) {v2 : Value} (g2 : k25.R 25 w base ok v2 x.f2) {v3 : Value} (g3 : k32.R 32 w base ok v3 x.f3) : k25.M w base ok x [.int .u8 x.f0, .string x.f1, v2, v3] := by
  obtain ⟨n2, q2⟩ := Kd.fix_R_back mono25 g2
  obtain ⟨n3, q3⟩ := R_dn mono25 monoG32 conG32 g3
  have r2 := Kd.upto_R_le mono25 sz25 (show n2 ≤ (max n2 n3) by omega) q2
  have r3 := R_le mono25 monoG32 sz25 (show n3 ≤ (max n2 n3) by omega) q3
  exact ⟨(max n2 n3) + 1, ⟨[.int .u8 x.f0], [.string x.f1, v2, v3], rfl, rfl, ⟨[.string x.f1], [v2, v3], rfl, rfl, ⟨[v2], [v3], rfl, ⟨v2, rfl, r2⟩, ⟨v3, rfl, r3⟩⟩⟩⟩⟩
theorem k25_openF {W : World} {ok : Nat → Prop} {x : S25} {cs : List Value} (h : Kd.FK k25 W ok x cs) : ∃ A2 c2 A3 c3, cs = [.int .u8 x.f0, .string x.f1, .slice A2 x.f2.length c2, .slice A3 x.f3.length c3] ∧ x.f2.length ≤ c2 ∧ Kd.F k25 W ok A2 x.f2.length x.f2 ∧ x.f3.length ≤ c3 ∧ Kd.F k32 W ok A3 x.f3.length x.f3 := by
  obtain ⟨A2, c2, A3, c3, rfl, l2, _, l3, _⟩ := k25_open (Kd.FK_now h)
  exact ⟨A2, c2, A3, c3, rfl, l2, (fun W' hW => by obtain ⟨A2_, c2_, A3_, c3_, he, l2_, g2_, l3_, g3_⟩ := k25_open (h W' hW); injection (Option.some.inj (show some (Value.slice A2 x.f2.length c2) = some (Value.slice A2_ x.f2.length c2_) from congrArg (fun l => l[2]?) he)) with ha_ _ _; rw [ha_]; exact g2_), l3, (fun W' hW => by obtain ⟨A2_, c2_, A3_, c3_, he, l2_, g2_, l3_, g3_⟩ := k25_open (h W' hW); injection (Option.some.inj (show some (Value.slice A3 x.f3.length c3) = some (Value.slice A3_ x.f3.length c3_) from congrArg (fun l => l[3]?) he)) with ha_ _ _; rw [ha_]; exact g3_)⟩
theorem k25_mkF (W : World) (ok : Nat → Prop) (x : S25) {A2 : Option Addr} {c2 : Nat} (l2 : x.f2.length ≤ c2) (g2 : Kd.F k25 W ok A2 x.f2.length x.f2) {A3 : Option Addr} {c3 : Nat} (l3 : x.f3.length ≤ c3) (g3 : Kd.F k32 W ok A3 x.f3.length x.f3) : Kd.FK k25 W ok x [.int .u8 x.f0, .string x.f1, .slice A2 x.f2.length c2, .slice A3 x.f3.length c3] := fun W2 hW => k25_mk W2 x l2 (g2 W2 hW) l3 (g3 W2 hW)
theorem k25_mkFV {W : World} {ok : Nat → Prop} (x : S25) {b2_ : Nat} {v2 : Value} (h2 : Kd.V k25 25 W b2_ ok v2 x.f2) {b3_ : Nat} {v3 : Value} (h3 : Kd.V k32 32 W b3_ ok v3 x.f3) : Kd.FK k25 W ok x [.int .u8 x.f0, .string x.f1, v2, v3] := by
  obtain ⟨A2, c2, rfl, l2, g2⟩ := h2
  obtain ⟨A3, c3, rfl, l3, g3⟩ := h3
  exact k25_mkF W ok x l2 g2 l3 g3
def rd_T25 (xs : List S25) (i : Int) : S25 := xs.getD i.toNat z25
theorem at_T25 {w : World} {A : Option Addr} {n : Nat} {xs : List S25} (h : Kd.C k25 w A n xs) (i : Int) (h0 : 0 ≤ i) (h1 : i < n) : ∃ ad A2 c2 A3 c3, A = some ad ∧ w.cell? (ad.add (i.toNat * 4)) = some (.int .u8 (rd_T25 xs i).f0) ∧ w.cell? ⟨(ad.add (i.toNat * 4)).block, (ad.add (i.toNat * 4)).off + 1, none⟩ = some (.string (rd_T25 xs i).f1) ∧ w.cell? ⟨(ad.add (i.toNat * 4)).block, (ad.add (i.toNat * 4)).off + 2, none⟩ = some (.slice A2 (rd_T25 xs i).f2.length c2) ∧ w.cell? ⟨(ad.add (i.toNat * 4)).block, (ad.add (i.toNat * 4)).off + 3, none⟩ = some (.slice A3 (rd_T25 xs i).f3.length c3) ∧ (rd_T25 xs i).f2.length ≤ c2 ∧ k25.C w A2 (rd_T25 xs i).f2.length (rd_T25 xs i).f2 ∧ (rd_T25 xs i).f3.length ≤ c3 ∧ k32.C w A3 (rd_T25 xs i).f3.length (rd_T25 xs i).f3 := by
  obtain ⟨ad, c, e, _, hK, hc0⟩ := Kd.C_get h z25 i h0 h1
  have hc : ∀ j u, c[j]? = some u → w.cell? (ad.add (i.toNat * 4 + j)) = some u := hc0
  obtain ⟨A2, c2, A3, c3, rfl, l2, g2, l3, g3⟩ := k25_open hK
  exact ⟨ad, A2, c2, A3, c3, e, hc 0 _ rfl, by rw [← add_field _ _ 1 (by omega)]; exact hc 1 _ rfl, by rw [← add_field _ _ 2 (by omega)]; exact hc 2 _ rfl, by rw [← add_field _ _ 3 (by omega)]; exact hc 3 _ rfl, l2, g2, l3, g3⟩

/-! #### struct type 32 -/
theorem k32_heap : Kd.Heap k32 := Kd.heap_iso _ (Kd.heap_pair Kd.heap_string k25_heap)
theorem k32_open {w : World} {x : S32} {cs : List Value} (h : k32.K w x cs) : ∃ A3 c3 A4 c4, cs = [.string x.f0, .int .u8 x.f1.f0, .string x.f1.f1, .slice A3 x.f1.f2.length c3, .slice A4 x.f1.f3.length c4] ∧ x.f1.f2.length ≤ c3 ∧ k25.C w A3 x.f1.f2.length x.f1.f2 ∧ x.f1.f3.length ≤ c4 ∧ k32.C w A4 x.f1.f3.length x.f1.f3 := by
  obtain ⟨_, _, rfl, rfl, s1⟩ := h
  obtain ⟨A3, c3, A4, c4, rfl, l3, g3, l4, g4⟩ := k25_open s1
  exact ⟨A3, c3, A4, c4, rfl, l3, g3, l4, g4⟩
theorem k32_openM {w : World} {base : Nat} {ok : Nat → Prop} {x : S32} {cs : List Value} (h : k32.M w base ok x cs) : ∃ v3 v4, cs = [.string x.f0, .int .u8 x.f1.f0, .string x.f1.f1, v3, v4] ∧ k25.R 25 w base ok v3 x.f1.f2 ∧ k32.R 32 w base ok v4 x.f1.f3 := by
  obtain ⟨_, _, rfl, rfl, s1⟩ := h
  obtain ⟨v3, v4, rfl, g3, g4⟩ := k25_openM s1
  exact ⟨v3, v4, rfl, g3, g4⟩
theorem k32_mk (w : World) (x : S32) {A3 : Option Addr} {c3 : Nat} (l3 : x.f1.f2.length ≤ c3) (g3 : k25.C w A3 x.f1.f2.length x.f1.f2) {A4 : Option Addr} {c4 : Nat} (l4 : x.f1.f3.length ≤ c4) (g4 : k32.C w A4 x.f1.f3.length x.f1.f3) : k32.K w x [.string x.f0, .int .u8 x.f1.f0, .string x.f1.f1, .slice A3 x.f1.f2.length c3, .slice A4 x.f1.f3.length c4] := ⟨[.string x.f0], [.int .u8 x.f1.f0, .string x.f1.f1, .slice A3 x.f1.f2.length c3, .slice A4 x.f1.f3.length c4], rfl, rfl, (k25_mk w x.f1 l3 g3 l4 g4)⟩
theorem k32_mkM (w : World) (base : Nat) (ok : Nat → Prop) (x : S32) {v3 : Value} (g3 : k25.R 25 w base ok v3 x.f1.f2) {v4 : Value} (g4 : k32.R 32 w base ok v4 x.f1.f3) : k32.M w base ok x [.string x.f0, .int .u8 x.f1.f0, .string x.f1.f1, v3, v4] := ⟨[.string x.f0], [.int .u8 x.f1.f0, .string x.f1.f1, v3, v4], rfl, rfl, (k25_mkM w base ok x.f1 g3 g4)⟩
theorem k32_openF {W : World} {ok : Nat → Prop} {x : S32} {cs : List Value} (h : Kd.FK k32 W ok x cs) : ∃ A3 c3 A4 c4, cs = [.string x.f0, .int .u8 x.f1.f0, .string x.f1.f1, .slice A3 x.f1.f2.length c3, .slice A4 x.f1.f3.length c4] ∧ x.f1.f2.length ≤ c3 ∧ Kd.F k25 W ok A3 x.f1.f2.length x.f1.f2 ∧ x.f1.f3.length ≤ c4 ∧ Kd.F k32 W ok A4 x.f1.f3.length x.f1.f3 := by
  obtain ⟨A3, c3, A4, c4, rfl, l3, _, l4, _⟩ := k32_open (Kd.FK_now h)
  exact ⟨A3, c3, A4, c4, rfl, l3, (fun W' hW => by obtain ⟨A3_, c3_, A4_, c4_, he, l3_, g3_, l4_, g4_⟩ := k32_open (h W' hW); injection (Option.some.inj (show some (Value.slice A3 x.f1.f2.length c3) = some (Value.slice A3_ x.f1.f2.length c3_) from congrArg (fun l => l[3]?) he)) with ha_ _ _; rw [ha_]; exact g3_), l4, (fun W' hW => by obtain ⟨A3_, c3_, A4_, c4_, he, l3_, g3_, l4_, g4_⟩ := k32_open (h W' hW); injection (Option.some.inj (show some (Value.slice A4 x.f1.f3.length c4) = some (Value.slice A4_ x.f1.f3.length c4_) from congrArg (fun l => l[4]?) he)) with ha_ _ _; rw [ha_]; exact g4_)⟩
theorem k32_mkF (W : World) (ok : Nat → Prop) (x : S32) {A3 : Option Addr} {c3 : Nat} (l3 : x.f1.f2.length ≤ c3) (g3 : Kd.F k25 W ok A3 x.f1.f2.length x.f1.f2) {A4 : Option Addr} {c4 : Nat} (l4 : x.f1.f3.length ≤ c4) (g4 : Kd.F k32 W ok A4 x.f1.f3.length x.f1.f3) : Kd.FK k32 W ok x [.string x.f0, .int .u8 x.f1.f0, .string x.f1.f1, .slice A3 x.f1.f2.length c3, .slice A4 x.f1.f3.length c4] := fun W2 hW => k32_mk W2 x l3 (g3 W2 hW) l4 (g4 W2 hW)
theorem k32_mkFV {W : World} {ok : Nat → Prop} (x : S32) {b3_ : Nat} {v3 : Value} (h3 : Kd.V k25 25 W b3_ ok v3 x.f1.f2) {b4_ : Nat} {v4 : Value} (h4 : Kd.V k32 32 W b4_ ok v4 x.f1.f3) : Kd.FK k32 W ok x [.string x.f0, .int .u8 x.f1.f0, .string x.f1.f1, v3, v4] := by
  obtain ⟨A3, c3, rfl, l3, g3⟩ := h3
  obtain ⟨A4, c4, rfl, l4, g4⟩ := h4
  exact k32_mkF W ok x l3 g3 l4 g4
def rd_T32 (xs : List S32) (i : Int) : S32 := xs.getD i.toNat z32
theorem at_T32 {w : World} {A : Option Addr} {n : Nat} {xs : List S32} (h : Kd.C k32 w A n xs) (i : Int) (h0 : 0 ≤ i) (h1 : i < n) : ∃ ad A3 c3 A4 c4, A = some ad ∧ w.cell? (ad.add (i.toNat * 5)) = some (.string (rd_T32 xs i).f0) ∧ w.cell? ⟨(ad.add (i.toNat * 5)).block, (ad.add (i.toNat * 5)).off + 1, none⟩ = some (.int .u8 (rd_T32 xs i).f1.f0) ∧ w.cell? ⟨(ad.add (i.toNat * 5)).block, (ad.add (i.toNat * 5)).off + 2, none⟩ = some (.string (rd_T32 xs i).f1.f1) ∧ w.cell? ⟨(ad.add (i.toNat * 5)).block, (ad.add (i.toNat * 5)).off + 3, none⟩ = some (.slice A3 (rd_T32 xs i).f1.f2.length c3) ∧ w.cell? ⟨(ad.add (i.toNat * 5)).block, (ad.add (i.toNat * 5)).off + 4, none⟩ = some (.slice A4 (rd_T32 xs i).f1.f3.length c4) ∧ (rd_T32 xs i).f1.f2.length ≤ c3 ∧ k25.C w A3 (rd_T32 xs i).f1.f2.length (rd_T32 xs i).f1.f2 ∧ (rd_T32 xs i).f1.f3.length ≤ c4 ∧ k32.C w A4 (rd_T32 xs i).f1.f3.length (rd_T32 xs i).f1.f3 := by
  obtain ⟨ad, c, e, _, hK, hc0⟩ := Kd.C_get h z32 i h0 h1
  have hc : ∀ j u, c[j]? = some u → w.cell? (ad.add (i.toNat * 5 + j)) = some u := hc0
  obtain ⟨A3, c3, A4, c4, rfl, l3, g3, l4, g4⟩ := k32_open hK
  exact ⟨ad, A3, c3, A4, c4, e, hc 0 _ rfl, by rw [← add_field _ _ 1 (by omega)]; exact hc 1 _ rfl, by rw [← add_field _ _ 2 (by omega)]; exact hc 2 _ rfl, by rw [← add_field _ _ 3 (by omega)]; exact hc 3 _ rfl, by rw [← add_field _ _ 4 (by omega)]; exact hc 4 _ rfl, l3, g3, l4, g4⟩

end Go.Proofs.Ytahedgkdgnlcfaa.PJsonGets
