/- Plain laws on JSON values: a value is the same as itself; its twin is itself; the two Gets tell the same. -/
import Derived.Test.YtahedgkdgnlcfaaPJsonGetsx1
import Derived.Test.YtahedgkdgnlcfaaPJsonGetsx2
import Derived.Test.YtahedgkdgnlcfaaPJsonGetsx3
import Derived.Test.YtahedgkdgnlcfaaPJsonGetsx4
import Derived.Test.YtahedgkdgnlcfaaPJsonGetsx5
import Derived.Test.YtahedgkdgnlcfaaPJsonGetsx6
namespace Go.Proofs.Ytahedgkdgnlcfaa.PJsonGets
open Go.RowKit Go.Proofs.YtahedgkdgnlcfaaW.PrintWords Go.Proofs.YtahedgkdgnlcfaaW.PrintLast Go.Proofs.YtahedgkdgnlcfaaW.PrintMore

/-- All lists within a value have at most B elements. -/
inductive Fits (B : Nat) : S25 → Prop
  | mk (v : S25) : v.f2.length ≤ B → v.f3.length ≤ B → (∀ x ∈ v.f2, Fits B x) → (∀ y ∈ v.f3, Fits B y.f1) → Fits B v

theorem eta25 (v : S25) : (⟨v.f0, v.f1, v.f2, v.f3⟩ : S25) = v := by cases v; rfl
theorem eta32 (y : S32) : (⟨y.f0, (⟨y.f1.f0, y.f1.f1, y.f1.f2, y.f1.f3⟩ : S25)⟩ : S32) = y := by rw [eta25]
theorem wrap_up {i : Int} {n : Nat} (h0 : 0 ≤ i) (h : i < (n : Int)) (hn : n ≤ 1954687338267) : wrap64 (i + 1) = i + 1 := by
  unfold wrap64; omega
theorem rd25_mem {l : List S25} {i : Int} (h0 : 0 ≤ i) (h : i < (l.length : Int)) : rd_T25 l i ∈ l := by
  unfold rd_T25
  rw [List.getD_eq_getElem?_getD, List.getElem?_eq_getElem (by omega)]
  exact List.getElem_mem _
theorem rd32_mem {l : List S32} {i : Int} (h0 : 0 ≤ i) (h : i < (l.length : Int)) : rd_T32 l i ∈ l := by
  unfold rd_T32
  rw [List.getD_eq_getElem?_getD, List.getElem?_eq_getElem (by omega)]
  exact List.getElem_mem _
theorem rd25_at {l : List S25} {i : Int} (h0 : 0 ≤ i) (h : i < (l.length : Int)) : l[i.toNat]? = some (rd_T25 l i) := by
  unfold rd_T25
  rw [List.getD_eq_getElem?_getD, List.getElem?_eq_getElem (by omega)]; rfl
theorem rd32_at {l : List S32} {i : Int} (h0 : 0 ≤ i) (h : i < (l.length : Int)) : l[i.toNat]? = some (rd_T32 l i) := by
  unfold rd_T32
  rw [List.getD_eq_getElem?_getD, List.getElem?_eq_getElem (by omega)]; rfl

/-! ### Same -/
theorem same_l1 (a0 b0 : Int) (a1 b1 : ByteArray) (a2 b2 : List S25) (l : List S32) (hl : l.length ≤ 1954687338267)
    (he : ∀ y ∈ l, Ev (fun k => glossatorref03_Same.f k y.f1.f0 y.f1.f1 y.f1.f2 y.f1.f3 y.f1.f0 y.f1.f1 y.f1.f2 y.f1.f3) true) :
    ∀ d : Nat, ∀ i : Int, 0 ≤ i → i + d = l.length → Ev (fun k => glossatorref03_Same.l1 k i a0 a1 a2 l b0 b1 b2 l) true := by
  intro d
  induction d with
  | zero =>
    intro i h0 hd
    refine Ev.step (f := fun _ => some true) (fun k => ?_) (Ev.now true)
    simp only [glossatorref03_Same.l1]; rw [if_neg (by omega)]
  | succ d ih =>
    intro i h0 hd
    refine Ev.step (f := fun k => (glossatorref03_Same.f k ((rd_T32 l i).f1.f0) ((rd_T32 l i).f1.f1) ((rd_T32 l i).f1.f2) ((rd_T32 l i).f1.f3) ((rd_T32 l i).f1.f0) ((rd_T32 l i).f1.f1) ((rd_T32 l i).f1.f2) ((rd_T32 l i).f1.f3)).bind fun t194 => (if t194 = true then (glossatorref03_Same.l1 k (wrap64 (i + 1)) a0 a1 a2 l b0 b1 b2 l) else (some false))) (fun k => ?_) ?_
    · simp only [glossatorref03_Same.l1]; rw [if_pos (by omega), if_pos h0, if_pos (by omega), if_pos trivial]
    · refine Ev.bind (he _ (rd32_mem h0 (by omega))) ?_
      simp only [if_true]
      rw [wrap_up h0 (show i < (l.length : Int) by omega) hl]
      exact ih (i + 1) (by omega) (by omega)
theorem same_l0 (a0 b0 : Int) (a1 b1 : ByteArray) (l : List S25) (m : List S32) (hl : l.length ≤ 1954687338267) (hm : m.length ≤ 1954687338267)
    (he : ∀ y ∈ l, Ev (fun k => glossatorref03_Same.f k y.f0 y.f1 y.f2 y.f3 y.f0 y.f1 y.f2 y.f3) true)
    (hf : ∀ y ∈ m, Ev (fun k => glossatorref03_Same.f k y.f1.f0 y.f1.f1 y.f1.f2 y.f1.f3 y.f1.f0 y.f1.f1 y.f1.f2 y.f1.f3) true) :
    ∀ d : Nat, ∀ i : Int, 0 ≤ i → i + d = l.length → Ev (fun k => glossatorref03_Same.l0 k i a0 a1 l m b0 b1 l m) true := by
  intro d
  induction d with
  | zero =>
    intro i h0 hd
    refine Ev.step (f := fun k => glossatorref03_Same.l1 k 0 a0 a1 l m b0 b1 l m) (fun k => ?_) (same_l1 a0 b0 a1 b1 l l m hm hf m.length 0 (by omega) (by omega))
    simp only [glossatorref03_Same.l0]; rw [if_neg (by omega)]
  | succ d ih =>
    intro i h0 hd
    refine Ev.step (f := fun k => (glossatorref03_Same.f k ((rd_T25 l i).f0) ((rd_T25 l i).f1) ((rd_T25 l i).f2) ((rd_T25 l i).f3) ((rd_T25 l i).f0) ((rd_T25 l i).f1) ((rd_T25 l i).f2) ((rd_T25 l i).f3)).bind fun t189 => (if t189 = true then (glossatorref03_Same.l0 k (wrap64 (i + 1)) a0 a1 l m b0 b1 l m) else (some false))) (fun k => ?_) ?_
    · simp only [glossatorref03_Same.l0]; rw [if_pos (by omega), if_pos h0, if_pos (by omega)]
    · refine Ev.bind (he _ (rd25_mem h0 (by omega))) ?_
      simp only [if_true]
      rw [wrap_up h0 (show i < (l.length : Int) by omega) hl]
      exact ih (i + 1) (by omega) (by omega)
/-- A value is the same as itself. -/
theorem same_self {B : Nat} (hB : B ≤ 1954687338267) {v : S25} (h : Fits B v) : Ev (fun k => glossatorref03_Same.f k v.f0 v.f1 v.f2 v.f3 v.f0 v.f1 v.f2 v.f3) true := by
  induction h with
  | mk v h2 h3 _ _ ih2 ih3 =>
    refine Ev.step (f := fun k => glossatorref03_Same.j0 k ((v.f3.length : Int) != (v.f3.length : Int)) v.f0 v.f1 v.f2 v.f3 v.f0 v.f1 v.f2 v.f3) (fun k => ?_) ?_
    · simp only [glossatorref03_Same.f]; rw [if_pos trivial, if_pos trivial, if_pos trivial]
    · rw [bne_self_eq_false]
      refine Ev.step (f := fun k => glossatorref03_Same.l0 k 0 v.f0 v.f1 v.f2 v.f3 v.f0 v.f1 v.f2 v.f3) (fun k => ?_) (same_l0 v.f0 v.f0 v.f1 v.f1 v.f2 v.f3 (by omega) (by omega) ih2 ih3 v.f2.length 0 (by omega) (by omega))
      simp only [glossatorref03_Same.j0]; rw [if_neg (by simp)]

/-! ### json.twin: what it makes is what it is handed -/
def tup (v : S25) : Int × ByteArray × (List S25) × (List S32) := (v.f0, v.f1, v.f2, v.f3)
theorem set_grow {α : Type} {l : List α} {m : List α} {i : Nat} {x : α} (hx : l[i]? = some x) (hm : m.length = l.length) (hp : ∀ j, j < i → m[j]? = l[j]?) : ∀ j, j < i + 1 → (m.set i x)[j]? = l[j]? := by
  intro j hj
  by_cases e : j = i
  · subst e
    have := (List.getElem?_eq_some_iff.1 hx).1
    rw [List.getElem?_set_self (by omega), hx]
  · rw [List.getElem?_set_ne (by omega)]; exact hp j (by omega)
theorem all_at {α : Type} {l m : List α} (hm : m.length = l.length) (hp : ∀ j, j < l.length → m[j]? = l[j]?) : m = l := by
  apply List.ext_getElem?
  intro j
  by_cases h : j < l.length
  · exact hp j h
  · rw [List.getElem?_eq_none (by omega), List.getElem?_eq_none (by omega)]
theorem twin_l1 (a0 : Int) (a1 : ByteArray) (a2 : List S25) (l : List S32) (hl : l.length ≤ 1954687338267)
    (he : ∀ y ∈ l, Ev (fun k => json_twin.f k y.f1.f0 y.f1.f1 y.f1.f2 y.f1.f3) (tup y.f1)) :
    ∀ d : Nat, ∀ (i : Int) (m : List S32), 0 ≤ i → i + d = l.length → m.length = l.length → (∀ j, j < i.toNat → m[j]? = l[j]?) → Ev (fun k => json_twin.l1 k m l (l.length : Int) i a0 a1 a2 l) (a0, a1, a2, l) := by
  intro d
  induction d with
  | zero =>
    intro i m h0 hd hm hp
    refine Ev.step (f := fun _ => some (a0, a1, a2, m)) (fun k => ?_) ?_
    · simp only [json_twin.l1]; rw [if_neg (by omega)]
    · rw [all_at hm (fun j hj => hp j (by omega))]; exact Ev.now _
  | succ d ih =>
    intro i m h0 hd hm hp
    refine Ev.step (f := fun k => (json_twin.f k ((rd_T32 l i).f1.f0) ((rd_T32 l i).f1.f1) ((rd_T32 l i).f1.f2) ((rd_T32 l i).f1.f3)).bind fun bt164 => (if i < (m.length : Int) then (json_twin.l1 k (m.set (i : Int).toNat (⟨(rd_T32 l i).f0, (⟨bt164.1, bt164.2.1, bt164.2.2.1, bt164.2.2.2⟩ : S25)⟩ : S32)) l (l.length : Int) (wrap64 (i + 1)) a0 a1 a2 l) else (none))) (fun k => ?_) ?_
    · simp only [json_twin.l1]; rw [if_pos (by omega), if_pos h0, if_pos (by omega)]
    · refine Ev.bind (he _ (rd32_mem h0 (by omega))) ?_
      simp only [tup]
      have e1 : (i < (m.length : Int)) = True := by simp; omega
      simp only [e1, if_true]
      rw [wrap_up h0 (show i < (l.length : Int) by omega) hl]
      refine ih (i + 1) _ (by omega) (by omega) (by rw [List.length_set]; exact hm) ?_
      rw [show (i + 1).toNat = i.toNat + 1 by omega]
      rw [eta32]; exact set_grow (rd32_at (l := l) h0 (by omega)) hm hp
theorem twin_j1 (a0 : Int) (a1 : ByteArray) (a2 : List S25) (l : List S32) (hl : l.length ≤ 1954687338267)
    (he : ∀ y ∈ l, Ev (fun k => json_twin.f k y.f1.f0 y.f1.f1 y.f1.f2 y.f1.f3) (tup y.f1)) : Ev (fun k => json_twin.j1 k a0 a1 a2 l) (a0, a1, a2, l) := by
  by_cases hn : (l.length : Int) > 0
  · refine Ev.step (f := fun k => json_twin.l1 k (List.replicate ((l.length : Int) : Int).toNat z32) l (l.length : Int) 0 a0 a1 a2 l) (fun k => ?_) (twin_l1 a0 a1 a2 l hl he l.length 0 _ (by omega) (by omega) (by simp) (fun j hj => by simp at hj))
    simp only [json_twin.j1]; rw [if_pos hn, if_pos (by omega), if_pos (by omega)]
  · refine Ev.step (f := fun _ => some (a0, a1, a2, l)) (fun k => ?_) (Ev.now _)
    simp only [json_twin.j1]; rw [if_neg hn]
theorem twin_l0 (a0 : Int) (a1 : ByteArray) (l : List S25) (q : List S32) (hl : l.length ≤ 1954687338267) (hq : q.length ≤ 1954687338267)
    (he : ∀ y ∈ l, Ev (fun k => json_twin.f k y.f0 y.f1 y.f2 y.f3) (tup y))
    (hf : ∀ y ∈ q, Ev (fun k => json_twin.f k y.f1.f0 y.f1.f1 y.f1.f2 y.f1.f3) (tup y.f1)) :
    ∀ d : Nat, ∀ (i : Int) (m : List S25), 0 ≤ i → i + d = l.length → m.length = l.length → (∀ j, j < i.toNat → m[j]? = l[j]?) → Ev (fun k => json_twin.l0 k m l (l.length : Int) i a0 a1 l q) (a0, a1, l, q) := by
  intro d
  induction d with
  | zero =>
    intro i m h0 hd hm hp
    obtain rfl : m = l := all_at hm (fun j hj => hp j (by omega))
    refine Ev.step (f := fun k => json_twin.j1 k a0 a1 m q) (fun k => ?_) (twin_j1 a0 a1 m q hq hf)
    simp only [json_twin.l0]; rw [if_neg (by omega)]
  | succ d ih =>
    intro i m h0 hd hm hp
    refine Ev.step (f := fun k => (json_twin.f k ((rd_T25 l i).f0) ((rd_T25 l i).f1) ((rd_T25 l i).f2) ((rd_T25 l i).f3)).bind fun bt150 => (if i < (m.length : Int) then (json_twin.l0 k (m.set (i : Int).toNat (⟨bt150.1, bt150.2.1, bt150.2.2.1, bt150.2.2.2⟩ : S25)) l (l.length : Int) (wrap64 (i + 1)) a0 a1 l q) else (none))) (fun k => ?_) ?_
    · simp only [json_twin.l0]; rw [if_pos (by omega), if_pos h0, if_pos (by omega)]
    · refine Ev.bind (he _ (rd25_mem h0 (by omega))) ?_
      simp only [tup]
      have e1 : (i < (m.length : Int)) = True := by simp; omega
      simp only [e1, if_true]
      rw [wrap_up h0 (show i < (l.length : Int) by omega) hl]
      refine ih (i + 1) _ (by omega) (by omega) (by rw [List.length_set]; exact hm) ?_
      rw [show (i + 1).toNat = i.toNat + 1 by omega]
      rw [eta25]; exact set_grow (rd25_at (l := l) h0 (by omega)) hm hp
theorem twin_self {B : Nat} (hB : B ≤ 1599289640400) {v : S25} (h : Fits B v) : Ev (fun k => json_twin.f k v.f0 v.f1 v.f2 v.f3) (tup v) := by
  induction h with
  | mk v h2 h3 _ _ ih2 ih3 =>
    by_cases hn : (v.f2.length : Int) > 0
    · refine Ev.step (f := fun k => json_twin.l0 k (List.replicate ((v.f2.length : Int) : Int).toNat z25) v.f2 (v.f2.length : Int) 0 v.f0 v.f1 v.f2 v.f3) (fun k => ?_) (twin_l0 v.f0 v.f1 v.f2 v.f3 (by omega) (by omega) ih2 ih3 v.f2.length 0 _ (by omega) (by omega) (by simp) (fun j hj => by simp at hj))
      simp only [json_twin.f]; rw [if_pos hn, if_pos (by omega), if_pos (by omega)]
    · refine Ev.step (f := fun k => json_twin.j1 k v.f0 v.f1 v.f2 v.f3) (fun k => ?_) (twin_j1 v.f0 v.f1 v.f2 v.f3 (by omega) ih3)
      simp only [json_twin.f]; rw [if_neg hn]

/-! ### the reference's Twin: likewise -/
theorem take_up {α : Type} {l : List α} {i : Int} {x : α} (h0 : 0 ≤ i) (hx : l[i.toNat]? = some x) : l.take i.toNat ++ [x] = l.take (i + 1).toNat := by
  rw [show (i + 1).toNat = i.toNat + 1 by omega, List.take_add_one, hx]; rfl
theorem rtwin_l1 (a0 c0 : Int) (a1 c1 : ByteArray) (a2 c2 : List S25) (l : List S32) (hl : l.length ≤ 1599289640400)
    (he : ∀ y ∈ l, Ev (fun k => glossatorref03_Twin.f k y.f1.f0 y.f1.f1 y.f1.f2 y.f1.f3) (tup y.f1)) :
    ∀ d : Nat, ∀ (i : Int), 0 ≤ i → i + d = l.length → Ev (fun k => glossatorref03_Twin.l1 k i a0 a1 a2 l c0 c1 c2 (l.take i.toNat)) (c0, c1, c2, l) := by
  intro d
  induction d with
  | zero =>
    intro i h0 hd
    refine Ev.step (f := fun _ => some (c0, c1, c2, l)) (fun k => ?_) (Ev.now _)
    simp only [glossatorref03_Twin.l1]; rw [if_neg (by omega), List.take_of_length_le (by omega)]
  | succ d ih =>
    intro i h0 hd
    refine Ev.step (f := fun k => (glossatorref03_Twin.f k ((rd_T32 l i).f1.f0) ((rd_T32 l i).f1.f1) ((rd_T32 l i).f1.f2) ((rd_T32 l i).f1.f3)).bind fun bt128 => (if (l.take i.toNat).length < 1599289640401 then (glossatorref03_Twin.l1 k (wrap64 (i + 1)) a0 a1 a2 l c0 c1 c2 (l.take i.toNat ++ [(⟨(rd_T32 l i).f0, (⟨bt128.1, bt128.2.1, bt128.2.2.1, bt128.2.2.2⟩ : S25)⟩ : S32)])) else (none))) (fun k => ?_) ?_
    · simp only [glossatorref03_Twin.l1]; rw [if_pos (by omega), if_pos h0]
    · refine Ev.bind (he _ (rd32_mem h0 (by omega))) ?_
      simp only [tup]
      have e1 : ((l.take i.toNat).length < 1599289640401) = True := by simp [List.length_take]; omega
      simp only [e1, if_true]
      rw [wrap_up h0 (show i < (l.length : Int) by omega) (by omega)]
      have e2 := take_up h0 (rd32_at (l := l) h0 (by omega))
      have e3 : (⟨(rd_T32 l i).f0, (⟨(rd_T32 l i).f1.f0, (rd_T32 l i).f1.f1, (rd_T32 l i).f1.f2, (rd_T32 l i).f1.f3⟩ : S25)⟩ : S32) = rd_T32 l i := eta32 _
      rw [e3, e2]
      exact ih (i + 1) (by omega) (by omega)
theorem rtwin_l0 (a0 c0 : Int) (a1 c1 : ByteArray) (l : List S25) (q : List S32) (hl : l.length ≤ 1599289640400) (hq : q.length ≤ 1599289640400)
    (he : ∀ y ∈ l, Ev (fun k => glossatorref03_Twin.f k y.f0 y.f1 y.f2 y.f3) (tup y))
    (hf : ∀ y ∈ q, Ev (fun k => glossatorref03_Twin.f k y.f1.f0 y.f1.f1 y.f1.f2 y.f1.f3) (tup y.f1)) :
    ∀ d : Nat, ∀ (i : Int), 0 ≤ i → i + d = l.length → Ev (fun k => glossatorref03_Twin.l0 k i a0 a1 l q c0 c1 (l.take i.toNat)) (c0, c1, l, q) := by
  intro d
  induction d with
  | zero =>
    intro i h0 hd
    refine Ev.step (f := fun k => glossatorref03_Twin.l1 k 0 a0 a1 l q c0 c1 l []) (fun k => ?_) ?_
    · simp only [glossatorref03_Twin.l0]; rw [if_neg (by omega), List.take_of_length_le (by omega)]
    · have := rtwin_l1 a0 c0 a1 c1 l l q hq hf q.length 0 (by omega) (by omega)
      simpa using this
  | succ d ih =>
    intro i h0 hd
    refine Ev.step (f := fun k => (glossatorref03_Twin.f k ((rd_T25 l i).f0) ((rd_T25 l i).f1) ((rd_T25 l i).f2) ((rd_T25 l i).f3)).bind fun bt115 => (if (l.take i.toNat).length < 1954687338268 then (glossatorref03_Twin.l0 k (wrap64 (i + 1)) a0 a1 l q c0 c1 (l.take i.toNat ++ [(⟨bt115.1, bt115.2.1, bt115.2.2.1, bt115.2.2.2⟩ : S25)])) else (none))) (fun k => ?_) ?_
    · simp only [glossatorref03_Twin.l0]; rw [if_pos (by omega), if_pos h0]
    · refine Ev.bind (he _ (rd25_mem h0 (by omega))) ?_
      simp only [tup]
      have e1 : ((l.take i.toNat).length < 1954687338268) = True := by simp [List.length_take]; omega
      simp only [e1, if_true]
      rw [wrap_up h0 (show i < (l.length : Int) by omega) (by omega)]
      have e2 := take_up h0 (rd25_at (l := l) h0 (by omega))
      have e3 : (⟨(rd_T25 l i).f0, (rd_T25 l i).f1, (rd_T25 l i).f2, (rd_T25 l i).f3⟩ : S25) = rd_T25 l i := eta25 _
      rw [e3, e2]
      exact ih (i + 1) (by omega) (by omega)
theorem rtwin_self {B : Nat} (hB : B ≤ 1599289640400) {v : S25} (h : Fits B v) : Ev (fun k => glossatorref03_Twin.f k v.f0 v.f1 v.f2 v.f3) (tup v) := by
  induction h with
  | mk v h2 h3 _ _ ih2 ih3 =>
    refine Ev.step (f := fun k => glossatorref03_Twin.l0 k 0 v.f0 v.f1 v.f2 v.f3 v.f0 v.f1 []) (fun k => ?_) ?_
    · simp only [glossatorref03_Twin.f]
    · have := rtwin_l0 v.f0 v.f0 v.f1 v.f1 v.f2 v.f3 (by omega) (by omega) ih2 ih3 v.f2.length 0 (by omega) (by omega)
      simpa [tup] using this

/-! ### the two Gets -/
/-- The first field of a name, and that there is one; else no value. -/
def gotten (name : ByteArray) : List S32 → S25 × Bool
  | [] => (⟨0, ⟨#[]⟩, [], []⟩, false)
  | y :: l => if y.f0.toList = name.toList then (y.f1, true) else gotten name l
def got (v : S25) (name : ByteArray) : S25 × Bool := if v.f0 = 6 then gotten name v.f3 else (⟨0, ⟨#[]⟩, [], []⟩, false)
def tup5 (x : S25 × Bool) : Int × ByteArray × (List S25) × (List S32) × Bool := (x.1.f0, x.1.f1, x.1.f2, x.1.f3, x.2)
theorem drop_at {l : List S32} {i : Int} (h0 : 0 ≤ i) (h : i < (l.length : Int)) : l.drop i.toNat = rd_T32 l i :: l.drop (i + 1).toNat := by
  rw [show (i + 1).toNat = i.toNat + 1 by omega]
  have := rd32_at h0 h
  obtain ⟨h1, h2⟩ := List.getElem?_eq_some_iff.1 this
  rw [List.drop_eq_getElem_cons h1, h2]
theorem rget_loop (name a1 : ByteArray) (a0 : Int) (a2 : List S25) (l : List S32) (hl : l.length ≤ 1599289640400) (h6 : a0 = 6) :
    ∀ d : Nat, ∀ (i : Int), 0 ≤ i → i + d = l.length → Ev (fun k => glossatorref03_Get.l0 k name i a0 a1 a2 l) (tup5 (gotten name (l.drop i.toNat))) := by
  intro d
  induction d with
  | zero =>
    intro i h0 hd
    rw [List.drop_of_length_le (by omega)]
    refine Ev.step (f := fun k => glossatorref03_Get.j1 k name i false a0 a1 a2 l) (fun k => ?_) (Ev.step (f := fun _ => some (tup5 (gotten name []))) (fun k => ?_) (Ev.now _))
    · simp only [glossatorref03_Get.l0]; rw [if_neg (by omega)]
    · simp only [glossatorref03_Get.j1]; rw [if_neg (by simp)]; rfl
  | succ d ih =>
    intro i h0 hd
    have hlt : i < (l.length : Int) := by omega
    refine Ev.step (f := fun k => glossatorref03_Get.j1 k name i (a0 == 6) a0 a1 a2 l) (fun k => ?_) ?_
    · simp only [glossatorref03_Get.l0]; rw [if_pos hlt]
    · rw [drop_at h0 hlt]
      by_cases hn : ((rd_T32 l i).f0).toList = name.toList
      · refine Ev.step (f := fun _ => some (tup5 ((rd_T32 l i).f1, true))) (fun k => ?_) ?_
        · simp only [glossatorref03_Get.j1]; rw [if_pos (by simp [h6]), if_pos h0, if_pos hlt, if_pos hn]; rfl
        · unfold gotten; rw [if_pos hn]; exact Ev.now _
      · refine Ev.step (f := fun k => glossatorref03_Get.l0 k name (wrap64 (i + 1)) a0 a1 a2 l) (fun k => ?_) ?_
        · simp only [glossatorref03_Get.j1]; rw [if_pos (by simp [h6]), if_pos h0, if_pos hlt, if_neg hn]
        · unfold gotten; rw [if_neg hn, wrap_up h0 hlt (by omega)]; exact ih (i + 1) (by omega) (by omega)
theorem rget_got {B : Nat} (hB : B ≤ 1599289640400) {v : S25} (h : Fits B v) (name : ByteArray) : Ev (fun k => glossatorref03_Get.f k v.f0 v.f1 v.f2 v.f3 name) (tup5 (got v name)) := by
  obtain ⟨_, h2, h3, _, _⟩ := h
  unfold got
  by_cases h6 : v.f0 = 6
  · rw [if_pos h6]
    exact rget_loop name v.f1 v.f0 v.f2 v.f3 (by omega) h6 v.f3.length 0 (by omega) (by omega)
  · rw [if_neg h6]
    have hf : ∀ k, glossatorref03_Get.f k v.f0 v.f1 v.f2 v.f3 name = glossatorref03_Get.l0 k name 0 v.f0 v.f1 v.f2 v.f3 := fun _ => rfl
    refine Ev.congr hf (Ev.step (f := fun k => glossatorref03_Get.j1 k name 0 false v.f0 v.f1 v.f2 v.f3) (fun k => ?_) (Ev.step (f := fun _ => some (tup5 (gotten name []))) (fun k => ?_) (Ev.now _)))
    · simp only [glossatorref03_Get.l0]; split
      · rw [show (v.f0 == 6) = false by simp [h6]]
      · rfl
    · simp only [glossatorref03_Get.j1]; rw [if_neg (by simp)]; rfl
theorem get_loop (name : ByteArray) (l : List S32) (hl : l.length ≤ 1599289640400)
    (he : ∀ y ∈ l, Ev (fun k => json_twin.f k y.f1.f0 y.f1.f1 y.f1.f2 y.f1.f3) (tup y.f1)) :
    ∀ d : Nat, ∀ (i : Int), 0 ≤ i → i + d = l.length → Ev (fun k => json_Get.l0 k name l (l.length : Int) i) (tup5 (gotten name (l.drop i.toNat))) := by
  intro d
  induction d with
  | zero =>
    intro i h0 hd
    rw [List.drop_of_length_le (by omega)]
    refine Ev.step (f := fun _ => some (tup5 (gotten name []))) (fun k => ?_) (Ev.now _)
    simp only [json_Get.l0]; rw [if_neg (by omega)]; rfl
  | succ d ih =>
    intro i h0 hd
    have hlt : i < (l.length : Int) := by omega
    rw [drop_at h0 hlt]
    by_cases hn : ((rd_T32 l i).f0).toList = name.toList
    · refine Ev.step (f := fun k => (json_twin.f k ((rd_T32 l i).f1.f0) ((rd_T32 l i).f1.f1) ((rd_T32 l i).f1.f2) ((rd_T32 l i).f1.f3)).bind fun bt177 => (some (bt177.1, bt177.2.1, bt177.2.2.1, bt177.2.2.2, true))) (fun k => ?_) ?_
      · simp only [json_Get.l0]; rw [if_pos hlt, if_pos h0, if_pos hlt, if_pos hn]
      · refine Ev.bind (he _ (rd32_mem h0 hlt)) ?_
        unfold gotten; rw [if_pos hn]; exact Ev.now _
    · refine Ev.step (f := fun k => json_Get.l0 k name l (l.length : Int) (wrap64 (i + 1))) (fun k => ?_) ?_
      · simp only [json_Get.l0]; rw [if_pos hlt, if_pos h0, if_pos hlt, if_neg hn]
      · unfold gotten; rw [if_neg hn, wrap_up h0 hlt (by omega)]; exact ih (i + 1) (by omega) (by omega)
theorem get_got {B : Nat} (hB : B ≤ 1599289640400) {v : S25} (h : Fits B v) (name : ByteArray) : Ev (fun k => json_Get.f k v.f0 v.f1 v.f2 v.f3 name) (tup5 (got v name)) := by
  obtain ⟨_, h2, h3, _, hf⟩ := h
  unfold got
  by_cases h6 : v.f0 = 6
  · rw [if_pos h6]
    refine Ev.congr (f := fun k => json_Get.l0 k name v.f3 (v.f3.length : Int) 0) (fun k => ?_) (get_loop name v.f3 (by omega) (fun y hy => twin_self hB (hf y hy)) v.f3.length 0 (by omega) (by omega))
    simp only [json_Get.f]; rw [if_pos h6]
  · rw [if_neg h6]
    refine Ev.congr (f := fun _ => some (tup5 (⟨0, ⟨#[]⟩, [], []⟩, false))) (fun k => ?_) (Ev.now _)
    simp only [json_Get.f]; rw [if_neg h6]; rfl
/-- What is gotten fits, too. -/
theorem gotten_fits {B : Nat} (name : ByteArray) : ∀ (l : List S32), (∀ y ∈ l, Fits B y.f1) → Fits B (gotten name l).1
  | [], _ => ⟨_, by simp [gotten], by simp [gotten], by simp [gotten], by simp [gotten]⟩
  | y :: l, h => by
    unfold gotten
    split
    · exact h y (by simp)
    · exact gotten_fits name l (fun z hz => h z (by simp [hz]))
theorem got_fits {B : Nat} {v : S25} (h : Fits B v) (name : ByteArray) : Fits B (got v name).1 := by
  obtain ⟨_, _, _, _, hf⟩ := h
  unfold got
  split
  · exact gotten_fits name _ hf
  · exact ⟨_, by simp, by simp, by simp, by simp⟩

/-! ### Small: it ends; and what is small fits -/
/-- What is known of a count. -/
def Counted (v : S25) : Prop := ∀ a d : Int, 0 ≤ a → a ≤ 3000 → 0 ≤ d → d ≤ 200 → ∃ r b, Ev (fun k => glossatorref03_count.f k v.f0 v.f1 v.f2 v.f3 a d) (r, b) ∧ 0 ≤ r ∧ r ≤ 3000 ∧ (b = true → Fits 3000 v)
theorem count_l1 (a0 : Int) (a1 : ByteArray) (a2 : List S25) (l : List S32) (hl : l.length ≤ 1954687338267) (x2 : Int) (h2 : 1 ≤ x2) (h2' : x2 ≤ 200)
    (he : ∀ y ∈ l, Counted y.f1) :
    ∀ d : Nat, ∀ (i x1 : Int) (ok : Bool), 0 ≤ i → i + d = l.length → 0 ≤ x1 → x1 ≤ 3000 → ∃ r b, Ev (fun k => glossatorref03_count.l1 k x1 x2 ok i a0 a1 a2 l) (r, b) ∧ 0 ≤ r ∧ r ≤ 3000 ∧ (b = true → ok = true ∧ ∀ y ∈ l.drop i.toNat, Fits 3000 y.f1) := by
  intro d
  induction d with
  | zero =>
    intro i x1 ok h0 hd hx hx'
    refine ⟨x1, ok, Ev.step (f := fun _ => some (x1, ok)) (fun k => ?_) (Ev.now _), hx, hx', fun hb => ⟨hb, ?_⟩⟩
    · simp only [glossatorref03_count.l1]; rw [if_neg (by omega)]
    · rw [List.drop_of_length_le (by omega)]; simp
  | succ d ih =>
    intro i x1 ok h0 hd hx hx'
    have hlt : i < (l.length : Int) := by omega
    cases ok with
    | false =>
      refine ⟨x1, false, Ev.step (f := fun _ => some (x1, false)) (fun k => ?_) (Ev.now _), hx, hx', fun hb => by cases hb⟩
      simp only [glossatorref03_count.l1]; rw [if_pos hlt, if_neg (by simp)]
    | true =>
      obtain ⟨r, b, hE, hr, hr', hb⟩ := he _ (rd32_mem h0 hlt) x1 (x2 - 1) hx hx' (by omega) (by omega)
      obtain ⟨r2, b2, hE2, hr2, hr2', hb2⟩ := ih (i + 1) r b (by omega) (by omega) hr hr'
      refine ⟨r2, b2, Ev.step (f := fun k => (glossatorref03_count.f k ((rd_T32 l i).f1.f0) ((rd_T32 l i).f1.f1) ((rd_T32 l i).f1.f2) ((rd_T32 l i).f1.f3) x1 (x2 - 1)).bind fun bt106 => (glossatorref03_count.l1 k bt106.1 x2 bt106.2 (i + 1) a0 a1 a2 l)) (fun k => ?_) (Ev.bind hE hE2), hr2, hr2', fun h => ?_⟩
      · simp only [glossatorref03_count.l1]; rw [if_pos hlt, if_pos trivial, if_pos h0, wrap_up h0 hlt hl, show wrap64 (x2 - 1) = x2 - 1 by unfold wrap64; omega]
      · obtain ⟨e1, e2⟩ := hb2 h
        refine ⟨rfl, ?_⟩
        rw [drop_at h0 hlt]
        intro y hy
        rcases List.mem_cons.1 hy with rfl | hy
        · exact hb e1
        · exact e2 y hy
theorem count_l0 (a0 : Int) (a1 : ByteArray) (q : List S25) (l : List S32) (hq : q.length ≤ 1954687338267) (hl : l.length ≤ 1954687338267) (x2 : Int) (h2 : 1 ≤ x2) (h2' : x2 ≤ 200)
    (hf : ∀ y ∈ q, Counted y) (he : ∀ y ∈ l, Counted y.f1) :
    ∀ d : Nat, ∀ (i x1 : Int) (ok : Bool), 0 ≤ i → i + d = q.length → 0 ≤ x1 → x1 ≤ 3000 → ∃ r b, Ev (fun k => glossatorref03_count.l0 k x1 x2 ok i a0 a1 q l) (r, b) ∧ 0 ≤ r ∧ r ≤ 3000 ∧ (b = true → ok = true ∧ (∀ y ∈ q.drop i.toNat, Fits 3000 y) ∧ ∀ y ∈ l, Fits 3000 y.f1) := by
  have last : ∀ (x1 : Int) (ok : Bool), 0 ≤ x1 → x1 ≤ 3000 → ∃ r b, Ev (fun k => glossatorref03_count.j2 k x1 x2 ok a0 a1 q l) (r, b) ∧ 0 ≤ r ∧ r ≤ 3000 ∧ (b = true → ok = true ∧ ∀ y ∈ l, Fits 3000 y.f1) := by
    intro x1 ok hx hx'
    obtain ⟨r, b, hE, hr, hr', hb⟩ := count_l1 a0 a1 q l hl x2 h2 h2' he l.length 0 x1 ok (by omega) (by omega) hx hx'
    exact ⟨r, b, Ev.step (f := fun k => glossatorref03_count.l1 k x1 x2 ok 0 a0 a1 q l) (fun k => by simp only [glossatorref03_count.j2]) hE, hr, hr', by simpa using hb⟩
  intro d
  induction d with
  | zero =>
    intro i x1 ok h0 hd hx hx'
    obtain ⟨r, b, hE, hr, hr', hb⟩ := last x1 ok hx hx'
    refine ⟨r, b, Ev.step (f := fun k => glossatorref03_count.j2 k x1 x2 ok a0 a1 q l) (fun k => ?_) hE, hr, hr', fun h => ⟨(hb h).1, ?_, (hb h).2⟩⟩
    · simp only [glossatorref03_count.l0]; rw [if_neg (by omega)]
    · rw [List.drop_of_length_le (by omega)]; simp
  | succ d ih =>
    intro i x1 ok h0 hd hx hx'
    have hlt : i < (q.length : Int) := by omega
    cases ok with
    | false =>
      obtain ⟨r, b, hE, hr, hr', hb⟩ := last x1 false hx hx'
      refine ⟨r, b, Ev.step (f := fun k => glossatorref03_count.j2 k x1 x2 false a0 a1 q l) (fun k => ?_) hE, hr, hr', fun h => by have := (hb h).1; cases this⟩
      simp only [glossatorref03_count.l0]; rw [if_pos hlt, if_neg (by simp)]
    | true =>
      obtain ⟨r, b, hE, hr, hr', hb⟩ := hf _ (rd25_mem h0 hlt) x1 (x2 - 1) hx hx' (by omega) (by omega)
      obtain ⟨r2, b2, hE2, hr2, hr2', hb2⟩ := ih (i + 1) r b (by omega) (by omega) hr hr'
      refine ⟨r2, b2, Ev.step (f := fun k => (glossatorref03_count.f k ((rd_T25 q i).f0) ((rd_T25 q i).f1) ((rd_T25 q i).f2) ((rd_T25 q i).f3) x1 (x2 - 1)).bind fun bt103 => (glossatorref03_count.l0 k bt103.1 x2 bt103.2 (i + 1) a0 a1 q l)) (fun k => ?_) (Ev.bind hE hE2), hr2, hr2', fun h => ?_⟩
      · simp only [glossatorref03_count.l0]; rw [if_pos hlt, if_pos trivial, if_pos h0, wrap_up h0 hlt hq, show wrap64 (x2 - 1) = x2 - 1 by unfold wrap64; omega]
      · obtain ⟨e1, e2, e3⟩ := hb2 h
        refine ⟨rfl, ?_, e3⟩
        have hdr : q.drop i.toNat = rd_T25 q i :: q.drop (i + 1).toNat := by
          rw [show (i + 1).toNat = i.toNat + 1 by omega]
          obtain ⟨h1, h2⟩ := List.getElem?_eq_some_iff.1 (rd25_at h0 hlt)
          rw [List.drop_eq_getElem_cons h1, h2]
        rw [hdr]
        intro y hy
        rcases List.mem_cons.1 hy with rfl | hy
        · exact hb e1
        · exact e2 y hy
theorem counted {B : Nat} (hB : B ≤ 1954687338267) {v : S25} (h : Fits B v) : Counted v := by
  induction h with
  | mk v h2 h3 _ _ ih2 ih3 =>
    intro a d ha ha' hd hd'
    have w1 : wrap64 (a - 1) = a - 1 := by unfold wrap64; omega
    have w2 : wrap64 ((v.f2.length : Int) + (v.f3.length : Int)) = (v.f2.length : Int) + (v.f3.length : Int) := by unfold wrap64; omega
    have no : Ev (fun k => glossatorref03_count.j0 k (a - 1) d true v.f0 v.f1 v.f2 v.f3) (0, false) := Ev.step (f := fun _ => some (0, false)) (fun k => by simp only [glossatorref03_count.j0]; rw [if_pos trivial]) (Ev.now _)
    by_cases c1 : a - 1 < 0
    · refine ⟨0, false, Ev.step (f := fun k => glossatorref03_count.j0 k (a - 1) d true v.f0 v.f1 v.f2 v.f3) (fun k => ?_) no, by omega, by omega, fun h => by cases h⟩
      simp only [glossatorref03_count.f]; rw [w1, if_pos c1]
    · by_cases c2 : d < 1
      · refine ⟨0, false, Ev.step (f := fun k => glossatorref03_count.j0 k (a - 1) d true v.f0 v.f1 v.f2 v.f3) (fun k => ?_) no, by omega, by omega, fun h => by cases h⟩
        simp only [glossatorref03_count.f]; rw [w1, if_neg c1, if_pos c2]
      · by_cases c3 : (v.f2.length : Int) + (v.f3.length : Int) > a - 1
        · refine ⟨0, false, Ev.step (f := fun k => glossatorref03_count.j0 k (a - 1) d true v.f0 v.f1 v.f2 v.f3) (fun k => ?_) no, by omega, by omega, fun h => by cases h⟩
          simp only [glossatorref03_count.f]; rw [w1, if_neg c1, if_neg c2, w2, decide_eq_true c3]
        · obtain ⟨r, b, hE, hr, hr', hb⟩ := count_l0 v.f0 v.f1 v.f2 v.f3 (by omega) (by omega) d (by omega) hd' ih2 ih3 v.f2.length 0 (a - 1) true (by omega) (by omega) (by omega) (by omega)
          refine ⟨r, b, Ev.step (f := fun k => glossatorref03_count.j0 k (a - 1) d false v.f0 v.f1 v.f2 v.f3) (fun k => ?_) (Ev.step (f := fun k => glossatorref03_count.l0 k (a - 1) d true 0 v.f0 v.f1 v.f2 v.f3) (fun k => ?_) hE), hr, hr', fun h => ?_⟩
          · simp only [glossatorref03_count.f]; rw [w1, if_neg c1, if_neg c2, w2, decide_eq_false c3]
          · simp only [glossatorref03_count.j0]; rw [if_neg (by simp)]
          · obtain ⟨_, e2, e3⟩ := hb h
            exact ⟨v, by omega, by omega, by simpa using e2, e3⟩
theorem small_ends {B : Nat} (hB : B ≤ 1954687338267) {v : S25} (h : Fits B v) (a d : Int) (ha : 0 ≤ a) (ha' : a ≤ 3000) (hd : 0 ≤ d) (hd' : d ≤ 200) :
    ∃ b, Ev (fun k => glossatorref03_Small.f k v.f0 v.f1 v.f2 v.f3 a d) b ∧ (b = true → Fits 3000 v) := by
  obtain ⟨r, b, hE, _, _, hb⟩ := counted hB h a d ha ha' hd hd'
  refine ⟨b, Ev.congr (f := fun k => (glossatorref03_count.f k v.f0 v.f1 v.f2 v.f3 a d).bind fun bt109 => (some bt109.2)) (fun k => ?_) (Ev.bind hE (Ev.now _)), hb⟩
  simp only [glossatorref03_Small.f]
end Go.Proofs.Ytahedgkdgnlcfaa.PJsonGets
