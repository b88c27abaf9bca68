/- Ropes: what level, join, grow and cut make of trees, in plain Lean. -/
import Derived.Test.YtobhfpepclepdaaDoorPair
namespace Go.Proofs.YtobhfpepclepdaaDoor
open Go.RowKit
open Go.Lib (decodeL validD)
set_option linter.unusedVariables false

namespace Tr
/-- Balanced: the two of a joint differ in depth by at most one. -/
def Bal : Tr → Prop
  | leaf _ => True
  | node l r => l.Bal ∧ r.Bal ∧ l.ht ≤ r.ht + 1 ∧ r.ht ≤ l.ht + 1
theorem ht_pos : ∀ t : Tr, 1 ≤ t.ht
  | leaf _ => Nat.le_refl _
  | node l r => by simp [Tr.ht]
/-- Two parts as one, one of them at most two deeper. -/
def level (a b : Tr) : Tr :=
  if b.ht + 1 < a.ht then
    match a with
    | leaf s => node (leaf s) b
    | node l r => if r.ht ≤ l.ht then node l (node r b) else
      match r with
      | leaf s => node (node l (leaf s)) b
      | node rl rr => node (node l rl) (node rr b)
  else if a.ht + 1 < b.ht then
    match b with
    | leaf s => node a (leaf s)
    | node l r => if l.ht ≤ r.ht then node (node a l) r else
      match l with
      | leaf s => node a (node (leaf s) r)
      | node ll lr => node (node a ll) (node lr r)
  else node a b
theorem level_txt (a b : Tr) : (level a b).txt = a.txt ++ b.txt := by
  unfold level
  repeat' split
  all_goals simp [Tr.txt]
theorem level_ok {a b : Tr} (ha : a.Ok) (hb : b.Ok) : (level a b).Ok := by
  unfold level
  repeat' split
  all_goals simp_all [Tr.Ok]
/-- What 'level' makes of balanced parts is balanced, and as deep as the deeper one, or one deeper. -/
theorem level_bal {a b : Tr} (ha : a.Bal) (hb : b.Bal) (h1 : a.ht ≤ b.ht + 2) (h2 : b.ht ≤ a.ht + 2) :
    (level a b).Bal ∧ max a.ht b.ht ≤ (level a b).ht ∧ (level a b).ht ≤ max a.ht b.ht + 1 := by
  unfold level
  repeat' split
  all_goals simp_all only [Tr.Bal, Tr.ht]
  all_goals first
    | exact absurd (ht_pos _) ‹_›
    | (simp only [true_and]; omega)
theorem level_ht {a b : Tr} (h1 : a.ht ≤ b.ht + 1) (h2 : b.ht ≤ a.ht + 1) : (level a b).ht = max a.ht b.ht + 1 := by
  unfold level
  rw [if_neg (by omega), if_neg (by omega)]
  rfl
/-- What two parts become by 'join': their text, balanced, as deep as the deeper one, or one deeper. -/
structure Joins (a b t : Tr) : Prop where
  txt : t.txt = a.txt ++ b.txt
  ok : t.Ok
  bal : t.Bal
  lo : max a.ht b.ht ≤ t.ht
  hi : t.ht ≤ max a.ht b.ht + 1
theorem joins_pair {a b : Tr} (oa : a.Ok) (ob : b.Ok) (ba : a.Bal) (bb : b.Bal) (h1 : a.ht ≤ b.ht + 1) (h2 : b.ht ≤ a.ht + 1) : Joins a b (node a b) :=
  ⟨rfl, ⟨oa, ob⟩, ⟨ba, bb, h1, h2⟩, by show _ ≤ max a.ht b.ht + 1; omega, Nat.le_refl _⟩
theorem joins_left {l r b t : Tr} (ol : l.Ok) (ba : (node l r).Bal) (hd : b.ht + 1 < (node l r).ht) (h : Joins r b t) : Joins (node l r) b (level l t) ∧ l.ht ≤ t.ht + 2 ∧ t.ht ≤ l.ht + 2 := by
  obtain ⟨bl, br, h1, h2⟩ := ba
  have lo := h.lo
  have hi := h.hi
  have e : (node l r).ht = max l.ht r.ht + 1 := rfl
  rw [e] at hd
  have g1 : l.ht ≤ t.ht + 2 := by omega
  have g2 : t.ht ≤ l.ht + 2 := by omega
  obtain ⟨k1, k2, k3⟩ := level_bal bl h.bal g1 g2
  refine ⟨⟨by rw [level_txt, h.txt]; simp [Tr.txt], level_ok ol h.ok, k1, ?_, ?_⟩, g1, g2⟩
  · rw [e]
    by_cases g : t.ht ≤ l.ht + 1
    · rw [level_ht (by omega) g]; omega
    · omega
  · rw [e]; omega
theorem joins_right {a l r t : Tr} (or' : r.Ok) (bb : (node l r).Bal) (hd : a.ht + 1 < (node l r).ht) (h : Joins a l t) : Joins a (node l r) (level t r) ∧ t.ht ≤ r.ht + 2 ∧ r.ht ≤ t.ht + 2 := by
  obtain ⟨bl, br, h1, h2⟩ := bb
  have lo := h.lo
  have hi := h.hi
  have e : (node l r).ht = max l.ht r.ht + 1 := rfl
  rw [e] at hd
  have g1 : t.ht ≤ r.ht + 2 := by omega
  have g2 : r.ht ≤ t.ht + 2 := by omega
  obtain ⟨k1, k2, k3⟩ := level_bal h.bal br g1 g2
  refine ⟨⟨by rw [level_txt, h.txt]; simp [Tr.txt], level_ok h.ok or', k1, ?_, ?_⟩, g1, g2⟩
  · rw [e]
    by_cases g : t.ht ≤ r.ht + 1
    · rw [level_ht g (by omega)]; omega
    · omega
  · rw [e]; omega
end Tr
end Go.Proofs.YtobhfpepclepdaaDoor
