/- The document's answers of layer 1, as plain functions on lists of bytes. -/
import Derived.Test.YtobhfpepclepdaaDoorPRopex4
import Derived.Test.YtobhfpepclepdaaDoorCuts
namespace Go.Proofs.YtobhfpepclepdaaDoor
open Go.RowKit Go.Proofs.YtobhfpepclepdaaDoorW.PrintWords Go.Proofs.YtobhfpepclepdaaDoorW.PrintLast Go.Proofs.YtobhfpepclepdaaDoorW.PrintMore
open Go.Proofs.YtobhfpepclepdaaDoor.PRope
open Go.Lib
set_option linter.unusedVariables false
theorem w64 {n : Int} (h0 : -4611686018427387904 ≤ n) (h1 : n ≤ 4611686018427387904) : wrap64 n = n := by unfold wrap64; omega
theorem w32 {n : Int} (h0 : 0 ≤ n) (h1 : n ≤ 2147483647) : wrap32 n = n := by unfold wrap32; omega
theorem len_size (s : ByteArray) : s.data.toList.length = s.size := by rw [Array.length_toList]; rfl
theorem bt_getD (s : ByteArray) (i : Nat) : bt s i = ((s.data.toList.getD i 0).toNat : Int) := by
  unfold bt
  rw [Int.toNat_natCast]
  by_cases h : i < s.size
  · rw [dif_pos h]
    have e : s[i] = s.data.toList[i]'(by rw [len_size]; exact h) := rfl
    rw [e, List.getD, List.getElem?_eq_getElem (by rw [len_size]; exact h)]; rfl
  · rw [dif_neg h, List.getD, List.getElem?_eq_none (by rw [len_size]; omega)]; rfl
theorem drop_getD (l : List UInt8) (p i : Nat) : (l.drop p).getD i 0 = l.getD (p + i) 0 := by simp [List.getD, List.getElem?_drop]
theorem nx_j0 (k : Nat) (x0 : ByteArray) (x1 : Int) (x20 : Bool) : glossatorref01_Next.j0 (k + 1) x0 x1 x20 = (if x20 = true then (some (0, 0, false)) else (if 0 ≤ x1 then (if x1 < (x0.size : Int) then (if (wrap64 (bt x0 x1)) < 128 then (some (wrap32 (wrap64 (bt x0 x1)), 1, true)) else (if (wrap64 (bt x0 x1)) ≥ 192 then (glossatorref01_Next.j1 k x0 x1 (wrap64 (bt x0 x1)) (decide ((wrap64 (bt x0 x1)) < 224))) else (glossatorref01_Next.j1 k x0 x1 (wrap64 (bt x0 x1)) false))) else (none)) else (none))) := by simp only [glossatorref01_Next.j0]
theorem nx_j1 (k : Nat) (x0 : ByteArray) (x1 : Int) (x7 : Int) (x31 : Bool) : glossatorref01_Next.j1 (k + 1) x0 x1 x7 x31 = (if x31 = true then (glossatorref01_Next.j3 k x0 x1 2 (wrap64 (x7 - 192))) else (if x7 ≥ 224 then (glossatorref01_Next.j2 k x0 x1 x7 (decide (x7 < 240))) else (glossatorref01_Next.j2 k x0 x1 x7 false))) := by simp only [glossatorref01_Next.j1]
theorem nx_j2 (k : Nat) (x0 : ByteArray) (x1 : Int) (x7 : Int) (x40 : Bool) : glossatorref01_Next.j2 (k + 1) x0 x1 x7 x40 = (if x40 = true then (glossatorref01_Next.j3 k x0 x1 3 (wrap64 (x7 - 224))) else (if x7 ≥ 240 then (if x7 < 248 then (glossatorref01_Next.j3 k x0 x1 4 (wrap64 (x7 - 240))) else (some (0, 0, false))) else (some (0, 0, false)))) := by simp only [glossatorref01_Next.j2]
theorem nx_j3 (k : Nat) (x0 : ByteArray) (x1 : Int) (x8 : Int) (x9 : Int) : glossatorref01_Next.j3 (k + 1) x0 x1 x8 x9 = (if (wrap64 (x1 + x8)) > (x0.size : Int) then (some (0, 0, false)) else (glossatorref01_Next.l0 k x0 x1 x8 x9 1)) := by simp only [glossatorref01_Next.j3]
theorem nx_l0 (k : Nat) (x0 : ByteArray) (x1 : Int) (x8 : Int) (x9 : Int) (x10 : Int) : glossatorref01_Next.l0 (k + 1) x0 x1 x8 x9 x10 = (if x10 < x8 then (if 0 ≤ (wrap64 (x1 + x10)) then (if (wrap64 (x1 + x10)) < (x0.size : Int) then (if (wrap64 (bt x0 (wrap64 (x1 + x10)))) < 128 then (some (0, 0, false)) else (if (wrap64 (bt x0 (wrap64 (x1 + x10)))) ≥ 192 then (some (0, 0, false)) else (glossatorref01_Next.l0 k x0 x1 x8 (wrap64 ((wrap64 ((wrap64 (x9 * 64)) + (wrap64 (bt x0 (wrap64 (x1 + x10)))))) - 128)) (wrap64 (x10 + 1))))) else (none)) else (none)) else ((some (([0, 0, 128, 2048, 65536] : List Int) : List Int)).bind fun y111 => (if 0 ≤ x8 then (if x8 < (y111.length : Int) then (if x9 < (rd y111 x8) then (some (0, 0, false)) else (if x9 > 1114111 then (some (0, 0, false)) else (if x9 ≥ 55296 then (if x9 < 57344 then (some (0, 0, false)) else (some (wrap32 (x9), x8, true))) else (some (wrap32 (x9), x8, true))))) else (none)) else (none)))) := by simp only [glossatorref01_Next.l0]
/-- What the reference makes of a character and its width. -/
def pk (d : Nat × Nat) : Int × Int × Bool := if d.1 = 65533 ∧ d.2 = 1 then (0, 0, false) else ((d.1 : Int), (d.2 : Int), true)
/-- What the reference says of the next character. -/
def nxI (l : List UInt8) : Int × Int × Bool := pk (decodeL l)
theorem fin_bad {d : Nat × Nat} (h : d = (65533, 1)) : some ((0 : Int), (0 : Int), false) = some (pk d) := by subst h; rfl
theorem fin_ok {d : Nat × Nat} {v k : Nat} {i : Int} (hi : i = (k : Int)) (h : d = (v, k)) (hk : k ≠ 1) (hv : (v : Int) ≤ 2147483647) : some (wrap32 (v : Int), i, true) = some (pk d) := by
  subst h hi
  unfold pk
  rw [if_neg (fun h => hk h.2), w32 (by omega) hv]
theorem next_plain (s : ByteArray) (p : Nat) (hp : p < s.size) (hs : s.size ≤ 140737488351232) (m : Nat) (n b0 b1 b2 b3 : Nat) (hn : n + p = s.size) (c0 : bt s p = b0) (c1 : bt s ((p : Int) + 1) = b1) (c2 : bt s ((p : Int) + 2) = b2) (c3 : bt s ((p : Int) + 3) = b3) (l0 : b0 < 256) (l1 : b1 < 256) (l2 : b2 < 256) (l3 : b3 < 256) :
    glossatorref01_Next.f (m + 10) s p = some (pk (decodeN n b0 b1 b2 b3)) := by
  have C0 := Aside0.mk c0
  have C1 := Aside0.mk c1
  have C2 := Aside0.mk c2
  have C3 := Aside0.mk c3
  clear c0 c1 c2 c3
  have e0 : Aside0 (wrap64 (b0 : Int) = b0) := ⟨w64 (by omega) (by omega)⟩
  have r2 : Aside0 (rd [0, 0, 128, 2048, 65536] 2 = 128) := ⟨rfl⟩
  have r3 : Aside0 (rd [0, 0, 128, 2048, 65536] 3 = 2048) := ⟨rfl⟩
  have r4 : Aside0 (rd [0, 0, 128, 2048, 65536] 4 = 65536) := ⟨rfl⟩
  have ln : Aside0 (([0, 0, 128, 2048, 65536] : List Int).length = 5) := ⟨rfl⟩
  have fp : Aside0 (wrap64 ((p : Int) + 1) = (p : Int) + 1) := ⟨w64 (by omega) (by omega)⟩
  have fp2 : Aside0 (wrap64 ((p : Int) + 2) = (p : Int) + 2) := ⟨w64 (by omega) (by omega)⟩
  have fp3 : Aside0 (wrap64 ((p : Int) + 3) = (p : Int) + 3) := ⟨w64 (by omega) (by omega)⟩
  have fp4 : Aside0 (wrap64 ((p : Int) + 4) = (p : Int) + 4) := ⟨w64 (by omega) (by omega)⟩
  have g1 : Aside0 (wrap64 (b1 : Int) = b1) := ⟨w64 (by omega) (by omega)⟩
  have g2 : Aside0 (wrap64 (b2 : Int) = b2) := ⟨w64 (by omega) (by omega)⟩
  have g3 : Aside0 (wrap64 (b3 : Int) = b3) := ⟨w64 (by omega) (by omega)⟩
  have o2 : Aside0 (wrap64 ((1 : Int) + 1) = 2) := ⟨by rw [w64 (by omega) (by omega)]; rfl⟩
  have o3 : Aside0 (wrap64 ((2 : Int) + 1) = 3) := ⟨by rw [w64 (by omega) (by omega)]; rfl⟩
  have o4 : Aside0 (wrap64 ((3 : Int) + 1) = 4) := ⟨by rw [w64 (by omega) (by omega)]; rfl⟩
  unfold glossatorref01_Next.f
  rw [if_neg (by omega), nx_j0, if_neg (by simp; omega), if_pos (by omega), if_pos (by omega), C0.out, e0.out]
  by_cases a1 : b0 < 128
  · rw [if_pos (by omega)]
    have ed : decodeN n b0 b1 b2 b3 = (b0, 1) := by unfold decodeN; rw [if_pos a1]
    rw [ed, w32 (by omega) (by omega)]
    unfold pk
    rw [if_neg (by simp; omega)]
    rfl
  rw [if_neg (by omega)]
  by_cases a2 : b0 < 192
  · rw [if_neg (by omega), nx_j1, if_neg (by simp), if_neg (by omega), nx_j2, if_neg (by simp), if_neg (by omega)]
    exact fin_bad (by unfold decodeN; rw [if_neg (by omega), if_neg (by omega), if_neg (by omega), if_neg (by omega)])
  rw [if_pos (by omega), nx_j1]
  by_cases a3 : b0 < 224
  · rw [if_pos (by simp; omega), nx_j3]
    have ed : decodeN n b0 b1 b2 b3 = if (1 < n ∧ b1 / 64 = 2) then (if b0 % 32 * 64 + b1 % 64 ≥ 128 then (b0 % 32 * 64 + b1 % 64, 2) else (65533, 1)) else (65533, 1) := by
      unfold decodeN
      rw [if_neg (by omega)]
      by_cases q : 1 < n ∧ b1 / 64 = 2
      · rw [if_pos ⟨by omega, q⟩, if_pos q]
      · rw [if_neg (fun h => q h.2), if_neg (by omega), if_neg (by omega), if_neg q]
    rw [fp2.out]
    by_cases q1 : 1 < n
    · rw [if_neg (by omega), nx_l0, if_pos (by omega), fp.out, if_pos (by omega), if_pos (by omega), C1.out, g1.out]
      by_cases q2 : b1 / 64 = 2
      · rw [if_neg (by omega), if_neg (by omega), o2.out, nx_l0, if_neg (by omega)]
        simp only [Option.bind_some]
        rw [if_pos (by omega), if_pos (by rw [ln.out]; omega), r2.out]
        have ev : wrap64 ((wrap64 ((wrap64 ((wrap64 ((b0 : Int) - 192)) * 64)) + (b1 : Int))) - 128) = ((b0 % 32 * 64 + b1 % 64 : Nat) : Int) := by
          rw [w64 (n := (b0 : Int) - 192) (by omega) (by omega), w64 (n := ((b0 : Int) - 192) * 64) (by omega) (by omega), w64 (n := ((b0 : Int) - 192) * 64 + b1) (by omega) (by omega), w64 (by omega) (by omega)]
          omega
        rw [ev]
        clear ev
        rw [if_pos ⟨q1, q2⟩] at ed
        generalize hv : b0 % 32 * 64 + b1 % 64 = v at *
        have hv2 : v ≤ 2047 := by omega
        by_cases q3 : v ≥ 128
        · rw [if_neg (by omega), if_neg (by omega), if_neg (by omega)]
          exact fin_ok (k := 2) rfl (by rw [ed, if_pos q3]) (by omega) (by omega)
        · rw [if_pos (by omega)]
          exact fin_bad (by rw [ed, if_neg q3])
      · have q9 : ¬ (1 < n ∧ b1 / 64 = 2) := fun h => q2 h.2
        by_cases qq : b1 < 128
        · rw [if_pos (by omega)]; exact fin_bad (by rw [ed, if_neg q9])
        · rw [if_neg (by omega), if_pos (by omega)]; exact fin_bad (by rw [ed, if_neg q9])
    · rw [if_pos (by omega)]
      exact fin_bad (by rw [ed, if_neg (fun h => q1 h.1)])
  rw [if_neg (by simp; omega), if_pos (by omega), nx_j2]
  by_cases a4 : b0 < 240
  · rw [if_pos (by simp; omega), nx_j3, fp3.out]
    have ed : decodeN n b0 b1 b2 b3 = if (1 < n ∧ b1 / 64 = 2) ∧ (2 < n ∧ b2 / 64 = 2) then (if b0 % 16 * 4096 + b1 % 64 * 64 + b2 % 64 ≥ 2048 ∧ (b0 % 16 * 4096 + b1 % 64 * 64 + b2 % 64 < 55296 ∨ (57344 ≤ b0 % 16 * 4096 + b1 % 64 * 64 + b2 % 64 ∧ b0 % 16 * 4096 + b1 % 64 * 64 + b2 % 64 ≤ 1114111)) then (b0 % 16 * 4096 + b1 % 64 * 64 + b2 % 64, 3) else (65533, 1)) else (65533, 1) := by
      unfold decodeN
      rw [if_neg (by omega), if_neg (by omega)]
      by_cases q : (1 < n ∧ b1 / 64 = 2) ∧ (2 < n ∧ b2 / 64 = 2)
      · rw [if_pos ⟨by omega, q⟩, if_pos q]
      · rw [if_neg (fun h => q h.2), if_neg (by omega), if_neg q]
    by_cases q1 : 2 < n
    · rw [if_neg (by omega), nx_l0, if_pos (by omega), fp.out, if_pos (by omega), if_pos (by omega), C1.out, g1.out]
      by_cases q2 : b1 / 64 = 2
      · rw [if_neg (by omega), if_neg (by omega), o2.out, nx_l0, if_pos (by omega), fp2.out, if_pos (by omega), if_pos (by omega), C2.out, g2.out]
        by_cases q3 : b2 / 64 = 2
        · rw [if_neg (by omega), if_neg (by omega), o3.out, nx_l0, if_neg (by omega)]
          simp only [Option.bind_some]
          rw [if_pos (by omega), if_pos (by rw [ln.out]; omega), r3.out]
          have ev : wrap64 ((wrap64 ((wrap64 ((wrap64 ((wrap64 ((wrap64 ((wrap64 ((b0 : Int) - 224)) * 64)) + (b1 : Int))) - 128)) * 64)) + (b2 : Int))) - 128) = ((b0 % 16 * 4096 + b1 % 64 * 64 + b2 % 64 : Nat) : Int) := by
            rw [w64 (n := (b0 : Int) - 224) (by omega) (by omega), w64 (n := ((b0 : Int) - 224) * 64) (by omega) (by omega), w64 (n := ((b0 : Int) - 224) * 64 + b1) (by omega) (by omega), w64 (n := ((b0 : Int) - 224) * 64 + b1 - 128) (by omega) (by omega), w64 (n := (((b0 : Int) - 224) * 64 + b1 - 128) * 64) (by omega) (by omega), w64 (n := (((b0 : Int) - 224) * 64 + b1 - 128) * 64 + b2) (by omega) (by omega), w64 (by omega) (by omega)]
            omega
          rw [ev]
          clear ev
          rw [if_pos ⟨⟨by omega, q2⟩, q1, q3⟩] at ed
          generalize hv : b0 % 16 * 4096 + b1 % 64 * 64 + b2 % 64 = v at *
          have hv2 : v ≤ 65535 := by omega
          by_cases q4 : v ≥ 2048
          · rw [if_neg (by omega), if_neg (by omega)]
            by_cases q5 : v < 55296
            · rw [if_neg (by omega)]
              exact fin_ok (k := 3) rfl (by rw [ed, if_pos ⟨q4, .inl q5⟩]) (by omega) (by omega)
            · rw [if_pos (by omega)]
              by_cases q6 : v < 57344
              · rw [if_pos (by omega)]
                exact fin_bad (by rw [ed, if_neg (by omega)])
              · rw [if_neg (by omega)]
                exact fin_ok (k := 3) rfl (by rw [ed, if_pos (by omega)]) (by omega) (by omega)
          · rw [if_pos (by omega)]
            exact fin_bad (by rw [ed, if_neg (by omega)])
        · have q9 : ¬ ((1 < n ∧ b1 / 64 = 2) ∧ (2 < n ∧ b2 / 64 = 2)) := fun h => q3 h.2.2
          by_cases qq : b2 < 128
          · rw [if_pos (by omega)]; exact fin_bad (by rw [ed, if_neg q9])
          · rw [if_neg (by omega), if_pos (by omega)]; exact fin_bad (by rw [ed, if_neg q9])
      · have q9 : ¬ ((1 < n ∧ b1 / 64 = 2) ∧ (2 < n ∧ b2 / 64 = 2)) := fun h => q2 h.1.2
        by_cases qq : b1 < 128
        · rw [if_pos (by omega)]; exact fin_bad (by rw [ed, if_neg q9])
        · rw [if_neg (by omega), if_pos (by omega)]; exact fin_bad (by rw [ed, if_neg q9])
    · rw [if_pos (by omega)]
      exact fin_bad (by rw [ed, if_neg (fun h => q1 h.2.1)])
  rw [if_neg (by simp; omega), if_pos (by omega)]
  by_cases a5 : b0 < 248
  · rw [if_pos (by omega), nx_j3, fp4.out]
    have ed : decodeN n b0 b1 b2 b3 = if (1 < n ∧ b1 / 64 = 2) ∧ (2 < n ∧ b2 / 64 = 2) ∧ (3 < n ∧ b3 / 64 = 2) then (if b0 % 8 * 262144 + b1 % 64 * 4096 + b2 % 64 * 64 + b3 % 64 ≥ 65536 ∧ (b0 % 8 * 262144 + b1 % 64 * 4096 + b2 % 64 * 64 + b3 % 64 < 55296 ∨ (57344 ≤ b0 % 8 * 262144 + b1 % 64 * 4096 + b2 % 64 * 64 + b3 % 64 ∧ b0 % 8 * 262144 + b1 % 64 * 4096 + b2 % 64 * 64 + b3 % 64 ≤ 1114111)) then (b0 % 8 * 262144 + b1 % 64 * 4096 + b2 % 64 * 64 + b3 % 64, 4) else (65533, 1)) else (65533, 1) := by
      unfold decodeN
      rw [if_neg (by omega), if_neg (by omega), if_neg (by omega)]
      by_cases q : (1 < n ∧ b1 / 64 = 2) ∧ (2 < n ∧ b2 / 64 = 2) ∧ (3 < n ∧ b3 / 64 = 2)
      · rw [if_pos ⟨by omega, q⟩, if_pos q]
      · rw [if_neg (fun h => q h.2), if_neg q]
    by_cases q1 : 3 < n
    · rw [if_neg (by omega), nx_l0, if_pos (by omega), fp.out, if_pos (by omega), if_pos (by omega), C1.out, g1.out]
      by_cases q2 : b1 / 64 = 2
      · rw [if_neg (by omega), if_neg (by omega), o2.out, nx_l0, if_pos (by omega), fp2.out, if_pos (by omega), if_pos (by omega), C2.out, g2.out]
        by_cases q3 : b2 / 64 = 2
        · rw [if_neg (by omega), if_neg (by omega), o3.out, nx_l0, if_pos (by omega), fp3.out, if_pos (by omega), if_pos (by omega), C3.out, g3.out]
          by_cases q7 : b3 / 64 = 2
          · rw [if_neg (by omega), if_neg (by omega), o4.out, nx_l0, if_neg (by omega)]
            simp only [Option.bind_some]
            rw [if_pos (by omega), if_pos (by rw [ln.out]; omega), r4.out]
            have ev : wrap64 ((wrap64 ((wrap64 ((wrap64 ((wrap64 ((wrap64 ((wrap64 ((wrap64 ((wrap64 ((wrap64 ((b0 : Int) - 240)) * 64)) + (b1 : Int))) - 128)) * 64)) + (b2 : Int))) - 128)) * 64)) + (b3 : Int))) - 128) = ((b0 % 8 * 262144 + b1 % 64 * 4096 + b2 % 64 * 64 + b3 % 64 : Nat) : Int) := by
              rw [w64 (n := (b0 : Int) - 240) (by omega) (by omega), w64 (n := ((b0 : Int) - 240) * 64) (by omega) (by omega), w64 (n := ((b0 : Int) - 240) * 64 + b1) (by omega) (by omega), w64 (n := ((b0 : Int) - 240) * 64 + b1 - 128) (by omega) (by omega), w64 (n := (((b0 : Int) - 240) * 64 + b1 - 128) * 64) (by omega) (by omega), w64 (n := (((b0 : Int) - 240) * 64 + b1 - 128) * 64 + b2) (by omega) (by omega), w64 (n := (((b0 : Int) - 240) * 64 + b1 - 128) * 64 + b2 - 128) (by omega) (by omega), w64 (n := ((((b0 : Int) - 240) * 64 + b1 - 128) * 64 + b2 - 128) * 64) (by omega) (by omega), w64 (n := ((((b0 : Int) - 240) * 64 + b1 - 128) * 64 + b2 - 128) * 64 + b3) (by omega) (by omega), w64 (by omega) (by omega)]
              omega
            rw [ev]
            clear ev
            rw [if_pos ⟨⟨by omega, q2⟩, ⟨by omega, q3⟩, q1, q7⟩] at ed
            generalize hv : b0 % 8 * 262144 + b1 % 64 * 4096 + b2 % 64 * 64 + b3 % 64 = v at *
            have hv2 : v ≤ 2097151 := by omega
            by_cases q4 : v ≥ 65536
            · rw [if_neg (by omega)]
              by_cases q5 : v > 1114111
              · rw [if_pos (by omega)]
                exact fin_bad (by rw [ed, if_neg (by omega)])
              · rw [if_neg (by omega), if_pos (by omega), if_neg (by omega)]
                exact fin_ok (k := 4) rfl (by rw [ed, if_pos (by omega)]) (by omega) (by omega)
            · rw [if_pos (by omega)]
              exact fin_bad (by rw [ed, if_neg (by omega)])
          · have q9 : ¬ ((1 < n ∧ b1 / 64 = 2) ∧ (2 < n ∧ b2 / 64 = 2) ∧ (3 < n ∧ b3 / 64 = 2)) := fun h => q7 h.2.2.2
            by_cases qq : b3 < 128
            · rw [if_pos (by omega)]; exact fin_bad (by rw [ed, if_neg q9])
            · rw [if_neg (by omega), if_pos (by omega)]; exact fin_bad (by rw [ed, if_neg q9])
        · have q9 : ¬ ((1 < n ∧ b1 / 64 = 2) ∧ (2 < n ∧ b2 / 64 = 2) ∧ (3 < n ∧ b3 / 64 = 2)) := fun h => q3 h.2.1.2
          by_cases qq : b2 < 128
          · rw [if_pos (by omega)]; exact fin_bad (by rw [ed, if_neg q9])
          · rw [if_neg (by omega), if_pos (by omega)]; exact fin_bad (by rw [ed, if_neg q9])
      · have q9 : ¬ ((1 < n ∧ b1 / 64 = 2) ∧ (2 < n ∧ b2 / 64 = 2) ∧ (3 < n ∧ b3 / 64 = 2)) := fun h => q2 h.1.2
        by_cases qq : b1 < 128
        · rw [if_pos (by omega)]; exact fin_bad (by rw [ed, if_neg q9])
        · rw [if_neg (by omega), if_pos (by omega)]; exact fin_bad (by rw [ed, if_neg q9])
    · rw [if_pos (by omega)]
      exact fin_bad (by rw [ed, if_neg (fun h => q1 h.2.2.1)])
  rw [if_neg (by omega)]
  exact fin_bad (by unfold decodeN; rw [if_neg (by omega), if_neg (by omega), if_neg (by omega), if_neg (by omega)])
/-- The reference's Next, at a place within a text. -/
theorem next_at (s : ByteArray) (p : Nat) (hp : p < s.size) (hs : s.size ≤ 140737488351232) (k : Nat) (hk : 10 ≤ k) : glossatorref01_Next.f k s p = some (nxI (s.data.toList.drop p)) := by
  obtain ⟨m, rfl⟩ : ∃ m, k = m + 10 := ⟨k - 10, by omega⟩
  rw [next_plain s p hp hs m (s.size - p) _ _ _ _ (by omega) (bt_getD s p) (by rw [show (p : Int) + 1 = ((p + 1 : Nat) : Int) by omega]; exact bt_getD s _) (by rw [show (p : Int) + 2 = ((p + 2 : Nat) : Int) by omega]; exact bt_getD s _) (by rw [show (p : Int) + 3 = ((p + 3 : Nat) : Int) by omega]; exact bt_getD s _) (UInt8.toNat_lt _) (UInt8.toNat_lt _) (UInt8.toNat_lt _) (UInt8.toNat_lt _)]
  unfold nxI pk
  rw [decodeL_N, List.length_drop, len_size, drop_getD, drop_getD, drop_getD, drop_getD]
  rfl
end Go.Proofs.YtobhfpepclepdaaDoor
