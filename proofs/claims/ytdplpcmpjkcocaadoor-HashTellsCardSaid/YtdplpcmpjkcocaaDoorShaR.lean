/- Plain facts for the reference's Sha1. -/
import Derived.Test.YtdplpcmpjkcocaaDoorShaF
set_option linter.unusedVariables false
set_option linter.unusedSimpArgs false
namespace Go.Proofs.YtdplpcmpjkcocaaDoor
open Go.RowKit

/-- A word while its bytes come. -/
def partW (l : List UInt8) (t : Nat) : Nat → Nat
  | 0 => 0
  | i + 1 => partW l t i * 256 + (l.getD (4 * t + i) 0).toNat
theorem partW_lt (l : List UInt8) (t : Nat) : ∀ i, partW l t i < 256 ^ i
  | 0 => by simp [partW]
  | i + 1 => by
    have := partW_lt l t i
    have := (l.getD (4 * t + i) 0).toNat_lt
    unfold partW
    rw [Nat.pow_succ]
    omega
theorem partW_lt3 (l : List UInt8) (t i : Nat) (h : i < 4) : partW l t i < 16777216 :=
  Nat.lt_of_lt_of_le (partW_lt l t i) (by rcases (by omega : i = 0 ∨ i = 1 ∨ i = 2 ∨ i = 3) with rfl | rfl | rfl | rfl <;> decide)
theorem partW_4 (l : List UInt8) (t : Nat) : partW l t 4 = word4 l t := by simp [partW, word4]
theorem fillW_zero (l : List UInt8) (t : Nat) (h : t < 80) : (fillW l t).set t 0 = fillW l t := by
  unfold fillW
  rw [List.set_append_right _ _ (by rw [wordsTo_length]; exact Nat.le_refl _), wordsTo_length, Nat.sub_self, show 80 - t = (80 - (t + 1)) + 1 by omega, List.replicate_succ, List.set_cons_zero]
theorem fillW_part (l : List UInt8) (t : Nat) (h : t < 16) : (fillW l t).set t (partW l t 4) = fillW l (t + 1) := by
  rw [partW_4, ← fillW_set l t (by omega)]
  unfold nextW
  rw [if_pos h]
theorem set_getD (ws : List Nat) (t n : Nat) (h : t < ws.length) : (ws.set t n).getD t 0 = n := by
  rw [List.getD_eq_getElem?_getD, List.getElem?_set_self h]
  rfl
def wdH (h : H5) (i : Nat) : Nat := if i = 0 then h.a else if i = 1 then h.b else if i = 2 then h.c else if i = 3 then h.d else h.e
theorem wdH_lt (h : H5) (hh : h.ok) (i : Nat) : wdH h i < 4294967296 := by
  obtain ⟨ha, hb, hc, hd, he⟩ := hh
  unfold wdH
  repeat' split
  all_goals assumption
theorem H5At.wd {w : World} {g : Nat} {h : H5} (x : H5At w g h) (i : Nat) (hi : i < 5) : w.cell? ⟨g, i, none⟩ = some (.int .u32 ((wdH h i : Nat) : Int)) := by
  rcases (by omega : i = 0 ∨ i = 1 ∨ i = 2 ∨ i = 3 ∨ i = 4) with rfl | rfl | rfl | rfl | rfl
  · exact x.c0
  · exact x.c1
  · exact x.c2
  · exact x.c3
  · exact x.c4
/-- The array while it is filled, a word from its end. -/
def midO (h : H5) (i j : Nat) : List UInt8 := (outH h).take (4 * i) ++ (List.replicate (4 - j) 0 ++ (((outH h).drop (4 * i + 4 - j)).take j ++ List.replicate (16 - 4 * i) 0))
theorem midO_zero (h : H5) (i : Nat) (hi : i < 5) : midO h i 0 = outTo h (4 * i) := by
  rcases (by omega : i = 0 ∨ i = 1 ∨ i = 2 ∨ i = 3 ∨ i = 4) with rfl | rfl | rfl | rfl | rfl <;> rfl
theorem midO_four (h : H5) (i : Nat) (hi : i < 5) : midO h i 4 = outTo h (4 * (i + 1)) := by
  rcases (by omega : i = 0 ∨ i = 1 ∨ i = 2 ∨ i = 3 ∨ i = 4) with rfl | rfl | rfl | rfl | rfl <;> rfl
theorem midO_length (h : H5) (i j : Nat) (hi : i < 5) (hj : j ≤ 4) : (midO h i j).length = 20 := by
  have := outH_length h
  simp [midO, this]
  omega
theorem midO_set (h : H5) (i j : Nat) (hi : i < 5) (hj : j < 4) : (midO h i j).set (4 * i + (3 - j)) (UInt8.ofNat (wdH h i / 256 ^ j)) = midO h i (j + 1) := by
  rcases (by omega : i = 0 ∨ i = 1 ∨ i = 2 ∨ i = 3 ∨ i = 4) with rfl | rfl | rfl | rfl | rfl <;> rcases (by omega : j = 0 ∨ j = 1 ∨ j = 2 ∨ j = 3) with rfl | rfl | rfl | rfl <;> simp [midO, outH, be4H, wdH]
theorem Arr.nat {t : TypeId} {w : World} {base b : Nat} {ws : List Nat} (h : Arr t w base b (w32s ws)) (i : Nat) (hi : i < ws.length) : w.cell? ⟨b, i, none⟩ = some (.int .u32 ((ws.getD i 0 : Nat) : Int)) := by
  rw [h.at_ i (by rw [w32s_length]; exact hi), w32s_get]
theorem Arr.putN {t : TypeId} {w : World} {base b : Nat} {ws : List Nat} (h : Arr t w base b (w32s ws)) (i n : Nat) : Arr t (w.setCell ⟨b, i, none⟩ (.int .u32 (n : Int))) base b (w32s (ws.set i n)) := by
  have := h.put i (.int .u32 (n : Int))
  rwa [w32s_set] at this
theorem Arr.putB {t : TypeId} {w : World} {base b : Nat} {l : List UInt8} (h : Arr t w base b (bvs l)) (i n : Nat) : Arr t (w.setCell ⟨b, i, none⟩ (.int .u8 ((n % 256 : Nat) : Int))) base b (bvs (l.set i (UInt8.ofNat n))) := by
  have := h.put i (.int .u8 ((n % 256 : Nat) : Int))
  rwa [bvs_set_at l i _ (UInt8.ofNat n) (by rw [val_u8])] at this
end Go.Proofs.YtdplpcmpjkcocaaDoor
