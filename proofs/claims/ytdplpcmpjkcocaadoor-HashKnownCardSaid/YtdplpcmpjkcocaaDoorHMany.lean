/- HashKnown's two closures: many, hex. -/
import Derived.Test.YtdplpcmpjkcocaaDoorShaH
import Derived.StillTailTactics
set_option linter.unusedVariables false
set_option linter.unusedSimpArgs false
namespace Go.Proofs.YtdplpcmpjkcocaaDoor
open Go.RowKit

def fillC (c : UInt8) (n k : Nat) : List UInt8 := List.replicate k c ++ List.replicate (n - k) 0
theorem fillC_set (c : UInt8) (n k : Nat) (h : k < n) : (fillC c n k).set k c = fillC c n (k + 1) := by
  unfold fillC
  rw [List.set_append_right _ _ (by simp), List.length_replicate, Nat.sub_self, show n - k = (n - (k + 1)) + 1 by omega, List.replicate_succ, List.set_cons_zero, List.replicate_succ' (n := k)]
  simp
theorem fillC_length (c : UInt8) (n k : Nat) (h : k ≤ n) : (fillC c n k).length = n := by simp [fillC]; omega
theorem many_calls (c : UInt8) (n : Nat) (hn : n ≤ 10000) (w : World) :
    Calls Tryd.prog 13 #[.int .u8 (c.toNat : Int), .int .i64 (n : Int)] w fun e w' => ∃ v, e = .returned v ∧ Own 5 w' w.heap.size v (List.replicate n c) ∧ Kp NoB w w' := by
  have hmk : ∀ W, (Instr.makeSlice 22 (.int .i64 (n : Int)) (.int .i64 (n : Int))).run Tryd.prog W = .ok (.slice (some ⟨W.heap.size, 0, none⟩) n n) (W.alloc (.cells (madeCells #[.int .u8 0] n) 5)) := fun W => make_bytes byteT n (by omega) W
  have os := Own.made 5 w n (by omega)
  have ka : Kp NoB w (w.alloc (.cells (madeCells #[.int .u8 0] n) 5)) := (Kp.refl _ _).alloc _
  have OS := Lib.hid os
  have KA := Lib.hid ka
  have hc := c.toNat_lt
  clear os ka
  go_enter Tryd.func13, Tryd.ntmps13
  go_wp2_with fail
  clear hmk
  have os := OS.out
  have KA := KA.out
  generalize w.alloc (.cells (madeCells #[.int .u8 0] n) 5) = w1 at *
  have h0 : List.replicate n (0 : UInt8) = fillC c n 0 := by simp [fillC]
  rw [h0] at os
  clear OS h0
  have KA := Lib.hid KA
  go_loopw [11] (fun i wr => ∃ k : Nat, k ≤ n ∧ i = .int .i64 (k : Int) ∧ Own 5 wr w.heap.size (.slice (some ⟨w.heap.size, 0, none⟩) n n) (fillC c n k) ∧ Kp (fun b => b = w.heap.size) w1 wr) (fun i _ => n - (intOf i).toNat)
  case atStart => exact ⟨0, Nat.zero_le _, rfl, os, Kp.refl _ _⟩
  case round =>
    obtain ⟨k, hk, rfl, ho, hq⟩ := hrel
    clear os
    by_cases hlt : k < n
    · obtain ⟨hc0, hf0⟩ := ho.cell k (by rw [fillC_length c n k hk]; exact hlt)
      replace hc0 : ∃ cv, wr.cell? ⟨w.heap.size, k, none⟩ = some cv := ⟨_, hc0⟩
      obtain ⟨cv, hc0⟩ := hc0
      have hput := ho.put k c
      rw [fillC_set c n k hlt] at hput
      have HP := Lib.hid hput
      have HQ := Lib.hid hq
      clear hput hq ho
      go_wp2_with fail
      go_roundw
      case measure => simp [intOf]; omega
      case rel => exact ⟨k + 1, by omega, by go_num, HP.out, HQ.out.trans kp_set'⟩
    · obtain rfl : k = n := by omega
      have hfin : fillC c k k = List.replicate k c := by simp [fillC]
      rw [hfin] at ho
      have HO := Lib.hid ho
      have HK := Lib.hid (KA.out.step hq fun i hi hf => by have h1 : i = w.heap.size := hf; omega)
      clear ho hq hfin
      go_wp2_with fail
      go_ret
      exact ⟨_, rfl, HO.out, HK.out⟩

def hexD (n : Nat) : UInt8 := [48, 49, 50, 51, 52, 53, 54, 55, 56, 57, 97, 98, 99, 100, 101, 102].getD n 0
def hexL (l : List UInt8) : List UInt8 := l.flatMap fun c => [hexD (c.toNat / 16), hexD (c.toNat % 16)]
def digits : ByteArray := { data := #[48, 49, 50, 51, 52, 53, 54, 55, 56, 57, 97, 98, 99, 100, 101, 102] }
theorem digit_at (n : Nat) (h : n < 16) (W : World) : (Instr.index 9 (.string { data := #[48, 49, 50, 51, 52, 53, 54, 55, 56, 57, 97, 98, 99, 100, 101, 102] }) (.int .u8 (n : Int))).run Tryd.prog W = .ok (.int .u8 ((hexD n).toNat : Int)) W := by
  rcases (by omega : n = 0 ∨ n = 1 ∨ n = 2 ∨ n = 3 ∨ n = 4 ∨ n = 5 ∨ n = 6 ∨ n = 7 ∨ n = 8 ∨ n = 9 ∨ n = 10 ∨ n = 11 ∨ n = 12 ∨ n = 13 ∨ n = 14 ∨ n = 15) with rfl | rfl | rfl | rfl | rfl | rfl | rfl | rfl | rfl | rfl | rfl | rfl | rfl | rfl | rfl | rfl <;> kernel_rfl
theorem bytes_append (a b : List UInt8) : (ByteArray.mk a.toArray) ++ (ByteArray.mk b.toArray) = ByteArray.mk (a ++ b).toArray := by
  apply ByteArray.ext
  simp
end Go.Proofs.YtdplpcmpjkcocaaDoor
