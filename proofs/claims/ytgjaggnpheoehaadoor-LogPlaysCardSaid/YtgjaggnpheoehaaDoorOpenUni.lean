/- What Open tells, as three functions of the bytes; both Opens tell them. -/
import Derived.Test.YtgjaggnpheoehaaDoorTells
set_option linter.unusedVariables false
set_option linter.unusedSimpArgs false
namespace Go.Proofs.YtgjaggnpheoehaaDoor
open Go.RowKit

def oL (a n : Nat) (l : List UInt8) : List UInt8 := if openE a n l = 0 then payN l else []
def oN (a n : Nat) (l : List UInt8) : Nat := if openE a n l = 0 then 10 + sizeN l else 0
def oS (a n : Nat) (l : List UInt8) : Nat := if openE a n l = 0 then sumN a n (payN l) else 0
theorem oS_lt (a n : Nat) (l : List UInt8) : oS a n l < 4294967296 := by unfold oS; split; exact sumN_lt _ _ _; omega
theorem openE_lt (a n : Nat) (l : List UInt8) : openE a n l ≤ 11 := by unfold openE; repeat' split
                                                                       all_goals omega

theorem open_uni (a n : Nat) (l : List UInt8) (v : Value) (w : World) (hT : TabOk w) (ha : a < 4294967296) (hn : n < 4294967296) (hv : BS AllB w v l) :
    Calls Tryd.prog 21 #[.int .u32 a, .int .u32 n, v] w fun e w' => ∃ v', e = .returned (.tuple #[v', .int .i64 (oN a n l : Nat), .int .u32 (oS a n l : Nat), .int .i64 (openE a n l : Nat)]) ∧ Own 5 w' w.heap.size v' (oL a n l) ∧ Kp NoB w w' := by
  refine (open_calls a n l v w hT ha hn hv).mono ?_
  rintro e w' ⟨hk, ⟨h0, v', he, ho⟩ | ⟨h0, he⟩⟩
  · exact ⟨v', by rw [he, h0]; simp [oN, oS, h0], by unfold oL; rw [if_pos h0]; exact ho, hk⟩
  · exact ⟨.slice none 0 0, by rw [he]; simp [oN, oS, h0], by unfold oL; rw [if_neg h0]; exact Own.nil _ _ _, hk⟩
theorem ropen_uni (S : Nat → Prop) (a n : Nat) (l : List UInt8) (v : Value) (w : World) (ha : a < 4294967296) (hn : n < 4294967296) (hv : BS S w v l) :
    Calls Tryd.prog 22 #[.int .u32 a, .int .u32 n, v] w fun e w' => ∃ v', e = .returned (.tuple #[v', .int .i64 (oN a n l : Nat), .int .u32 (oS a n l : Nat), .int .i64 (openE a n l : Nat)]) ∧ BS S w' v' (oL a n l) ∧ Kp NoB w w' := by
  refine (ropen_calls S a n l v w ha hn hv).mono ?_
  rintro e w' ⟨hk, ⟨h0, v', he, ho⟩ | ⟨h0, he⟩⟩
  · exact ⟨v', by rw [he, h0]; simp [oN, oS, h0], by unfold oL; rw [if_pos h0]; exact ho, hk⟩
  · exact ⟨.slice none 0 0, by rw [he]; simp [oN, oS, h0], by unfold oL; rw [if_neg h0]; exact BS.nil _ _, hk⟩
end Go.Proofs.YtgjaggnpheoehaaDoor
