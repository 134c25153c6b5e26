/- The walks of the small functions: a word turned, what is made of three words. -/
import Derived.Test.YtdplpcmpjkcocaaDoorProg
import Derived.Test.YtdplpcmpjkcocaaDoorVals
import Derived.Test.YtdplpcmpjkcocaaDoorSha
set_option linter.unusedVariables false
set_option linter.unusedSimpArgs false
namespace Go.Proofs.YtdplpcmpjkcocaaDoor
open Go.RowKit

theorem ret_int {k : IntKind} {a b : Int} (h : a = b) : Ending.returned (.int k a) = .returned (.int k b) := by rw [h]
theorem or_disj (a b k : Nat) (hb : b < 2 ^ k) : a * 2 ^ k ||| b = a * 2 ^ k + b := by
  rw [Nat.mul_comm]
  exact (Nat.two_pow_add_eq_or_of_lt hb a).symm
theorem rotN_lt (x k : Nat) (hx : x < 4294967296) (hk : k = 1 ∨ k = 5 ∨ k = 30) : rotN x k < 4294967296 := by
  unfold rotN
  rcases hk with rfl | rfl | rfl <;> simp only [Nat.reducePow, Nat.reduceSub] <;> omega

theorem and_lt32 {a b : Nat} (ha : a < 4294967296) : a &&& b < 4294967296 := Nat.lt_of_le_of_lt Nat.and_le_left ha
theorem or_lt32 {a b : Nat} (ha : a < 4294967296) (hb : b < 4294967296) : a ||| b < 4294967296 := Nat.or_lt_two_pow (n := 32) ha hb
theorem xor_lt32 {a b : Nat} (ha : a < 4294967296) (hb : b < 4294967296) : a ^^^ b < 4294967296 := Nat.xor_lt_two_pow (n := 32) ha hb
theorem xor_ones {r : Nat} (h : r < 4294967296) : 4294967295 ^^^ r = 4294967295 - r := by
  have h1 : (BitVec.allOnes 32 ^^^ BitVec.ofNat 32 r).toNat = (~~~ (BitVec.ofNat 32 r)).toNat := by rw [BitVec.allOnes_xor]
  rw [BitVec.toNat_xor, BitVec.toNat_not, BitVec.toNat_allOnes, BitVec.toNat_ofNat, Nat.mod_eq_of_lt (show r < 2 ^ 32 from h)] at h1
  exact h1
theorem not_u32 {r : Nat} (h : r < 4294967296) : bits .xor .u32 IntKind.u32.max (r : Int) = ((4294967295 - r : Nat) : Int) := by
  rw [← xor_ones h]
  exact u32_xor_nat 4294967295 r (by decide) h
theorem chN_lt {b c d : Nat} (hb : b < 4294967296) (hc : c < 4294967296) (hd : d < 4294967296) : chN b c d < 4294967296 := or_lt32 (and_lt32 hb) (and_lt32 (by omega))
theorem parN_lt {b c d : Nat} (hb : b < 4294967296) (hc : c < 4294967296) (hd : d < 4294967296) : parN b c d < 4294967296 := xor_lt32 (xor_lt32 hb hc) hd
theorem majN_lt {b c d : Nat} (hb : b < 4294967296) (hc : c < 4294967296) (hd : d < 4294967296) : majN b c d < 4294967296 := or_lt32 (or_lt32 (and_lt32 hb) (and_lt32 hb)) (and_lt32 hc)
theorem fN_lt (q : Nat) {b c d : Nat} (hb : b < 4294967296) (hc : c < 4294967296) (hd : d < 4294967296) : fN q b c d < 4294967296 := by
  unfold fN
  split
  · exact chN_lt hb hc hd
  · split
    · exact majN_lt hb hc hd
    · exact parN_lt hb hc hd
theorem kN_lt (q : Nat) : kN q < 4294967296 := by unfold kN; repeat' split
                                                  all_goals decide
theorem rot_bits (x k : Nat) (hx : x < 4294967296) (hk : k = 1 ∨ k = 5 ∨ k = 30) : bits .or .u32 ((x * 2 ^ k % 4294967296 : Nat) : Int) ((x / 2 ^ (32 - k) : Nat) : Int) = (rotN x k : Nat) := by
  rw [u32_or_nat _ _ (Nat.mod_lt _ (by decide)) (Nat.lt_of_le_of_lt (Nat.div_le_self _ _) hx)]
  unfold rotN
  have e : x * 2 ^ k % 4294967296 = x % 2 ^ (32 - k) * 2 ^ k := by
    rcases hk with rfl | rfl | rfl <;> simp only [Nat.reducePow, Nat.reduceSub] <;> omega
  rw [e, or_disj]
  rcases hk with rfl | rfl | rfl <;> simp only [Nat.reducePow, Nat.reduceSub] <;> omega

theorem rot1_calls (x : Nat) (hx : x < 4294967296) (w : World) : Calls Tryd.prog 22 #[.int .u32 x, .int .i64 1] w fun e w' => e = .returned (.int .u32 (rotN x 1 : Nat)) ∧ w = w' := by
  have e0 : bits .and .u64 1 31 = 1 := by decide +kernel
  go_enter Tryd.func22, Tryd.ntmps22
  go_wp2
  go_ret
  exact ⟨ret_int (rot_bits x 1 hx (by simp)), rfl⟩
theorem rot5_calls (x : Nat) (hx : x < 4294967296) (w : World) : Calls Tryd.prog 22 #[.int .u32 x, .int .i64 5] w fun e w' => e = .returned (.int .u32 (rotN x 5 : Nat)) ∧ w = w' := by
  have e0 : bits .and .u64 5 31 = 5 := by decide +kernel
  go_enter Tryd.func22, Tryd.ntmps22
  go_wp2
  go_ret
  exact ⟨ret_int (rot_bits x 5 hx (by simp)), rfl⟩
theorem rot30_calls (x : Nat) (hx : x < 4294967296) (w : World) : Calls Tryd.prog 22 #[.int .u32 x, .int .i64 30] w fun e w' => e = .returned (.int .u32 (rotN x 30 : Nat)) ∧ w = w' := by
  have e0 : bits .and .u64 30 31 = 30 := by decide +kernel
  go_enter Tryd.func22, Tryd.ntmps22
  go_wp2
  go_ret
  exact ⟨ret_int (rot_bits x 30 hx (by simp)), rfl⟩
theorem choice_calls (b c d : Nat) (hb : b < 4294967296) (hc : c < 4294967296) (hd : d < 4294967296) (w : World) : Calls Tryd.prog 40 #[.int .u32 b, .int .u32 c, .int .u32 d] w fun e w' => e = .returned (.int .u32 (chN b c d : Nat)) ∧ w = w' := by
  go_enter Tryd.func40, Tryd.ntmps40
  go_wp2
  all_goals (
    go_ret
    refine ⟨ret_int ?_, rfl⟩
    first
    | exact absurd ‹_› (by decide)
    | (rw [not_u32 hb, u32_and_nat b c hb hc, u32_and_nat _ d (by omega) hd, u32_or_nat _ _ (and_lt32 hb) (and_lt32 (by omega))]; rfl))
theorem parity_calls (b c d : Nat) (hb : b < 4294967296) (hc : c < 4294967296) (hd : d < 4294967296) (w : World) : Calls Tryd.prog 41 #[.int .u32 b, .int .u32 c, .int .u32 d] w fun e w' => e = .returned (.int .u32 (parN b c d : Nat)) ∧ w = w' := by
  go_enter Tryd.func41, Tryd.ntmps41
  go_wp2
  go_ret
  refine ⟨ret_int ?_, rfl⟩
  rw [u32_xor_nat b c hb hc, u32_xor_nat _ d (xor_lt32 hb hc) hd]
  rfl
theorem most_calls (b c d : Nat) (hb : b < 4294967296) (hc : c < 4294967296) (hd : d < 4294967296) (w : World) : Calls Tryd.prog 42 #[.int .u32 b, .int .u32 c, .int .u32 d] w fun e w' => e = .returned (.int .u32 (majN b c d : Nat)) ∧ w = w' := by
  go_enter Tryd.func42, Tryd.ntmps42
  go_wp2
  go_ret
  refine ⟨ret_int ?_, rfl⟩
  rw [u32_and_nat b c hb hc, u32_and_nat b d hb hd, u32_and_nat c d hc hd, u32_or_nat _ _ (and_lt32 hb) (and_lt32 hb), u32_or_nat _ _ (or_lt32 (and_lt32 hb) (and_lt32 hb)) (and_lt32 hc)]
  rfl

/-- A word turned i times by one: its lower bits go up. -/
def turnN (x : Nat) : Nat → Nat
  | 0 => x
  | i + 1 => turnN x i * 2 % 4294967296 + turnN x i / 2147483648
theorem turnN_lt (x : Nat) (hx : x < 4294967296) : ∀ i, turnN x i < 4294967296
  | 0 => hx
  | i + 1 => by have := turnN_lt x hx i; unfold turnN; omega
theorem turn_step (P Q a b1 b0 : Nat) (hb1 : b1 < 2) (hb0 : b0 < P) (ha : a < Q) : ((b0 + P * b1) * Q + a) * 2 % (2 * (P * Q)) + ((b0 + P * b1) * Q + a) / (P * Q) = b0 * (2 * Q) + (2 * a + b1) := by
  have hr : b0 * Q + a < P * Q := by
    have h1 : b0 * Q + a < (b0 + 1) * Q := by rw [Nat.add_mul]; omega
    exact Nat.lt_of_lt_of_le h1 (Nat.mul_le_mul_right Q hb0)
  have hy : (b0 + P * b1) * Q + a = P * Q * b1 + (b0 * Q + a) := by
    rw [Nat.add_mul, Nat.mul_right_comm]
    omega
  have hpq : 0 < P * Q := by omega
  rw [hy, Nat.mul_add_div hpq, Nat.div_eq_of_lt hr]
  have h2 : (P * Q * b1 + (b0 * Q + a)) * 2 = 2 * (P * Q) * b1 + 2 * (b0 * Q + a) := by
    rw [Nat.add_mul, Nat.mul_comm (P * Q * b1) 2, ← Nat.mul_assoc]
    omega
  rw [h2, Nat.mul_add_mod, Nat.mod_eq_of_lt (by omega)]
  rw [Nat.mul_add, ← Nat.mul_assoc, Nat.mul_comm 2 b0, Nat.mul_assoc]
  omega
theorem turnN_rot (x : Nat) (hx : x < 4294967296) : ∀ i, i ≤ 31 → turnN x i = x % 2 ^ (32 - i) * 2 ^ i + x / 2 ^ (32 - i)
  | 0, _ => by simp [turnN]; omega
  | i + 1, h => by
    have ih := turnN_rot x hx i (by omega)
    unfold turnN
    rw [ih]
    obtain ⟨P, hP⟩ : ∃ P, P = 2 ^ (31 - i) := ⟨_, rfl⟩
    obtain ⟨Q, hQ⟩ : ∃ Q, Q = 2 ^ i := ⟨_, rfl⟩
    have e1 : 2 ^ (32 - i) = P * 2 := by rw [hP, ← Nat.pow_succ]; congr 1; omega
    have e2 : P * Q = 2147483648 := by rw [hP, hQ, ← Nat.pow_add, show 31 - i + i = 31 by omega]
    have e3 : 2 ^ (i + 1) = 2 * Q := by rw [hQ, Nat.pow_succ, Nat.mul_comm]
    have e4 : 2 ^ (32 - (i + 1)) = P := by rw [hP]; congr 1; omega
    have hp0 : 0 < P := by rw [hP]; exact Nat.two_pow_pos _
    rw [e1, e3, e4, ← hQ, Nat.mod_mul, ← Nat.div_div_eq_div_mul]
    have hst := turn_step P Q (x / P / 2) (x / P % 2) (x % P) (Nat.mod_lt _ (by decide)) (Nat.mod_lt _ hp0) (by
      rw [Nat.div_div_eq_div_mul]
      refine Nat.div_lt_of_lt_mul ?_
      rw [Nat.mul_assoc, Nat.mul_comm 2 Q, ← Nat.mul_assoc, e2]
      exact hx)
    rw [e2] at hst
    rw [show 2 * 2147483648 = 4294967296 from rfl] at hst
    rw [hst]
    have := Nat.div_add_mod (x / P) 2
    omega
theorem turnN_is (x k : Nat) (hx : x < 4294967296) (hk : k = 1 ∨ k = 5 ∨ k = 30) : turnN x k = rotN x k := by
  rw [turnN_rot x hx k (by omega)]
  unfold rotN
  rcases hk with rfl | rfl | rfl <;> simp only [Nat.reducePow, Nat.reduceSub] <;> omega
theorem left_calls (x k : Nat) (hx : x < 4294967296) (hk : k = 1 ∨ k = 5 ∨ k = 30) (w : World) : Calls Tryd.prog 17 #[.int .u32 x, .int .i64 k] w fun e w' => e = .returned (.int .u32 (rotN x k : Nat)) ∧ w = w' := by
  have hti := turnN_is x k hx hk
  rw [← hti]
  have hkb : k ≤ 30 := by omega
  clear hti hk
  go_enter Tryd.func17, Tryd.ntmps17
  go_wp2
  go_loop [0, 5] (fun x' i => ∃ j : Nat, j ≤ k ∧ i = .int .i64 j ∧ x' = .int .u32 (turnN x j : Nat)) (fun _ i => k - (intOf i).toNat)
  case atStart => exact ⟨0, Nat.zero_le _, rfl, rfl⟩
  case round =>
    obtain ⟨j, hj, rfl, rfl⟩ := hrel
    by_cases hlt : j < k
    · have hb := turnN_lt x hx j
      have hs : Hid (turnN x (j + 1) = turnN x j * 2 % 4294967296 + turnN x j / 2147483648) := by rfl
      generalize turnN x j = y at *
      go_wp2
      go_round
      case rel => exact ⟨j + 1, by omega, by go_num, by rw [hs.out]; go_num⟩
      case measure => simp [intOf]; omega
    · obtain rfl : j = k := by omega
      go_wp2
      go_ret
      exact ⟨rfl, rfl⟩
end Go.Proofs.YtdplpcmpjkcocaaDoor
