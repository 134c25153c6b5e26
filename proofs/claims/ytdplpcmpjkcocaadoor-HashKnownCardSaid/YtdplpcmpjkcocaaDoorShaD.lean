/- filled: bytes filled up to whole blocks. -/
import Derived.Test.YtdplpcmpjkcocaaDoorConcH
import Derived.Test.YtdplpcmpjkcocaaDoorShaC
set_option linter.unusedVariables false
set_option linter.unusedSimpArgs false
namespace Go.Proofs.YtdplpcmpjkcocaaDoor
open Go.RowKit

theorem padZ_le (n : Nat) : padZ n ≤ 63 := by unfold padZ; omega
theorem padZ_iff (n j : Nat) (hj : j ≤ padZ n) : (n + 1 + j) % 64 = 56 ↔ j = padZ n := by unfold padZ at *; omega
theorem be8_step (n i : Nat) (hi : i < 8) : (be8 n).take (i + 1) = (be8 n).take i ++ [UInt8.ofNat (n / 2 ^ (56 - 8 * i))] := by
  rcases (by omega : i = 0 ∨ i = 1 ∨ i = 2 ∨ i = 3 ∨ i = 4 ∨ i = 5 ∨ i = 6 ∨ i = 7) with rfl | rfl | rfl | rfl | rfl | rfl | rfl | rfl <;> simp [be8]

set_option maxRecDepth 100000 in
set_option maxHeartbeats 4000000 in
theorem filled_calls (l : List UInt8) (v : Value) (w : World) (hv : BS AllB w v l) (hl : l.length ≤ 1000000) :
    Calls Tryd.prog 15 #[v] w fun e w' => ∃ v', e = .returned v' ∧ Own 5 w' w.heap.size v' (padded l) ∧ Kp NoB w w' := by
  obtain ⟨A, c, rfl⟩ := hv.len
  have HV := Lib.hid hv
  clear hv
  go_enter Tryd.func15, Tryd.ntmps15
  go_wp2_with fail
  refine (clone_calls l _ w HV.out (by omega)).mono ?_
  rintro e w1 ⟨v1, rfl, ho1, hk1⟩
  obtain ⟨A1, c1, rfl⟩ := ho1.bs.len
  have HO1 := Lib.hid ho1
  have HK1 := Lib.hid hk1
  clear ho1 hk1
  go_wp2_with (first
    | ((with_reducible refine gate_dst (N := 9) rfl ?_); go_must (refine wp_appK (w0 := w) byteT NoB rfl _ _ rfl _ _ l [128] rfl rfl (fun _ => True) (HO1.out.nob ((Kp.refl _ _).alloc _)) (HK1.out.alloc _) ((BS.lit _ _ _ _ [128] 1 rfl rfl (by simp)).mono fun _ _ _ => trivial) (by simp; omega) ?_); intro v2 w2 ho2 hk2)
    | fail)
  go_loopw [3] (fun o wr => ∃ j : Nat, j ≤ padZ l.length ∧ Own 5 wr w.heap.size o (l ++ 128 :: List.replicate j 0) ∧ Kp NoB w wr) (fun o _ => l.length + 100 - slen o)
  case atStart => exact ⟨0, Nat.zero_le _, ho2, hk2⟩
  case round =>
    obtain ⟨j, hj, ho, hk⟩ := hrel
    have hlen : (l ++ 128 :: List.replicate j (0 : UInt8)).length = l.length + 1 + j := by simp; omega
    obtain ⟨Ao, co, rfl⟩ := ho.bs.len
    rw [hlen] at ho ⊢
    have hpz := padZ_le l.length
    have hiff := padZ_iff l.length j hj
    have HO := Lib.hid ho
    have HK := Lib.hid hk
    have HLEN := Lib.hid hlen
    by_cases hlt : j = padZ l.length
    · have hm : (((l.length : Int) + 1 + (j : Int)) % 64 != 56) = false := by have := hiff.2 hlt; simp; omega
      have hj63 : j ≤ 63 := by omega
      have hll := hl
      obtain ⟨P, hP⟩ : ∃ P, P = l ++ 128 :: List.replicate j (0 : UInt8) := ⟨_, rfl⟩
      obtain ⟨m, hm2⟩ : ∃ m, m = l.length + 1 + j := ⟨_, rfl⟩
      have hmle : m ≤ 1000064 := by omega
      have hpd : padded l = P ++ be8 (8 * l.length) := by unfold padded; rw [hP, ← hlt]; simp
      have hob : Own 5 wr w.heap.size (.slice Ao (l.length + 1 + j) co) P := by rw [hP]; exact ho
      have hPl : P.length = l.length + 1 + j := by rw [hP]; exact hlen
      have HPD := Lib.hid hpd
      have HOB := Lib.hid hob
      have HPL := Lib.hid hPl
      clear ho hk hlen hiff hlt hpd hob hPl hP hm2 hmle
      go_wp2_with fail
      go_loopw [3, 5] (fun o s wq => ∃ i : Nat, i ≤ 8 ∧ s = .int .i64 (56 - 8 * (i : Int)) ∧ Own 5 wq w.heap.size o (P ++ (be8 (8 * l.length)).take i) ∧ Kp NoB w wq) (fun _ s _ => (intOf s + 8).toNat)
      case atStart => exact ⟨0, Nat.zero_le _, rfl, by simpa using HOB.out, HK.out⟩
      case round =>
        obtain ⟨i, hi, rfl, ho, hk⟩ := hrel
        obtain ⟨Aq, cq, rfl⟩ := ho.bs.len
        have hpi : (P ++ (be8 (8 * l.length)).take i).length ≤ 1000100 := by
          have : ((be8 (8 * l.length)).take i).length ≤ 8 := by simp [be8]; omega
          rw [List.length_append, HPL.out]; omega
        have HOQ := Lib.hid ho
        have HKQ := Lib.hid hk
        clear ho hk
        by_cases hlt : i < 8
        · have hbs := be8_step (8 * l.length) i hlt
          rcases (by omega : i = 0 ∨ i = 1 ∨ i = 2 ∨ i = 3 ∨ i = 4 ∨ i = 5 ∨ i = 6 ∨ i = 7) with rfl | rfl | rfl | rfl | rfl | rfl | rfl | rfl
          · simp only [Nat.reduceMul, Nat.reduceSub, Nat.reducePow, Nat.reduceAdd, Nat.div_one] at hbs
            have HBS := Lib.hid hbs
            clear hbs
            go_wp2_with (first
              | ((with_reducible refine gate_dst (N := 31) rfl ?_); go_must (refine wp_appK (w0 := w) byteT NoB rfl _ _ rfl _ _ _ [UInt8.ofNat (8 * l.length / 72057594037927936)] rfl rfl (fun _ => True) (HOQ.out.nob ((Kp.refl _ _).alloc _)) (HKQ.out.alloc _) ((BS.lit _ _ _ _ [UInt8.ofNat (8 * l.length / 72057594037927936)] 1 (by simp [bvs, bv]; try omega) rfl (by simp)).mono fun _ _ _ => trivial) (by simp only [List.length_singleton]; omega) ?_); intro v3 w3 ho3 hk3; rw [List.append_assoc, ← HBS.out] at ho3)
              | fail)
            go_roundw
            case rel => exact ⟨1, by decide, rfl, ho3, hk3⟩
            case measure => simp [intOf]
          · simp only [Nat.reduceMul, Nat.reduceSub, Nat.reducePow, Nat.reduceAdd, Nat.div_one] at hbs
            have HBS := Lib.hid hbs
            clear hbs
            go_wp2_with (first
              | ((with_reducible refine gate_dst (N := 31) rfl ?_); go_must (refine wp_appK (w0 := w) byteT NoB rfl _ _ rfl _ _ _ [UInt8.ofNat (8 * l.length / 281474976710656)] rfl rfl (fun _ => True) (HOQ.out.nob ((Kp.refl _ _).alloc _)) (HKQ.out.alloc _) ((BS.lit _ _ _ _ [UInt8.ofNat (8 * l.length / 281474976710656)] 1 (by simp [bvs, bv]; try omega) rfl (by simp)).mono fun _ _ _ => trivial) (by simp only [List.length_singleton]; omega) ?_); intro v3 w3 ho3 hk3; rw [List.append_assoc, ← HBS.out] at ho3)
              | fail)
            go_roundw
            case rel => exact ⟨2, by decide, rfl, ho3, hk3⟩
            case measure => simp [intOf]
          · simp only [Nat.reduceMul, Nat.reduceSub, Nat.reducePow, Nat.reduceAdd, Nat.div_one] at hbs
            have HBS := Lib.hid hbs
            clear hbs
            go_wp2_with (first
              | ((with_reducible refine gate_dst (N := 31) rfl ?_); go_must (refine wp_appK (w0 := w) byteT NoB rfl _ _ rfl _ _ _ [UInt8.ofNat (8 * l.length / 1099511627776)] rfl rfl (fun _ => True) (HOQ.out.nob ((Kp.refl _ _).alloc _)) (HKQ.out.alloc _) ((BS.lit _ _ _ _ [UInt8.ofNat (8 * l.length / 1099511627776)] 1 (by simp [bvs, bv]; try omega) rfl (by simp)).mono fun _ _ _ => trivial) (by simp only [List.length_singleton]; omega) ?_); intro v3 w3 ho3 hk3; rw [List.append_assoc, ← HBS.out] at ho3)
              | fail)
            go_roundw
            case rel => exact ⟨3, by decide, rfl, ho3, hk3⟩
            case measure => simp [intOf]
          · simp only [Nat.reduceMul, Nat.reduceSub, Nat.reducePow, Nat.reduceAdd, Nat.div_one] at hbs
            have HBS := Lib.hid hbs
            clear hbs
            go_wp2_with (first
              | ((with_reducible refine gate_dst (N := 31) rfl ?_); go_must (refine wp_appK (w0 := w) byteT NoB rfl _ _ rfl _ _ _ [UInt8.ofNat (8 * l.length / 4294967296)] rfl rfl (fun _ => True) (HOQ.out.nob ((Kp.refl _ _).alloc _)) (HKQ.out.alloc _) ((BS.lit _ _ _ _ [UInt8.ofNat (8 * l.length / 4294967296)] 1 (by simp [bvs, bv]; try omega) rfl (by simp)).mono fun _ _ _ => trivial) (by simp only [List.length_singleton]; omega) ?_); intro v3 w3 ho3 hk3; rw [List.append_assoc, ← HBS.out] at ho3)
              | fail)
            go_roundw
            case rel => exact ⟨4, by decide, rfl, ho3, hk3⟩
            case measure => simp [intOf]
          · simp only [Nat.reduceMul, Nat.reduceSub, Nat.reducePow, Nat.reduceAdd, Nat.div_one] at hbs
            have HBS := Lib.hid hbs
            clear hbs
            go_wp2_with (first
              | ((with_reducible refine gate_dst (N := 31) rfl ?_); go_must (refine wp_appK (w0 := w) byteT NoB rfl _ _ rfl _ _ _ [UInt8.ofNat (8 * l.length / 16777216)] rfl rfl (fun _ => True) (HOQ.out.nob ((Kp.refl _ _).alloc _)) (HKQ.out.alloc _) ((BS.lit _ _ _ _ [UInt8.ofNat (8 * l.length / 16777216)] 1 (by simp [bvs, bv]; try omega) rfl (by simp)).mono fun _ _ _ => trivial) (by simp only [List.length_singleton]; omega) ?_); intro v3 w3 ho3 hk3; rw [List.append_assoc, ← HBS.out] at ho3)
              | fail)
            go_roundw
            case rel => exact ⟨5, by decide, rfl, ho3, hk3⟩
            case measure => simp [intOf]
          · simp only [Nat.reduceMul, Nat.reduceSub, Nat.reducePow, Nat.reduceAdd, Nat.div_one] at hbs
            have HBS := Lib.hid hbs
            clear hbs
            go_wp2_with (first
              | ((with_reducible refine gate_dst (N := 31) rfl ?_); go_must (refine wp_appK (w0 := w) byteT NoB rfl _ _ rfl _ _ _ [UInt8.ofNat (8 * l.length / 65536)] rfl rfl (fun _ => True) (HOQ.out.nob ((Kp.refl _ _).alloc _)) (HKQ.out.alloc _) ((BS.lit _ _ _ _ [UInt8.ofNat (8 * l.length / 65536)] 1 (by simp [bvs, bv]; try omega) rfl (by simp)).mono fun _ _ _ => trivial) (by simp only [List.length_singleton]; omega) ?_); intro v3 w3 ho3 hk3; rw [List.append_assoc, ← HBS.out] at ho3)
              | fail)
            go_roundw
            case rel => exact ⟨6, by decide, rfl, ho3, hk3⟩
            case measure => simp [intOf]
          · simp only [Nat.reduceMul, Nat.reduceSub, Nat.reducePow, Nat.reduceAdd, Nat.div_one] at hbs
            have HBS := Lib.hid hbs
            clear hbs
            go_wp2_with (first
              | ((with_reducible refine gate_dst (N := 31) rfl ?_); go_must (refine wp_appK (w0 := w) byteT NoB rfl _ _ rfl _ _ _ [UInt8.ofNat (8 * l.length / 256)] rfl rfl (fun _ => True) (HOQ.out.nob ((Kp.refl _ _).alloc _)) (HKQ.out.alloc _) ((BS.lit _ _ _ _ [UInt8.ofNat (8 * l.length / 256)] 1 (by simp [bvs, bv]; try omega) rfl (by simp)).mono fun _ _ _ => trivial) (by simp only [List.length_singleton]; omega) ?_); intro v3 w3 ho3 hk3; rw [List.append_assoc, ← HBS.out] at ho3)
              | fail)
            go_roundw
            case rel => exact ⟨7, by decide, rfl, ho3, hk3⟩
            case measure => simp [intOf]
          · simp only [Nat.reduceMul, Nat.reduceSub, Nat.reducePow, Nat.reduceAdd, Nat.div_one] at hbs
            have HBS := Lib.hid hbs
            clear hbs
            go_wp2_with (first
              | ((with_reducible refine gate_dst (N := 31) rfl ?_); go_must (refine wp_appK (w0 := w) byteT NoB rfl _ _ rfl _ _ _ [UInt8.ofNat (8 * l.length )] rfl rfl (fun _ => True) (HOQ.out.nob ((Kp.refl _ _).alloc _)) (HKQ.out.alloc _) ((BS.lit _ _ _ _ [UInt8.ofNat (8 * l.length )] 1 (by simp [bvs, bv]; try omega) rfl (by simp)).mono fun _ _ _ => trivial) (by simp only [List.length_singleton]; omega) ?_); intro v3 w3 ho3 hk3; rw [List.append_assoc, ← HBS.out] at ho3)
              | fail)
            go_roundw
            case rel => exact ⟨8, by decide, rfl, ho3, hk3⟩
            case measure => simp [intOf]
        · obtain rfl : i = 8 := by omega
          have hfin : (be8 (8 * l.length)).take 8 = be8 (8 * l.length) := by simp [be8]
          have HF := Lib.hid hfin
          clear hfin
          go_wp2_with fail
          go_ret
          refine ⟨_, rfl, ?_, HKQ.out⟩
          rw [HPD.out]
          have := HOQ.out
          rwa [HF.out] at this ⊢
    · have hm : (((l.length : Int) + 1 + (j : Int)) % 64 != 56) = true := by simp; exact fun h => hlt (hiff.1 (by omega))
      have hsn : (l ++ 128 :: List.replicate j (0 : UInt8)) ++ [0] = l ++ 128 :: List.replicate (j + 1) 0 := by rw [List.replicate_succ']; simp
      have HSN := Lib.hid hsn
      clear ho hk hlen hiff hsn
      go_wp2_with (first
        | ((with_reducible refine gate_dst (N := 16) rfl ?_); go_must (refine wp_appK (w0 := w) byteT NoB rfl _ _ rfl _ _ (l ++ 128 :: List.replicate j 0) [0] rfl rfl (fun _ => True) (HO.out.nob ((Kp.refl _ _).alloc _)) (HK.out.alloc _) ((BS.lit _ _ _ _ [0] 1 rfl rfl (by simp)).mono fun _ _ _ => trivial) (by simp; omega) ?_); intro v3 w3 ho3 hk3; rw [HSN.out] at ho3)
        | fail)
      have hsv : slen v3 = l.length + 1 + (j + 1) := by
        obtain ⟨A, c, he⟩ := ho3.bs.len
        rw [he]
        show (l ++ 128 :: List.replicate (j + 1) (0 : UInt8)).length = _
        simp; omega
      have HO3 := Lib.hid ho3
      have HSV := Lib.hid hsv
      clear ho3 hsv
      go_roundw
      case rel => exact ⟨j + 1, by omega, HO3.out, hk3⟩
      case measure => rw [HSV.out]; simp [slen]; omega
end Go.Proofs.YtdplpcmpjkcocaaDoor
