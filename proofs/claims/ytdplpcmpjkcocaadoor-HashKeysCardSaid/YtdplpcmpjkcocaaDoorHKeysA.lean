/- The walk of the law HashKeys, for a key of more than 64 bytes: it returns true. -/
import Derived.Test.YtdplpcmpjkcocaaDoorHZeros
import Derived.Deep.RegionHeld3
import Derived.Shelf.RegionOpen
set_option linter.unusedVariables false
set_option linter.unusedSimpArgs false
namespace Go.Proofs.YtdplpcmpjkcocaaDoor
open Go.RowKit

set_option maxRecDepth 100000 in
set_option maxHeartbeats 8000000 in
theorem hashKeys_long (lk lb : List UInt8) (vk vb : Value) (n : Nat) (w : World) (hT : HashOk w) (hn : n < 256) (hk : BS AllB w vk lk) (hb : BS AllB w vb lb) (hlong : 64 < (lk.take 300).length) :
    Calls Tryd.prog 4 #[vk, vb, .int .u8 (n : Int)] w fun e w' => e = .returned (.bool true) ∧ Kp NoB w w' := by
  obtain ⟨kk, vk', hm1, hs1, hk'⟩ := BS.clip byteT hk 300 300 rfl
  obtain ⟨kb, vb', hm2, hs2, hb'⟩ := BS.clip byteT hb 300 300 rfl
  have hkl : (lk.take 300).length ≤ 300 := by simp; omega
  have hbl : (lb.take 300).length ≤ 300 := by simp; omega
  obtain ⟨A1, c1, rfl⟩ := hk.len
  obtain ⟨A2, c2, rfl⟩ := hb.len
  generalize lk.take 300 = key at *
  generalize lb.take 300 = b at *
  clear hk hb
  have HT := Lib.hid hT
  clear hT
  go_enter Tryd.func4, Tryd.ntmps4
  go_wp2
  go_quiet (fail)
  have hk0 := (Kp.refl NoB w).drewN nq
  have hkey := hk'.nob hk0
  have hbb := hb'.nob hk0
  have ht0 := HT.out.nob hk0
  clear hm1 hm2 hs1 hs2 hk' hb'
  generalize w.drewN nq = w0 at *
  obtain ⟨Ak, ck, rfl⟩ := hkey.len
  obtain ⟨Ab, cb, rfl⟩ := hbb.len
  have HK0 := Lib.hid hk0
  have HKEY := Lib.hid hkey
  have HBB := Lib.hid hbb
  have HT0 := Lib.hid ht0
  have hz := zero20
  clear hk0 hkey hbb ht0
  go_wp2_with fail
  refine (hmac_calls key b _ _ w0 HT0.out HKEY.out HBB.out (by omega) (by omega)).mono ?_
  rintro e w1 ⟨rfl, k1⟩
  have hml : (hmacN key b).length = 20 := shaN_length _
  obtain ⟨M, hM⟩ : ∃ M, M = hmacN key b := ⟨_, rfl⟩
  rw [← hM] at hml ⊢
  have HM := Lib.hid hM
  have HML := Lib.hid hml
  clear hM hml
  obtain ⟨w2, a2, k2, hw2⟩ := arr20_made w1 M HML.out
  have HKEY := Lib.hid (HKEY.out.nob (k1.trans k2))
  have HBB := Lib.hid (HBB.out.nob (k1.trans k2))
  have HT0 := Lib.hid (HT0.out.nob (k1.trans k2))
  have HK0 := Lib.hid (HK0.out.trans (k1.trans k2))
  have HW2 := Lib.hid hw2
  have A7 := Lib.hid a2
  have S12 := Lib.hid k2.size
  have L7 := Lib.hid a2.lt.2
  clear hw2 a2 k1 k2
  go_wp2_with (first
    | ((with_reducible refine gate_op (Op.store 23 (.tmp 7) (.tmp 28)) rfl ?_); go_must (refine wpList_store_mid rfl 23 _ _ rfl w1.heap.size 0 (bvs M).toArray rfl rfl (by have := there20 w1; simpa [bvs_length, HML.out] using this) (size20 M HML.out) (all_oneCell_toArray (bvs_one _)) ?_); rw [← HW2.out])
    | ((with_reducible refine gate_dst (N := 30) rfl ?_); go_must (refine wp_appK (w0 := w2) byteT NoB rfl _ _ rfl _ _ [] key rfl rfl AllB (Own.nil _ _ _) (Kp.refl _ _) HKEY.out (by simp; omega) ?_); intro v8 w3 ho3 hk3; rw [List.nil_append] at ho3; obtain ⟨A8, c8, rfl⟩ := ho3.bs.len; have HO3 := Lib.hid ho3; have HK3 := Lib.hid hk3; clear ho3 hk3)
    | fail)
  generalize hg7 : w1.heap.size = g7 at *
  clear HW2 hg7
  refine (sha_calls key _ w3 (HT0.out.nob HK3.out) (HKEY.out.nob HK3.out) (by omega)).mono ?_
  rintro e w4 ⟨rfl, k4⟩
  have hs4 := shaN_length key
  obtain ⟨S0, hS0⟩ : ∃ S0, S0 = shaN key := ⟨_, rfl⟩
  rw [← hS0] at hs4 ⊢
  have HS0 := Lib.hid hS0
  have HS4 := Lib.hid hs4
  clear hS0 hs4
  obtain ⟨w5, a5, k5, hw5⟩ := arr20_made w4 S0 HS4.out
  have HK3 := Lib.hid ((HK3.out.trans k4).trans k5)
  have HW5 := Lib.hid hw5
  have A9 := Lib.hid a5
  clear hw5 a5 k4 k5 HO3
  go_wp2_with (first
    | ((with_reducible refine gate_op (Op.store 23 (.tmp 9) (.tmp 35)) rfl ?_); go_must (refine wpList_store_mid rfl 23 _ _ rfl w4.heap.size 0 (bvs S0).toArray rfl rfl (by have := there20 w4; simpa [bvs_length, HS4.out] using this) (size20 S0 HS4.out) (all_oneCell_toArray (bvs_one _)) ?_); rw [← HW5.out])
    | fail)
  clear HW5
  generalize w4.heap.size = g9 at *
  have HKO : Hid (key64 S0 = key64 key) := Lib.hid (by rw [HS0.out]; exact key64_sha key hlong)
  have C9 : Hid (∀ W, Kp NoB w5 W → Calls Tryd.prog 9 #[.slice (some ⟨g9, 0, none⟩) 20 20, .slice Ab b.length cb] W fun e w' => e = .returned (.agg (bvs M).toArray) ∧ Kp NoB W w') := Lib.hid fun W k => by
    have h := hmac_calls S0 b _ _ W (HT0.out.nob (HK3.out.trans k)) ((A9.out.nob k).bs 20 HS4.out) (HBB.out.nob (HK3.out.trans k)) (by rw [HS4.out]; decide) (by omega)
    rw [hmac_key HKO.out b, ← HM.out] at h
    exact h
  have LD : Hid (∀ W, Kp NoB w5 W → W.rangeAt g7 0 (bvs M)) := Lib.hid fun W k => (A7.out.nob (HK3.out.trans k)).range
  refine wp_region_held_drew (S := (fun w' => Kp NoB w5 w')) (by kernel_rfl) (Kp.refl _ _).drew (fun hHeld => ?_)
  refine wpAnyH_take (i := 0) (v := ?_) rfl (by kernel_rfl) (by kernel_rfl) (by kernel_rfl) (fun _ _ _ h => h) (Or.inl ⟨by rfl, ?_⟩) (by assumption) ?_
  rotate_left
  · intro w hSw
    (try dsimp only at hSw)
    go_simp
    all_goals (with_reducible rfl)
  (try simp only [Act.put, List.setIfInBounds_toArray, List.set_cons_zero, List.set_cons_succ])
  refine wpAnyH_take (i := 1) (v := ?_) rfl (by kernel_rfl) (by kernel_rfl) (by kernel_rfl) (fun _ _ _ h => h) (Or.inl ⟨by rfl, ?_⟩) (by assumption) ?_
  rotate_left
  · intro w hSw
    (try dsimp only at hSw)
    go_simp
    all_goals (with_reducible rfl)
  (try simp only [Act.put, List.setIfInBounds_toArray, List.set_cons_zero, List.set_cons_succ])
  refine wpAnyH_take (i := 3) (v := .agg (bvs M).toArray) rfl (by kernel_rfl) (by kernel_rfl) (by kernel_rfl) (fun _ _ _ h => h) (yieldsIf_load_mid (by rfl) 23 _ rfl g7 0 rfl (bvs M) _ LD.out Tryd.underlying23 rfl (by rw [bvs_length, HML.out]; kernel_rfl)) (by assumption) ?_
  (try simp only [Act.put, List.setIfInBounds_toArray, List.set_cons_zero, List.set_cons_succ])
  refine wpAnyH_ready (rs := [2]) (by kernel_rfl) (by simp) ?_
  refine AllReadyH.cons rfl (fun K hK => ?_) AllReadyH.nil
  (try rw [if_pos (by rfl)])
  go_simp
  refine (C9.out _ hHeld).mono ?_
  rintro e w6 ⟨rfl, k6⟩
  refine hK.out _ _ ?_ (fun hHeld => ?_)
  · exact hHeld.trans k6
  clear hK K
  (try simp only [Act.put, List.setIfInBounds_toArray, List.set_cons_zero, List.set_cons_succ])
  refine wpAnyH_take (i := 4) (v := .bool false) rfl (by kernel_rfl) (by kernel_rfl) (by kernel_rfl) (fun _ _ _ h => h) (yieldsIf_neqsame20 (by rfl) _ _ _ rfl M rfl rfl HML.out) (by assumption) ?_
  (try simp only [Act.put, List.setIfInBounds_toArray, List.set_cons_zero, List.set_cons_succ])
  refine wpAnyH_done (by kernel_rfl) ?_ _
  go_simp
  have HELD := Lib.hid hHeld
  clear LD C9 hHeld
  have H2S := Lib.hid (HK3.out.trans HELD.out)
  have HOWN := Lib.hid ((A9.out.bs 20 HS4.out).nob HELD.out)
  have HOL : Hid ((S0).length ≤ 64) := Lib.hid (by rw [HS4.out]; decide)
  have HOK : Hid (key64 (S0) = key64 key) := Lib.hid (HKO.out)
  have hmk : ∀ W, (Instr.makeSlice 22 (.int .i64 64) (.int .i64 64)).run Tryd.prog W = .ok (.slice (some ⟨W.heap.size, 0, none⟩) 64 64) (W.alloc (.cells (madeCells #[.int .u8 0] 64) 5)) := fun W => make_bytes byteT 64 (by omega) W
  have a10 : Arr 5 (w6.alloc (.cells (madeCells #[.int .u8 0] 64) 5)) w6.heap.size w6.heap.size (bvs (List.replicate 64 0)) := by
    have h := Own.made 5 w6 64 (by omega)
    unfold Arr
    rw [bvs_length]
    exact h
  have A10 := Lib.hid a10
  clear a10
  go_wp2_with (first
    | ((with_reducible refine gate_dst (N := 57) rfl ?_); go_must (refine wp_copyArr byteT rfl _ _ rfl 5 w6.heap.size 64 _ (List.replicate 64 0) (S0) rfl rfl AllB A10.out (HOWN.out.nob ((Kp.refl _ _).alloc _)) (by rw [List.length_replicate]) HOL.out (by decide) ?_); intro w10 a11 k11; have A11 := Lib.hid a11; have K11 := Lib.hid k11; clear a11 k11)
    | fail)
  clear hmk
  have a11 := A11.out
  rw [key64_copy (S0) HOL.out, HOK.out] at a11
  have hl64 := key64_length key
  have hmac : M = shaN ((key64 key).map (· ^^^ 0x5c) ++ shaN ((key64 key).map (· ^^^ 0x36) ++ b)) := HM.out
  have k210 : Kp NoB w2 w10 := (H2S.out.alloc _).step K11.out fun i hi hf => by have h1 : i = w6.heap.size := hf; have h2 := H2S.out.size; omega
  generalize key64 key = KK at *
  generalize hg10 : w6.heap.size = g10 at *
  have HMC := Lib.hid hmac
  have HKL := Lib.hid hl64
  have K210 := Lib.hid k210
  have A11' := Lib.hid a11
  have S210 := Lib.hid k210.size
  clear hg10 hl64 hmac k210 a11 A11 A10 K11 HOWN HOL HOK H2S HM hlong
  clear hz
  go_loopw [11, 12, 60] (fun vi vo i wr => ∃ k : Nat, k ≤ 64 ∧ i = .int .i64 (k : Int) ∧ Own 5 wr w10.heap.size vi ((KK.take k).map (· ^^^ 0x36)) ∧ Own 5 wr w10.heap.size vo ((KK.take k).map (· ^^^ 0x5c)) ∧ (∀ q, vi.ownBlock = some q → ¬ vo.ownBlock = some q) ∧ Kp NoB w10 wr) (fun _ _ i _ => 64 - (intOf i).toNat)
  case atStart => exact ⟨0, Nat.zero_le _, rfl, Own.nil _ _ _, Own.nil _ _ _, (fun q h => by cases h), Kp.refl _ _⟩
  case round =>
    obtain ⟨k, hk, rfl, h6, h7, hd, hq⟩ := hrel
    by_cases hlt : k < 64
    · have hkk : k < KK.length := by rw [HKL.out]; exact hlt
      have c6 := (A11'.out.nob hq).at_ k (by rw [bvs_length]; exact hkk)
      have m6 := map_snoc (· ^^^ 0x36) KK k hkk
      have m7 := map_snoc (· ^^^ 0x5c) KK k hkk
      have v6 : (bvs KK)[k]'(by rw [bvs_length]; exact hkk) = bv KK[k] := by simp [bvs]
      rw [v6] at c6
      replace c6 : wr.cell? ⟨g10, k, none⟩ = some (.int .u8 (KK[k].toNat : Int)) := c6
      have hx := KK[k].toNat_lt
      have q6 : ((KK.take k).map (· ^^^ (0x36 : UInt8))).length ≤ 64 := by simp; omega
      have q7 : ((KK.take k).map (· ^^^ (0x5c : UInt8))).length ≤ 64 := by simp; omega
      generalize hIN : (KK.take (k + 1)).map (· ^^^ (0x36 : UInt8)) = IN at *
      have HIN := Lib.hid hIN
      generalize hON : (KK.take (k + 1)).map (· ^^^ (0x5c : UInt8)) = ON at *
      have HON := Lib.hid hON
      clear hIN hON
      generalize (KK.take k).map (· ^^^ (0x36 : UInt8)) = I0 at *
      generalize (KK.take k).map (· ^^^ (0x5c : UInt8)) = O0 at *
      clear v6
      generalize KK[k] = x at *
      have x6 := u8_xor_nat x.toNat 54 hx (by decide)
      have x7 := u8_xor_nat x.toNat 92 hx (by decide)
      change bits .xor .u8 (x.toNat : Int) 54 = _ at x6
      change bits .xor .u8 (x.toNat : Int) 92 = _ at x7
      obtain ⟨Ai, ci, rfl⟩ := h6.bs.len
      obtain ⟨Ao, co, rfl⟩ := h7.bs.len
      have H6 := Lib.hid h6
      have H7 := Lib.hid h7
      have HD := Lib.hid hd
      have HQ := Lib.hid hq
      have M6 := Lib.hid m6
      have M7 := Lib.hid m7
      have Q6 := Lib.hid q6
      have Q7 := Lib.hid q7
      clear h6 h7 hd hq m6 m7 q6 q7 hkk
      go_wp2_with (first
        | ((with_reducible refine gate_dst (N := 68) rfl ?_); go_must (refine wp_appD (w0 := w10) byteT rfl _ _ rfl _ _ I0 [x ^^^ 0x36] rfl rfl AllB _ O0 (H7.out.nob ((Kp.refl _ _).alloc _)) HD.out (H6.out.nob ((Kp.refl _ _).alloc _)) (HQ.out.alloc _) ((BS.lit _ _ _ _ [x ^^^ 0x36] 1 (by simp [bvs, bv]) rfl (by simp)).all) (by have := Q6.out; simp; omega) ?_); intro vi2 w11 hi2 ho2 hd2 hq2; rw [M6.out] at hi2; have HI2 := Lib.hid hi2; have HO2 := Lib.hid ho2; have HD2 := Lib.hid hd2; have HQ2 := Lib.hid hq2; clear hi2 ho2 hd2 hq2)
        | ((with_reducible refine gate_dst (N := 73) rfl ?_); go_must (refine wp_appD (w0 := w10) byteT rfl _ _ rfl _ _ O0 [x ^^^ 0x5c] rfl rfl AllB _ IN (HI2.out.nob ((Kp.refl _ _).alloc _)) (fun q h1 h2 => HD2.out q h2 h1) (HO2.out.nob ((Kp.refl _ _).alloc _)) (HQ2.out.alloc _) ((BS.lit _ _ _ _ [x ^^^ 0x5c] 1 (by simp [bvs, bv]) rfl (by simp)).all) (by have := Q7.out; simp; omega) ?_); intro vo3 w12 ho3 hi3 hd3 hq3; rw [M7.out] at ho3; have HO3 := Lib.hid ho3; have HI3 := Lib.hid hi3; have HD3 := Lib.hid hd3; have HQ3 := Lib.hid hq3; clear ho3 hi3 hd3 hq3)
        | fail)
      go_roundw
      case measure => simp [intOf]; omega
      case rel => exact ⟨k + 1, by omega, by go_num, by rw [HIN.out]; exact HI3.out, by rw [HON.out]; exact HO3.out, (fun q h1 h2 => HD3.out q h2 h1), HQ3.out⟩
    · obtain rfl : k = 64 := by omega
      rw [List.take_of_length_le (by rw [HKL.out]; exact Nat.le_refl _)] at h6 h7
      have li : (KK.map (· ^^^ (0x36 : UInt8))).length = 64 := by rw [List.length_map, HKL.out]
      have lo : (KK.map (· ^^^ (0x5c : UInt8))).length = 64 := by rw [List.length_map, HKL.out]
      have hmac := HMC.out
      generalize KK.map (· ^^^ (0x36 : UInt8)) = IL at *
      generalize KK.map (· ^^^ (0x5c : UInt8)) = OL at *
      have k2r := K210.out.trans hq
      obtain ⟨Ai, ci, rfl⟩ := h6.bs.len
      obtain ⟨Ao, co, rfl⟩ := h7.bs.len
      have H6 := Lib.hid h6
      have H7 := Lib.hid h7
      have HD := Lib.hid hd
      have HQ := Lib.hid hq
      have K2R := Lib.hid k2r
      have HMC := Lib.hid hmac
      have LI := Lib.hid li
      have LO := Lib.hid lo
      have hz := zero20
      clear h6 h7 hd hq k2r hmac li lo A11' HKL hlt hk
      go_wp2_with (first
        | ((with_reducible refine gate_dst (N := 77) rfl ?_); go_must (refine wp_appD (w0 := w10) byteT rfl _ _ rfl _ _ IL b rfl rfl AllB _ OL H7.out HD.out H6.out HQ.out (HBB.out.nob K2R.out) (by rw [LI.out]; omega) ?_); intro vi2 w11 hi2 ho2 hd2 hq2; have HI2 := Lib.hid hi2; have HO2 := Lib.hid ho2; have HQ2 := Lib.hid hq2; clear hi2 ho2 hd2 hq2)
        | fail)
      have k211 := K210.out.trans HQ2.out
      refine (sha_calls (IL ++ b) _ w11 (HT0.out.nob k211) HI2.out.bs.all (by rw [List.length_append, LI.out]; omega)).mono ?_
      rintro e w13 ⟨rfl, k13⟩
      have hs13 := shaN_length (IL ++ b)
      generalize hS1 : shaN (IL ++ b) = S1 at *
      have HS13 := Lib.hid hs13
      obtain ⟨w14, a14, k14, hw14⟩ := arr20_made w13 S1 HS13.out
      have K2E := Lib.hid ((k211.trans k13).trans k14)
      have HO4 := Lib.hid (HO2.out.nob (k13.trans k14))
      have A14 := Lib.hid a14
      have K214 := Lib.hid (Nat.le_trans HQ2.out.size (k13.trans k14).size)
      have HW14 := Lib.hid hw14
      clear hS1 hs13 a14 hw14 k13 k14 k211 HI2 HO2 HQ2 H6 H7 HD HQ K2R
      go_wp2_with (first
        | ((with_reducible refine gate_op (Op.store 23 (.tmp 15) (.tmp 78)) rfl ?_); go_must (refine wpList_store_mid rfl 23 _ _ rfl w13.heap.size 0 (bvs S1).toArray rfl rfl (by have := there20 w13; simpa [bvs_length, HS13.out] using this) (size20 S1 HS13.out) (all_oneCell_toArray (bvs_one _)) ?_); rw [← HW14.out])
        | fail)
      clear HW14 hz
      generalize w13.heap.size = g15 at *
      have hsz := S210.out
      have hS2 : ∀ W, Kp (fun q => (Value.slice Ao OL.length co).ownBlock = some q) w14 W → Kp NoB w2 W := fun W k => K2E.out.step k fun q hq h => by have := (HO4.out.lt q h).1; have := S210.out; omega
      have LD : Hid (∀ W, Kp (fun q => (Value.slice Ao OL.length co).ownBlock = some q) w14 W → W.rangeAt g7 0 (bvs M)) := Lib.hid fun W k => (A7.out.nob (hS2 W k)).range
      have HS2 := Lib.hid hS2
      clear hS2 hsz
      refine wp_region_held_drew (S := (fun w' => Kp (fun q => (Value.slice Ao OL.length co).ownBlock = some q) w14 w')) (by kernel_rfl) (Kp.refl _ _).drew (fun hHeld => ?_)
      refine wpAnyH_take (i := 0) (v := ?_) rfl (by kernel_rfl) (by kernel_rfl) (by kernel_rfl) (fun _ _ _ h => h) (Or.inl ⟨by rfl, ?_⟩) (by assumption) ?_
      rotate_left
      · intro w hSw
        (try dsimp only at hSw)
        go_simp
        all_goals (with_reducible rfl)
      (try simp only [Act.put, List.setIfInBounds_toArray, List.set_cons_zero, List.set_cons_succ])
      refine wpAnyH_take (i := 1) (v := ?_) rfl (by kernel_rfl) (by kernel_rfl) (by kernel_rfl) (fun _ _ _ h => h) (Or.inl ⟨by rfl, ?_⟩) (by assumption) ?_
      rotate_left
      · intro w hSw
        (try dsimp only at hSw)
        go_simp
        all_goals (with_reducible rfl)
      (try simp only [Act.put, List.setIfInBounds_toArray, List.set_cons_zero, List.set_cons_succ])
      refine wpAnyH_take (i := 4) (v := .agg (bvs M).toArray) rfl (by kernel_rfl) (by kernel_rfl) (by kernel_rfl) (fun _ _ _ h => h) (yieldsIf_load_mid (by rfl) 23 _ rfl g7 0 rfl (bvs M) _ LD.out Tryd.underlying23 rfl (by rw [bvs_length, HML.out]; kernel_rfl)) (by assumption) ?_
      (try simp only [Act.put, List.setIfInBounds_toArray, List.set_cons_zero, List.set_cons_succ])
      refine wpAnyH_ready (rs := [2]) (by kernel_rfl) (by simp) ?_
      refine AllReadyH.cons rfl (fun K hK => ?_) AllReadyH.nil
      (try rw [if_pos (by rfl)])
      refine owp_app byteT _ _ rfl w10.heap.size _ _ OL S1 rfl rfl AllB (HO4.out.nob ((Kp.refl NoB w14).drew)) ((A14.out.bs 20 HS13.out).nob ((Kp.refl NoB w14).drew)) (by rw [LO.out, HS13.out]; omega) K214.out ?_
      intro v15 w15 ho15 hg15 _
      refine hK.out _ _ ?_ (fun hHeld => ?_)
      · exact (Kp.refl _ w14).drew.trans (Kp.of_grown hg15)
      clear hK K
      (try simp only [Act.put, List.setIfInBounds_toArray, List.set_cons_zero, List.set_cons_succ])
      refine wpAnyH_ready (rs := [3]) (by kernel_rfl) (by simp) ?_
      refine AllReadyH.cons rfl (fun K hK => ?_) AllReadyH.nil
      (try rw [if_pos (by rfl)])
      go_simp
      refine (sha_calls (OL ++ S1) _ w15 (HT0.out.nob (HS2.out _ hHeld)) ho15.bs.all (by rw [List.length_append, LO.out, HS13.out]; omega)).mono ?_
      rintro e w16 ⟨rfl, k16⟩
      rw [← HMC.out]
      refine hK.out _ _ ?_ (fun hHeld => ?_)
      · exact hHeld.trans k16.weak
      clear hK K
      (try simp only [Act.put, List.setIfInBounds_toArray, List.set_cons_zero, List.set_cons_succ])
      refine wpAnyH_take (i := 5) (v := .bool true) rfl (by kernel_rfl) (by kernel_rfl) (by kernel_rfl) (fun _ _ _ h => h) (yieldsIf_same20 (by rfl) _ _ _ rfl M rfl rfl HML.out) (by assumption) ?_
      (try simp only [Act.put, List.setIfInBounds_toArray, List.set_cons_zero, List.set_cons_succ])
      refine wpAnyH_take (i := 6) (v := ?_) rfl (by kernel_rfl) (by kernel_rfl) (by kernel_rfl) (fun _ _ _ h => h) (Or.inl ⟨by rfl, ?_⟩) (by assumption) ?_
      rotate_left
      · intro w hSw
        (try dsimp only at hSw)
        go_simp
        all_goals (with_reducible rfl)
      (try simp only [Act.put, List.setIfInBounds_toArray, List.set_cons_zero, List.set_cons_succ])
      refine wpAnyH_ready (rs := [7]) (by kernel_rfl) (by simp) ?_
      refine AllReadyH.cons rfl (fun K hK => ?_) AllReadyH.nil
      (try rw [if_pos (by rfl)])
      go_simp
      refine (tells_calls w16 (HT0.out.nob (HS2.out _ hHeld))).mono ?_
      rintro e w17 ⟨rfl, k17⟩
      refine hK.out _ _ ?_ (fun hHeld => ?_)
      · exact hHeld.trans k17.weak
      clear hK K
      (try simp only [Act.put, List.setIfInBounds_toArray, List.set_cons_zero, List.set_cons_succ])
      refine wpAnyH_take (i := 8) (v := ?_) rfl (by kernel_rfl) (by kernel_rfl) (by kernel_rfl) (fun _ _ _ h => h) (Or.inl ⟨by rfl, ?_⟩) (by assumption) ?_
      rotate_left
      · intro w hSw
        (try dsimp only at hSw)
        go_simp
        all_goals (with_reducible rfl)
      (try simp only [Act.put, List.setIfInBounds_toArray, List.set_cons_zero, List.set_cons_succ])
      refine wpAnyH_take (i := 9) (v := ?_) rfl (by kernel_rfl) (by kernel_rfl) (by kernel_rfl) (fun _ _ _ h => h) (Or.inl ⟨by rfl, ?_⟩) (by assumption) ?_
      rotate_left
      · intro w hSw
        (try dsimp only at hSw)
        go_simp
        all_goals (with_reducible rfl)
      (try simp only [Act.put, List.setIfInBounds_toArray, List.set_cons_zero, List.set_cons_succ])
      refine wpAnyH_done (by kernel_rfl) ?_ _
      go_simp
      go_wp2
      go_ret
      exact ⟨rfl, HK0.out.trans (HS2.out _ hHeld)⟩
end Go.Proofs.YtdplpcmpjkcocaaDoor
