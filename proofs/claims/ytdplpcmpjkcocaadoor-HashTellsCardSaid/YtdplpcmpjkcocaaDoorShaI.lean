/- Hmac of the reference. -/
import Derived.Test.YtdplpcmpjkcocaaDoorShaG
import Derived.Test.YtdplpcmpjkcocaaDoorShaH
set_option linter.unusedVariables false
set_option linter.unusedSimpArgs false
namespace Go.Proofs.YtdplpcmpjkcocaaDoor
open Go.RowKit

set_option maxRecDepth 100000 in
set_option maxHeartbeats 8000000 in
theorem rhmac_calls (key b : List UInt8) (vk vb : Value) (w : World) (hk : BS AllB w vk key) (hb : BS AllB w vb b) (lk : key.length ≤ 10000) (lb : b.length ≤ 10000) :
    Calls Tryd.prog 10 #[vk, vb] w fun e w' => e = .returned (.agg (bvs (hmacN key b)).toArray) ∧ Kp NoB w w' := by
  obtain ⟨Ak, ck, rfl⟩ := hk.len
  obtain ⟨Ab, cb, rfl⟩ := hb.len
  have k0 : Kp NoB w (w.alloc (.cells (bvs z20).toArray 23)) := (Kp.refl _ _).alloc _
  have hz := zero20
  have a4 := Arr.made 23 w (bvs z20) (by rw [bvs_length]; decide)
  have HKEY := Lib.hid (hk.nob k0)
  have HB := Lib.hid (hb.nob k0)
  have A4 := Lib.hid a4
  have K0 := Lib.hid k0
  clear hk hb k0 a4
  obtain ⟨w0, hw0⟩ : ∃ w0, w0 = w.alloc (.cells (bvs z20).toArray 23) := ⟨_, rfl⟩
  rw [← hw0] at HKEY HB A4 K0
  have HW0 := Lib.hid hw0
  clear hw0
  go_enter Tryd.func10, Tryd.ntmps10
  by_cases hlong : 64 < key.length
  · go_wp2_with fail
    rw [← HW0.out]
    refine (rsha_calls key _ w0 HKEY.out (by omega)).mono ?_
    rintro e w1 ⟨rfl, k1⟩
    have hkey : key64 key = shaN key ++ List.replicate (64 - (shaN key).length) 0 := by unfold key64; simp only [if_pos hlong]
    have hkl : (shaN key).length ≤ 64 := by rw [shaN_length]; decide
    have hsl := shaN_length key
    generalize shaN key = KB at *
    have HSL := Lib.hid hsl
    have HKEY2 := Lib.hid hkey
    have K1 := Lib.hid k1
    clear hkey k1 hsl
    go_wp2_with (first
      | ((with_reducible refine gate_op (Op.store 23 (.tmp 6) (.tmp 15)) rfl ?_); go_must (refine wpList_store_mid rfl 23 _ _ rfl w1.heap.size 0 (bvs KB).toArray rfl rfl (by have := there20 w1; simpa [bvs_length, HSL.out] using this) (size20 KB HSL.out) (all_oneCell_toArray (bvs_one _)) ?_); obtain ⟨w2, a2, k2, hw2⟩ := arr20_made w1 KB HSL.out; rw [← hw2]; clear hw2; have A2 := Lib.hid a2; have K2 := Lib.hid k2; clear a2 k2)
      | ((with_reducible refine gate_dst (N := 18) rfl ?_); go_must (refine wp_appK (w0 := w0) byteT NoB rfl _ _ rfl _ _ [] KB rfl rfl AllB (Own.nil _ _ _) (K1.out.trans K2.out) (A2.out.bs 20 HSL.out) (by simp; omega) ?_); intro v3 w3 ho3 hk3; rw [List.nil_append] at ho3; obtain ⟨A3, c3, rfl⟩ := ho3.bs.len; have HO3 := Lib.hid ho3; have HK3 := Lib.hid hk3; clear ho3 hk3)
      | fail)
    clear hz
    go_loopw [5] (fun o wr => ∃ j : Nat, j ≤ 64 - KB.length ∧ Own 5 wr w0.heap.size o (KB ++ List.replicate j 0) ∧ Kp NoB w0 wr) (fun o _ => 64 - slen o)
    case atStart => exact ⟨0, Nat.zero_le _, by simpa using HO3.out, HK3.out⟩
    case round =>
      obtain ⟨j, hj, ho, hk⟩ := hrel
      have hlen : (KB ++ List.replicate j (0 : UInt8)).length = KB.length + j := by simp
      obtain ⟨Ao, co, rfl⟩ := ho.bs.len
      rw [hlen] at ho ⊢
      by_cases hlt : KB.length + j < 64
      · have HO := Lib.hid ho
        have HK := Lib.hid hk
        have hsn : (KB ++ List.replicate j (0 : UInt8)) ++ [0] = KB ++ List.replicate (j + 1) 0 := by rw [List.replicate_succ']; simp
        have HSN := Lib.hid hsn
        have HLEN := Lib.hid hlen
        clear ho hk hsn hlen
        go_wp2_with (first
          | ((with_reducible refine gate_dst (N := 27) rfl ?_); go_must (refine wp_appK (w0 := w0) byteT NoB rfl _ _ rfl _ _ (KB ++ List.replicate j 0) [0] rfl rfl (fun _ => True) (HO.out.nob ((Kp.refl _ _).alloc _)) (HK.out.alloc _) ((BS.lit _ _ _ _ [0] 1 rfl rfl (by simp)).mono fun _ _ _ => trivial) (by rw [HLEN.out]; simp; omega) ?_); intro v5 w5 ho5 hk5; rw [HSN.out] at ho5)
          | fail)
        have hsv : slen v5 = KB.length + (j + 1) := by
          obtain ⟨A, c, he⟩ := ho5.bs.len
          rw [he]
          show (KB ++ List.replicate (j + 1) (0 : UInt8)).length = _
          simp
        have HO5 := Lib.hid ho5
        have HSV := Lib.hid hsv
        clear ho5 hsv
        go_roundw
        case rel => exact ⟨j + 1, by omega, HO5.out, hk5⟩
        case measure => rw [HSV.out]; simp [slen]; omega
      · have he : KB.length + j = 64 := by omega
        have hkk : KB ++ List.replicate j (0 : UInt8) = key64 key := by rw [HKEY2.out, show 64 - KB.length = j by omega]
        have hl64 := key64_length key
        have hmac : hmacN key b = shaN ((key64 key).map (· ^^^ 0x5c) ++ shaN ((key64 key).map (· ^^^ 0x36) ++ b)) := rfl
        rw [he] at ho ⊢
        rw [hkk] at ho
        generalize key64 key = KK at *
        obtain ⟨g, rfl, hg1, hg2⟩ := ho.form (by omega)
        have HHM := Lib.hid hmac
        have HKL := Lib.hid hl64
        have HO := Lib.hid ho
        have HK := Lib.hid hk
        clear ho hk hlen hkk hl64 hmac he hlt hj HO3 HK3 HKEY2
        go_wp2_with fail
        go_loopw [7, 8, 9] (fun vi vo n w6 => ∃ m : Nat, m ≤ 64 ∧ n = .int .i64 (m : Int) ∧ Own 5 w6 wr.heap.size vi ((KK.take m).map (· ^^^ 0x36)) ∧ Own 5 w6 wr.heap.size vo ((KK.take m).map (· ^^^ 0x5c)) ∧ (∀ k, vi.ownBlock = some k → ¬ vo.ownBlock = some k) ∧ Kp NoB wr w6) (fun _ _ n _ => 64 - (intOf n).toNat)
        case atStart => exact ⟨0, Nat.zero_le _, rfl, Own.nil _ _ _, Own.nil _ _ _, fun k h => (by cases h), Kp.refl _ _⟩
        case round =>
          rename World => w6
          obtain ⟨m, hm, rfl, hi, ho, hne, hk⟩ := hrel
          obtain ⟨Ai, ci, rfl⟩ := hi.bs.len
          obtain ⟨Aq, cq, rfl⟩ := ho.bs.len
          have hli : ((KK.take m).map (· ^^^ (0x36 : UInt8))).length = m := by have := HKL.out; simp; omega
          have hlo : ((KK.take m).map (· ^^^ (0x5c : UInt8))).length = m := by have := HKL.out; simp; omega
          rw [hli] at hi ⊢
          rw [hlo] at ho ⊢
          rw [hli, hlo] at hne
          have HLI := Lib.hid hli
          have HLO := Lib.hid hlo
          clear hli hlo
          by_cases hlt : m < 64
          · have hmk : m < KK.length := by have := HKL.out; omega
            have c6 := ((HO.out.nob hk).cell m hmk).1
            have si := map_snoc (· ^^^ 0x36) KK m hmk
            have so := map_snoc (· ^^^ 0x5c) KK m hmk
            have e36 := xor_u8 KK[m] 0x36
            have e5c := xor_u8 KK[m] 0x5c
            change bits .xor .u8 (KK[m].toNat : Int) 54 = _ at e36
            change bits .xor .u8 (KK[m].toNat : Int) 92 = _ at e5c
            have hcn : ∀ W, Kp NoB wr W → W.cell? ⟨g, m, none⟩ = some (.int .u8 (KK[m].toNat : Int)) := fun W k => ((HO.out.nob k).cell m hmk).1
            have HCN := Lib.hid hcn
            generalize KK[m] = x at *
            replace c6 : w6.cell? ⟨g, m, none⟩ = some (.int .u8 (x.toNat : Int)) := c6
            have SI := Lib.hid si
            have SO := Lib.hid so
            have HI := Lib.hid hi
            have HOO := Lib.hid ho
            have HNE := Lib.hid hne
            have HKW := Lib.hid hk
            clear si so hi ho hne hk hcn hmk
            go_wp2_with (first
              | ((with_reducible refine gate_dst (N := 39) rfl ?_); go_must (refine wp_appD byteT (w0 := wr) rfl _ _ rfl _ _ ((KK.take m).map (· ^^^ 0x36)) [x ^^^ 0x36] rfl rfl (fun _ => True) _ _ (HOO.out.nob ((Kp.refl _ _).alloc _)) HNE.out (HI.out.nob ((Kp.refl _ _).alloc _)) (HKW.out.alloc _) ((BS.lit _ _ _ _ [x ^^^ 0x36] 1 (by simp [bvs, bv]) rfl (by simp)).mono fun _ _ _ => trivial) (by rw [HLI.out]; simp; omega) ?_); intro v7 w7 hi7 ho7 hn7 hk7; rw [SI.out] at hi7; have HI7 := Lib.hid hi7; have HO7 := Lib.hid ho7; have HN7 := Lib.hid hn7; have HK7 := Lib.hid hk7; clear hi7 ho7 hn7 hk7; have c7 := HCN.out _ HK7.out)
              | ((with_reducible refine gate_dst (N := 47) rfl ?_); go_must (refine wp_appD byteT (w0 := wr) rfl _ _ rfl _ _ ((KK.take m).map (· ^^^ 0x5c)) [x ^^^ 0x5c] rfl rfl (fun _ => True) _ _ (HI7.out.nob ((Kp.refl _ _).alloc _)) (fun k h1 h2 => HN7.out k h2 h1) (HO7.out.nob ((Kp.refl _ _).alloc _)) (HK7.out.alloc _) ((BS.lit _ _ _ _ [x ^^^ 0x5c] 1 (by simp [bvs, bv]) rfl (by simp)).mono fun _ _ _ => trivial) (by rw [HLO.out]; simp; omega) ?_); intro v8 w8 ho8 hi8 hn8 hk8; rw [SO.out] at ho8; have HO8 := Lib.hid ho8; have HI8 := Lib.hid hi8; have HN8 := Lib.hid hn8; have HK8 := Lib.hid hk8; clear hi8 ho8 hn8 hk8)
              | fail)
            clear c6 c7 e36 e5c
            go_roundw
            case measure => simp [intOf]; omega
            case rel => exact ⟨m + 1, by omega, by go_num, HI8.out, HO8.out, fun k h1 h2 => HN8.out k h2 h1, HK8.out⟩
          · obtain rfl : m = 64 := by omega
            have ht : KK.take 64 = KK := List.take_of_length_le (by rw [HKL.out]; exact Nat.le_refl _)
            rw [ht] at hi ho
            have hb6 := (HB.out.nob HK.out).nob hk
            have a46 := (A4.out.nob HK.out).nob hk
            have li : (KK.map (· ^^^ (0x36 : UInt8))).length = 64 := by rw [List.length_map, HKL.out]
            have lo : (KK.map (· ^^^ (0x5c : UInt8))).length = 64 := by rw [List.length_map, HKL.out]
            have hmac := HHM.out
            generalize KK.map (· ^^^ (0x36 : UInt8)) = IL at *
            generalize KK.map (· ^^^ (0x5c : UInt8)) = OL at *
            have hz := zero20
            have HI := Lib.hid hi
            have HOO := Lib.hid ho
            have HNE := Lib.hid hne
            have HKW := Lib.hid hk
            have HB6 := Lib.hid hb6
            have A46 := Lib.hid a46
            have LI := Lib.hid li
            have LO := Lib.hid lo
            have HMC := Lib.hid hmac
            clear hi ho hne hk hb6 a46 li lo hmac ht HHM HLI HLO
            go_wp2_with (first
              | ((with_reducible refine gate_dst (N := 50) rfl ?_); go_must (refine wp_appD byteT (w0 := wr) rfl _ _ rfl _ _ IL b rfl rfl AllB _ _ HOO.out HNE.out HI.out HKW.out HB6.out (by rw [LI.out]; omega) ?_); intro v7 w7 hi7 ho7 hn7 hk7; have HI7 := Lib.hid hi7; have HO7 := Lib.hid ho7; have HK7 := Lib.hid hk7; clear hi7 ho7 hn7 hk7)
              | fail)
            refine (rsha_calls (IL ++ b) _ w7 (HI7.out.bs.mono fun _ _ _ => trivial) (by rw [List.length_append, LI.out]; omega)).mono ?_
            rintro e w8 ⟨rfl, k8⟩
            have HO8 := Lib.hid (HO7.out.nob k8)
            have K8 := Lib.hid (HK7.out.trans k8)
            have hs8 := shaN_length (IL ++ b)
            generalize hS1 : shaN (IL ++ b) = S1 at *
            have HS8 := Lib.hid hs8
            have HS1 := Lib.hid hS1
            clear k8 hs8 hS1
            go_wp2_with (first
              | ((with_reducible refine gate_op (Op.store 23 (.tmp 10) (.tmp 51)) rfl ?_); go_must (refine wpList_store_mid rfl 23 _ _ rfl w8.heap.size 0 (bvs S1).toArray rfl rfl (by have := there20 w8; simpa [bvs_length, HS8.out] using this) (size20 S1 HS8.out) (all_oneCell_toArray (bvs_one _)) ?_); obtain ⟨w9, a9, k9, hw9⟩ := arr20_made w8 S1 HS8.out; rw [← hw9]; clear hw9; have A9 := Lib.hid a9; have K9 := Lib.hid k9; clear a9 k9)
              | ((with_reducible refine gate_dst (N := 54) rfl ?_); go_must (refine wp_appK byteT (w0 := wr) NoB rfl _ _ rfl _ _ OL S1 rfl rfl AllB (HO8.out.nob K9.out) (K8.out.trans K9.out) (A9.out.bs 20 HS8.out) (by rw [LO.out, HS8.out]; omega) ?_); intro v10 w10 ho10 hk10; have HO10 := Lib.hid ho10; have HK10 := Lib.hid hk10; clear ho10 hk10)
              | fail)
            refine (rsha_calls (OL ++ S1) _ w10 (HO10.out.bs.mono fun _ _ _ => trivial) (by rw [List.length_append, LO.out, HS8.out]; omega)).mono ?_
            rintro e w11 ⟨rfl, k11⟩
            have hs11 := shaN_length (OL ++ S1)
            have a11 := ((A4.out.nob HK.out).nob HK10.out).nob k11
            have k011 := ((K0.out.trans HK.out).trans HK10.out).trans k11
            generalize shaN (OL ++ S1) = S2 at *
            have ht2 := a11.there
            rw [bvs_length, show z20.length = 20 from rfl] at ht2
            have A11 := Lib.hid a11
            have K011 := Lib.hid k011
            have HS11 := Lib.hid hs11
            clear a11 k011 hs11 k11
            go_wp2_with (first
              | ((with_reducible refine gate_op (Op.store 23 (.tmp 4) (.tmp 55)) rfl ?_); go_must (refine wpList_store_mid rfl 23 _ _ rfl w.heap.size 0 (bvs S2).toArray rfl rfl (by simpa [bvs_length, HS11.out] using ht2) (size20 S2 HS11.out) (all_oneCell_toArray (bvs_one _)) ?_))
              | fail)
            have hw := A11.out.setWhole (bvs S2) (by rw [bvs_length, bvs_length, HS11.out]; rfl)
            exact bodyPost_ret (results_cell_row rfl _ _ w.heap.size 23 (bvs S2).toArray (0, 0) _ rfl hw.heap Tryd.underlying23 rfl (size20 S2 HS11.out)) rfl ⟨by rw [HMC.out], Kp.setCells _ (.inl (Nat.le_refl _)) _ _ _ K011.out⟩
  · have hkey : key64 key = key ++ List.replicate (64 - key.length) 0 := by unfold key64; simp only [if_neg hlong]
    have hkl : key.length ≤ 64 := by omega
    obtain ⟨KB, hKB⟩ : ∃ KB, KB = key := ⟨_, rfl⟩
    have HKEY2 : Hid (key64 key = KB ++ List.replicate (64 - KB.length) 0) := by rw [hKB]; exact Lib.hid hkey
    rw [← hKB] at hkl
    have HKB := Lib.hid hKB
    clear hkey hKB
    go_wp2_with (first
      | ((with_reducible refine gate_dst (N := 21) rfl ?_); rw [← HW0.out]; go_must (refine wp_appK (w0 := w0) byteT NoB rfl _ _ rfl _ _ [] key rfl rfl AllB (Own.nil _ _ _) (Kp.refl _ _) HKEY.out (by simp; omega) ?_); intro v3 w3 ho3 hk3; rw [List.nil_append, ← HKB.out] at ho3; obtain ⟨A3, c3, rfl⟩ := ho3.bs.len; have HO3 := Lib.hid ho3; have HK3 := Lib.hid hk3; clear ho3 hk3)
      | fail)
    clear hz
    go_loopw [5] (fun o wr => ∃ j : Nat, j ≤ 64 - KB.length ∧ Own 5 wr w0.heap.size o (KB ++ List.replicate j 0) ∧ Kp NoB w0 wr) (fun o _ => 64 - slen o)
    case atStart => exact ⟨0, Nat.zero_le _, by simpa using HO3.out, HK3.out⟩
    case round =>
      obtain ⟨j, hj, ho, hk⟩ := hrel
      have hlen : (KB ++ List.replicate j (0 : UInt8)).length = KB.length + j := by simp
      obtain ⟨Ao, co, rfl⟩ := ho.bs.len
      rw [hlen] at ho ⊢
      by_cases hlt : KB.length + j < 64
      · have HO := Lib.hid ho
        have HK := Lib.hid hk
        have hsn : (KB ++ List.replicate j (0 : UInt8)) ++ [0] = KB ++ List.replicate (j + 1) 0 := by rw [List.replicate_succ']; simp
        have HSN := Lib.hid hsn
        have HLEN := Lib.hid hlen
        clear ho hk hsn hlen
        go_wp2_with (first
          | ((with_reducible refine gate_dst (N := 27) rfl ?_); go_must (refine wp_appK (w0 := w0) byteT NoB rfl _ _ rfl _ _ (KB ++ List.replicate j 0) [0] rfl rfl (fun _ => True) (HO.out.nob ((Kp.refl _ _).alloc _)) (HK.out.alloc _) ((BS.lit _ _ _ _ [0] 1 rfl rfl (by simp)).mono fun _ _ _ => trivial) (by rw [HLEN.out]; simp; omega) ?_); intro v5 w5 ho5 hk5; rw [HSN.out] at ho5)
          | fail)
        have hsv : slen v5 = KB.length + (j + 1) := by
          obtain ⟨A, c, he⟩ := ho5.bs.len
          rw [he]
          show (KB ++ List.replicate (j + 1) (0 : UInt8)).length = _
          simp
        have HO5 := Lib.hid ho5
        have HSV := Lib.hid hsv
        clear ho5 hsv
        go_roundw
        case rel => exact ⟨j + 1, by omega, HO5.out, hk5⟩
        case measure => rw [HSV.out]; simp [slen]; omega
      · have he : KB.length + j = 64 := by omega
        have hkk : KB ++ List.replicate j (0 : UInt8) = key64 key := by rw [HKEY2.out, show 64 - KB.length = j by omega]
        have hl64 := key64_length key
        have hmac : hmacN key b = shaN ((key64 key).map (· ^^^ 0x5c) ++ shaN ((key64 key).map (· ^^^ 0x36) ++ b)) := rfl
        rw [he] at ho ⊢
        rw [hkk] at ho
        generalize key64 key = KK at *
        obtain ⟨g, rfl, hg1, hg2⟩ := ho.form (by omega)
        have HHM := Lib.hid hmac
        have HKL := Lib.hid hl64
        have HO := Lib.hid ho
        have HK := Lib.hid hk
        clear ho hk hlen hkk hl64 hmac he hlt hj HO3 HK3 HKEY2
        go_wp2_with fail
        go_loopw [7, 8, 9] (fun vi vo n w6 => ∃ m : Nat, m ≤ 64 ∧ n = .int .i64 (m : Int) ∧ Own 5 w6 wr.heap.size vi ((KK.take m).map (· ^^^ 0x36)) ∧ Own 5 w6 wr.heap.size vo ((KK.take m).map (· ^^^ 0x5c)) ∧ (∀ k, vi.ownBlock = some k → ¬ vo.ownBlock = some k) ∧ Kp NoB wr w6) (fun _ _ n _ => 64 - (intOf n).toNat)
        case atStart => exact ⟨0, Nat.zero_le _, rfl, Own.nil _ _ _, Own.nil _ _ _, fun k h => (by cases h), Kp.refl _ _⟩
        case round =>
          rename World => w6
          obtain ⟨m, hm, rfl, hi, ho, hne, hk⟩ := hrel
          obtain ⟨Ai, ci, rfl⟩ := hi.bs.len
          obtain ⟨Aq, cq, rfl⟩ := ho.bs.len
          have hli : ((KK.take m).map (· ^^^ (0x36 : UInt8))).length = m := by have := HKL.out; simp; omega
          have hlo : ((KK.take m).map (· ^^^ (0x5c : UInt8))).length = m := by have := HKL.out; simp; omega
          rw [hli] at hi ⊢
          rw [hlo] at ho ⊢
          rw [hli, hlo] at hne
          have HLI := Lib.hid hli
          have HLO := Lib.hid hlo
          clear hli hlo
          by_cases hlt : m < 64
          · have hmk : m < KK.length := by have := HKL.out; omega
            have c6 := ((HO.out.nob hk).cell m hmk).1
            have si := map_snoc (· ^^^ 0x36) KK m hmk
            have so := map_snoc (· ^^^ 0x5c) KK m hmk
            have e36 := xor_u8 KK[m] 0x36
            have e5c := xor_u8 KK[m] 0x5c
            change bits .xor .u8 (KK[m].toNat : Int) 54 = _ at e36
            change bits .xor .u8 (KK[m].toNat : Int) 92 = _ at e5c
            have hcn : ∀ W, Kp NoB wr W → W.cell? ⟨g, m, none⟩ = some (.int .u8 (KK[m].toNat : Int)) := fun W k => ((HO.out.nob k).cell m hmk).1
            have HCN := Lib.hid hcn
            generalize KK[m] = x at *
            replace c6 : w6.cell? ⟨g, m, none⟩ = some (.int .u8 (x.toNat : Int)) := c6
            have SI := Lib.hid si
            have SO := Lib.hid so
            have HI := Lib.hid hi
            have HOO := Lib.hid ho
            have HNE := Lib.hid hne
            have HKW := Lib.hid hk
            clear si so hi ho hne hk hcn hmk
            go_wp2_with (first
              | ((with_reducible refine gate_dst (N := 39) rfl ?_); go_must (refine wp_appD byteT (w0 := wr) rfl _ _ rfl _ _ ((KK.take m).map (· ^^^ 0x36)) [x ^^^ 0x36] rfl rfl (fun _ => True) _ _ (HOO.out.nob ((Kp.refl _ _).alloc _)) HNE.out (HI.out.nob ((Kp.refl _ _).alloc _)) (HKW.out.alloc _) ((BS.lit _ _ _ _ [x ^^^ 0x36] 1 (by simp [bvs, bv]) rfl (by simp)).mono fun _ _ _ => trivial) (by rw [HLI.out]; simp; omega) ?_); intro v7 w7 hi7 ho7 hn7 hk7; rw [SI.out] at hi7; have HI7 := Lib.hid hi7; have HO7 := Lib.hid ho7; have HN7 := Lib.hid hn7; have HK7 := Lib.hid hk7; clear hi7 ho7 hn7 hk7; have c7 := HCN.out _ HK7.out)
              | ((with_reducible refine gate_dst (N := 47) rfl ?_); go_must (refine wp_appD byteT (w0 := wr) rfl _ _ rfl _ _ ((KK.take m).map (· ^^^ 0x5c)) [x ^^^ 0x5c] rfl rfl (fun _ => True) _ _ (HI7.out.nob ((Kp.refl _ _).alloc _)) (fun k h1 h2 => HN7.out k h2 h1) (HO7.out.nob ((Kp.refl _ _).alloc _)) (HK7.out.alloc _) ((BS.lit _ _ _ _ [x ^^^ 0x5c] 1 (by simp [bvs, bv]) rfl (by simp)).mono fun _ _ _ => trivial) (by rw [HLO.out]; simp; omega) ?_); intro v8 w8 ho8 hi8 hn8 hk8; rw [SO.out] at ho8; have HO8 := Lib.hid ho8; have HI8 := Lib.hid hi8; have HN8 := Lib.hid hn8; have HK8 := Lib.hid hk8; clear hi8 ho8 hn8 hk8)
              | fail)
            clear c6 c7 e36 e5c
            go_roundw
            case measure => simp [intOf]; omega
            case rel => exact ⟨m + 1, by omega, by go_num, HI8.out, HO8.out, fun k h1 h2 => HN8.out k h2 h1, HK8.out⟩
          · obtain rfl : m = 64 := by omega
            have ht : KK.take 64 = KK := List.take_of_length_le (by rw [HKL.out]; exact Nat.le_refl _)
            rw [ht] at hi ho
            have hb6 := (HB.out.nob HK.out).nob hk
            have a46 := (A4.out.nob HK.out).nob hk
            have li : (KK.map (· ^^^ (0x36 : UInt8))).length = 64 := by rw [List.length_map, HKL.out]
            have lo : (KK.map (· ^^^ (0x5c : UInt8))).length = 64 := by rw [List.length_map, HKL.out]
            have hmac := HHM.out
            generalize KK.map (· ^^^ (0x36 : UInt8)) = IL at *
            generalize KK.map (· ^^^ (0x5c : UInt8)) = OL at *
            have hz := zero20
            have HI := Lib.hid hi
            have HOO := Lib.hid ho
            have HNE := Lib.hid hne
            have HKW := Lib.hid hk
            have HB6 := Lib.hid hb6
            have A46 := Lib.hid a46
            have LI := Lib.hid li
            have LO := Lib.hid lo
            have HMC := Lib.hid hmac
            clear hi ho hne hk hb6 a46 li lo hmac ht HHM HLI HLO
            go_wp2_with (first
              | ((with_reducible refine gate_dst (N := 50) rfl ?_); go_must (refine wp_appD byteT (w0 := wr) rfl _ _ rfl _ _ IL b rfl rfl AllB _ _ HOO.out HNE.out HI.out HKW.out HB6.out (by rw [LI.out]; omega) ?_); intro v7 w7 hi7 ho7 hn7 hk7; have HI7 := Lib.hid hi7; have HO7 := Lib.hid ho7; have HK7 := Lib.hid hk7; clear hi7 ho7 hn7 hk7)
              | fail)
            refine (rsha_calls (IL ++ b) _ w7 (HI7.out.bs.mono fun _ _ _ => trivial) (by rw [List.length_append, LI.out]; omega)).mono ?_
            rintro e w8 ⟨rfl, k8⟩
            have HO8 := Lib.hid (HO7.out.nob k8)
            have K8 := Lib.hid (HK7.out.trans k8)
            have hs8 := shaN_length (IL ++ b)
            generalize hS1 : shaN (IL ++ b) = S1 at *
            have HS8 := Lib.hid hs8
            have HS1 := Lib.hid hS1
            clear k8 hs8 hS1
            go_wp2_with (first
              | ((with_reducible refine gate_op (Op.store 23 (.tmp 10) (.tmp 51)) rfl ?_); go_must (refine wpList_store_mid rfl 23 _ _ rfl w8.heap.size 0 (bvs S1).toArray rfl rfl (by have := there20 w8; simpa [bvs_length, HS8.out] using this) (size20 S1 HS8.out) (all_oneCell_toArray (bvs_one _)) ?_); obtain ⟨w9, a9, k9, hw9⟩ := arr20_made w8 S1 HS8.out; rw [← hw9]; clear hw9; have A9 := Lib.hid a9; have K9 := Lib.hid k9; clear a9 k9)
              | ((with_reducible refine gate_dst (N := 54) rfl ?_); go_must (refine wp_appK byteT (w0 := wr) NoB rfl _ _ rfl _ _ OL S1 rfl rfl AllB (HO8.out.nob K9.out) (K8.out.trans K9.out) (A9.out.bs 20 HS8.out) (by rw [LO.out, HS8.out]; omega) ?_); intro v10 w10 ho10 hk10; have HO10 := Lib.hid ho10; have HK10 := Lib.hid hk10; clear ho10 hk10)
              | fail)
            refine (rsha_calls (OL ++ S1) _ w10 (HO10.out.bs.mono fun _ _ _ => trivial) (by rw [List.length_append, LO.out, HS8.out]; omega)).mono ?_
            rintro e w11 ⟨rfl, k11⟩
            have hs11 := shaN_length (OL ++ S1)
            have a11 := ((A4.out.nob HK.out).nob HK10.out).nob k11
            have k011 := ((K0.out.trans HK.out).trans HK10.out).trans k11
            generalize shaN (OL ++ S1) = S2 at *
            have ht2 := a11.there
            rw [bvs_length, show z20.length = 20 from rfl] at ht2
            have A11 := Lib.hid a11
            have K011 := Lib.hid k011
            have HS11 := Lib.hid hs11
            clear a11 k011 hs11 k11
            go_wp2_with (first
              | ((with_reducible refine gate_op (Op.store 23 (.tmp 4) (.tmp 55)) rfl ?_); go_must (refine wpList_store_mid rfl 23 _ _ rfl w.heap.size 0 (bvs S2).toArray rfl rfl (by simpa [bvs_length, HS11.out] using ht2) (size20 S2 HS11.out) (all_oneCell_toArray (bvs_one _)) ?_))
              | fail)
            have hw := A11.out.setWhole (bvs S2) (by rw [bvs_length, bvs_length, HS11.out]; rfl)
            exact bodyPost_ret (results_cell_row rfl _ _ w.heap.size 23 (bvs S2).toArray (0, 0) _ rfl hw.heap Tryd.underlying23 rfl (size20 S2 HS11.out)) rfl ⟨by rw [HMC.out], Kp.setCells _ (.inl (Nat.le_refl _)) _ _ _ K011.out⟩
end Go.Proofs.YtdplpcmpjkcocaaDoor
