/- Hmac of the program. -/
import Derived.Test.YtdplpcmpjkcocaaDoorShaH
set_option linter.unusedVariables false
set_option linter.unusedSimpArgs false
namespace Go.Proofs.YtdplpcmpjkcocaaDoor
open Go.RowKit

set_option maxRecDepth 100000 in
set_option maxHeartbeats 8000000 in
theorem hmac_calls (key b : List UInt8) (vk vb : Value) (w : World) (hT : HashOk w) (hk : BS AllB w vk key) (hb : BS AllB w vb b) (lk : key.length ≤ 10000) (lb : b.length ≤ 10000) :
    Calls Tryd.prog 9 #[vk, vb] w fun e w' => e = .returned (.agg (bvs (hmacN key b)).toArray) ∧ Kp NoB w w' := by
  obtain ⟨Ak, ck, rfl⟩ := hk.len
  obtain ⟨Ab, cb, rfl⟩ := hb.len
  have k0 : Kp NoB w (w.alloc (.cells (bvs z20).toArray 23)) := (Kp.refl _ _).alloc _
  have hz := zero20
  have hz6 := zero64
  have a4 := Arr.made 23 w (bvs z20) (by rw [bvs_length]; decide)
  have HKEY := Lib.hid (hk.nob k0)
  have HB := Lib.hid (hb.nob k0)
  have HT := Lib.hid (hT.nob k0)
  have A4 := Lib.hid a4
  have K0 := Lib.hid k0
  clear hk hb k0 a4 hT
  obtain ⟨w0, hw0⟩ : ∃ w0, w0 = w.alloc (.cells (bvs z20).toArray 23) := ⟨_, rfl⟩
  rw [← hw0] at HKEY HB A4 K0 HT
  have HW0 := Lib.hid hw0
  clear hw0
  go_enter Tryd.func9, Tryd.ntmps9
  by_cases hlong : 64 < key.length
  · go_wp2_with fail
    rw [← HW0.out]
    refine (sha_calls key _ w0 HT.out HKEY.out (by omega)).mono ?_
    rintro e w1 ⟨rfl, k1⟩
    have hkey : key64 key = shaN key ++ List.replicate (64 - (shaN key).length) 0 := by unfold key64; simp only [if_pos hlong]
    have hkl : (shaN key).length ≤ 64 := by rw [shaN_length]; decide
    have hsl := shaN_length key
    generalize shaN key = KB at *
    obtain ⟨w2, a2, k2, hw2⟩ := arr20_made w1 KB hsl
    have hkb := (a2.bs 20 hsl).lt
    have kX := k1.trans k2
    have e2 := k2.size
    have k3 : Kp NoB w2 (w2.alloc (.cells (bvs z64).toArray 43)) := (Kp.refl _ _).alloc _
    have HSL := Lib.hid hsl
    have HKEY2 := Lib.hid hkey
    have HX := Lib.hid kX
    have HKB := Lib.hid hkb
    have HW2 := Lib.hid hw2
    have a6 := Arr.made 43 w2 (bvs z64) (by rw [bvs_length]; decide)
    have k6 : Kp NoB w2 (w2.alloc (.cells (bvs z64).toArray 43)) := (Kp.refl _ _).alloc _
    have a7 := Arr.made 43 (w2.alloc (.cells (bvs z64).toArray 43)) (bvs z64) (by rw [bvs_length]; decide)
    have k7 : Kp NoB (w2.alloc (.cells (bvs z64).toArray 43)) ((w2.alloc (.cells (bvs z64).toArray 43)).alloc (.cells (bvs z64).toArray 43)) := (Kp.refl _ _).alloc _
    have e7 : (w2.alloc (.cells (bvs z64).toArray 43)).heap.size = w2.heap.size + 1 := by simp
    rw [e7] at a7
    have A6 := Lib.hid (a6.nob k7)
    have A7 := Lib.hid a7
    have K67 := Lib.hid (k6.trans k7)
    clear hkey k1 hsl kX a2 k2 hkb hw2 a6 a7 k6 k7 e7 e2 k3
    go_wp2_with (first
      | ((with_reducible refine gate_op (Op.store 23 (.tmp 5) (.tmp 14)) rfl ?_); go_must (refine wpList_store_mid rfl 23 _ _ rfl w1.heap.size 0 (bvs KB).toArray rfl rfl (by have := there20 w1; simpa [bvs_length, HSL.out] using this) (size20 KB HSL.out) (all_oneCell_toArray (bvs_one _)) ?_); rw [← HW2.out])
      | ((with_reducible refine gate_dst (N := 18) rfl ?_); go_must (refine wp_copyArr byteT rfl _ _ rfl 43 w2.heap.size 64 _ z64 KB rfl rfl (fun k => k < w2.heap.size) A6.out (HKB.out.nob K67.out) rfl hkl (by decide) ?_); intro w5 a5 k5; have A5 := Lib.hid a5; have K5 := Lib.hid k5; clear a5 k5)
      | ((with_reducible refine gate_dst (N := 21) rfl ?_); go_must (refine wp_copyArr byteT rfl _ _ rfl 43 (w2.heap.size + 1) 64 _ z64 KB rfl rfl (fun k => k < w2.heap.size) (A7.out.kp K5.out (show ¬ (w2.heap.size + 1 = w2.heap.size) by omega)) ((HKB.out.nob K67.out).kp K5.out fun b _ hb hf => by have h1 : b = w2.heap.size := hf; have h2 : b < w2.heap.size := hb; omega) rfl hkl (by decide) ?_); intro w6 a6 k6; have A6' := Lib.hid (A5.out.kp k6 (show ¬ (w2.heap.size = w2.heap.size + 1) by omega)); have A7' := Lib.hid a6; have K6 := Lib.hid ((K67.out.step K5.out fun i hi hf => by have h1 : i = w2.heap.size := hf; omega).step k6 fun i hi hf => by have h1 : i = w2.heap.size + 1 := hf; omega); clear a6 k6)
      | fail)
    have hcat : KB ++ z64.drop KB.length = key64 key := by rw [HKEY2.out]; unfold z64; rw [List.drop_replicate]
    have hl64 := key64_length key
    have hmac : hmacN key b = shaN ((key64 key).map (· ^^^ 0x5c) ++ shaN ((key64 key).map (· ^^^ 0x36) ++ b)) := rfl
    have a6 := A6'.out
    have a7 := A7'.out
    rw [hcat] at a6 a7
    generalize key64 key = KK at *
    have HMC := Lib.hid hmac
    have HKL := Lib.hid hl64
    have KX := Lib.hid (HX.out.trans K6.out)
    have hs26 := K6.out.size
    have hg7 := World.block_lt_of_cell? w6 _ (a7.at_ 0 (by rw [bvs_length, hl64]; decide))
    simp only at hg7
    have hlow := HX.out.size
    clear hcat hl64 hmac A6' A7' HKEY2 A6 A7 A5 K5 K67
    clear hz hz6
    generalize hg6E : w2.heap.size = g6 at *
    go_loopw [22] (fun i wr => ∃ k : Nat, k ≤ 64 ∧ i = .int .i64 (k : Int) ∧ Arr 43 wr g6 g6 (bvs (xmap 0x36 KK k)) ∧ Arr 43 wr (g6 + 1) (g6 + 1) (bvs (xmap 0x5c KK k)) ∧ Kp (fun b => b = g6 ∨ b = g6 + 1) w6 wr) (fun i _ => 64 - (intOf i).toNat)
    case atStart => exact ⟨0, Nat.zero_le _, rfl, a6, a7, Kp.refl _ _⟩
    case round =>
      obtain ⟨k, hk, rfl, h6, h7, hq⟩ := hrel
      clear a6 a7
      by_cases hlt : k < 64
      · have hkk : k < KK.length := by rw [HKL.out]; exact hlt
        have c6 := h6.at_ k (by rw [bvs_length, xmap_length]; exact hkk)
        have c7 := h7.at_ k (by rw [bvs_length, xmap_length]; exact hkk)
        have v6 : (bvs (xmap 0x36 KK k))[k]'(by rw [bvs_length, xmap_length]; exact hkk) = bv KK[k] := by
          have := xmap_get? 0x36 KK k hkk
          simp only [bvs, List.getElem_map]
          rw [List.getElem?_eq_some_iff] at this
          obtain ⟨_, h⟩ := this
          rw [h]
        have v7 : (bvs (xmap 0x5c KK k))[k]'(by rw [bvs_length, xmap_length]; exact hkk) = bv KK[k] := by
          have := xmap_get? 0x5c KK k hkk
          simp only [bvs, List.getElem_map]
          rw [List.getElem?_eq_some_iff] at this
          obtain ⟨_, h⟩ := this
          rw [h]
        rw [v6] at c6
        rw [v7] at c7
        have f6 := h6.fz k
        have f7 := h7.fz k
        have e6 : bv (KK[k] ^^^ 0x36) = .int .u8 ((KK[k].toNat ^^^ 54 : Nat) : Int) := by simp [bv]
        have e7 : bv (KK[k] ^^^ 0x5c) = .int .u8 ((KK[k].toNat ^^^ 92 : Nat) : Int) := by simp [bv]
        have p6 := h6.put k (bv (KK[k] ^^^ 0x36))
        rw [bvs_set_at _ _ _ _ rfl, xmap_set 0x36 KK k hkk, e6] at p6
        have h7A := h7.kp (kp_set' (w := wr) (b := g6) (i := k) (v := .int .u8 ((KK[k].toNat ^^^ 54 : Nat) : Int))) (show ¬ (g6 + 1 = g6) by omega)
        have p7 := h7A.put k (bv (KK[k] ^^^ 0x5c))
        rw [bvs_set_at _ _ _ _ rfl, xmap_set 0x5c KK k hkk, e7] at p7
        have p6' := p6.kp (kp_set' (w := wr.setCell ⟨g6, k, none⟩ (.int .u8 ((KK[k].toNat ^^^ 54 : Nat) : Int))) (b := g6 + 1) (i := k) (v := .int .u8 ((KK[k].toNat ^^^ 92 : Nat) : Int))) (show ¬ (g6 = g6 + 1) by omega)
        have q67 : Kp (fun b => b = g6 ∨ b = g6 + 1) wr ((wr.setCell ⟨g6, k, none⟩ (.int .u8 ((KK[k].toNat ^^^ 54 : Nat) : Int))).setCell ⟨g6 + 1, k, none⟩ (.int .u8 ((KK[k].toNat ^^^ 92 : Nat) : Int))) := ((Kp.refl _ _).setCell (p := ⟨g6, k, none⟩) (.inr (.inl rfl)) _).setCell (p := ⟨g6 + 1, k, none⟩) (.inr (.inr rfl)) _
        replace c6 : wr.cell? ⟨g6, k, none⟩ = some (.int .u8 (KK[k].toNat : Int)) := c6
        replace c7 : wr.cell? ⟨g6 + 1, k, none⟩ = some (.int .u8 (KK[k].toNat : Int)) := c7
        have hx := KK[k].toNat_lt
        clear v6 v7 e6 e7 p6 h7A
        generalize KK[k] = x at *
        have x6 := u8_xor_nat x.toNat 54 hx (by decide)
        have x7 := u8_xor_nat x.toNat 92 hx (by decide)
        change bits .xor .u8 (x.toNat : Int) 54 = _ at x6
        change bits .xor .u8 (x.toNat : Int) 92 = _ at x7
        have P6 := Lib.hid p6'
        have P7 := Lib.hid p7
        have Q := Lib.hid (hq.trans q67)
        clear p6' p7 hq q67 h6 h7 hkk
        go_wp2_with fail
        go_roundw
        case measure => simp [intOf]; omega
        case rel => exact ⟨k + 1, by omega, by go_num, P6.out, P7.out, Q.out⟩
      · obtain rfl : k = 64 := by omega
        rw [xmap_all 0x36 KK 64 (by rw [HKL.out]; exact Nat.le_refl _)] at h6
        rw [xmap_all 0x5c KK 64 (by rw [HKL.out]; exact Nat.le_refl _)] at h7
        have li : (KK.map (· ^^^ (0x36 : UInt8))).length = 64 := by rw [List.length_map, HKL.out]
        have lo : (KK.map (· ^^^ (0x5c : UInt8))).length = 64 := by rw [List.length_map, HKL.out]
        have hmac := HMC.out
        generalize KK.map (· ^^^ (0x36 : UInt8)) = IL at *
        generalize KK.map (· ^^^ (0x5c : UInt8)) = OL at *
        have kwr : Kp NoB w0 wr := KX.out.step hq fun i hi hf => by rcases hf with hf | hf <;> omega
        have hbr := HB.out.nob kwr
        have htr := HT.out.nob kwr
        have a4r := A4.out.nob kwr
        have k0r := K0.out.trans kwr
        have hh := heap_alloc_new wr (.cells #[.slice (some ⟨g6, 0, none⟩) 64 64, .slice Ab b.length cb] 22)
        have kal : Kp NoB wr (wr.alloc (.cells #[.slice (some ⟨g6, 0, none⟩) 64 64, .slice Ab b.length cb] 22)) := (Kp.refl _ _).alloc _
        have hcc := fun h1 h2 h3 => concat2_calls IL b (.slice (some ⟨g6, 0, none⟩) 64 64) (.slice Ab b.length cb) wr.heap.size 22 (wr.alloc (.cells #[.slice (some ⟨g6, 0, none⟩) 64 64, .slice Ab b.length cb] 22)) hh h1 h2 h3
        have hcc' := hcc ((h6.bs 64 li).nob kal) (hbr.nob kal) (by rw [li]; omega)
        have hz := zero20
        have LI := Lib.hid li
        have LO := Lib.hid lo
        have HMC := Lib.hid hmac
        have HTR := Lib.hid (htr.nob kal)
        have A4R := Lib.hid (a4r.nob kal)
        have K0R := Lib.hid (k0r.trans kal)
        have H7R := Lib.hid (h7.nob kal)
        have HCC := Lib.hid hcc'
        clear li lo hmac kwr hbr htr a4r k0r hh kal hcc hcc' h6 h7 hq HB HT A4 K0 KX
        go_wp2_with fail
        refine HCC.out.mono ?_
        rintro e w7 ⟨v7, rfl, ho7, k7⟩
        clear HCC
        have HTR := Lib.hid (HTR.out.nob k7)
        have A4R := Lib.hid (A4R.out.nob k7)
        have K0R := Lib.hid (K0R.out.trans k7)
        have H7R := Lib.hid (H7R.out.nob k7)
        have HO7 := Lib.hid ho7
        clear ho7 k7
        go_wp2_with fail
        refine (sha_calls (IL ++ b) _ w7 HTR.out (HO7.out.bs.mono fun _ _ _ => trivial) (by rw [List.length_append, LI.out]; omega)).mono ?_
        rintro e w8 ⟨rfl, k8⟩
        have HTR := Lib.hid (HTR.out.nob k8)
        have A4R := Lib.hid (A4R.out.nob k8)
        have K0R := Lib.hid (K0R.out.trans k8)
        have H7R := Lib.hid (H7R.out.nob k8)
        have hs8 := shaN_length (IL ++ b)
        generalize hS1 : shaN (IL ++ b) = S1 at *
        have HS8 := Lib.hid hs8
        clear k8 hs8 hS1 HO7
        obtain ⟨w9, a9, k9, hw9⟩ := arr20_made w8 S1 HS8.out
        have HTR := Lib.hid (HTR.out.nob k9)
        have A4R := Lib.hid (A4R.out.nob k9)
        have K0R := Lib.hid (K0R.out.trans k9)
        have H7R := Lib.hid (H7R.out.nob k9)
        have A9 := Lib.hid a9
        have HW9 := Lib.hid hw9
        clear a9 k9 hw9
        go_wp2_with (first
          | ((with_reducible refine gate_op (Op.store 23 (.tmp 9) (.tmp 40)) rfl ?_); go_must (refine wpList_store_mid rfl 23 _ _ rfl w8.heap.size 0 (bvs S1).toArray rfl rfl (by have := there20 w8; simpa [bvs_length, HS8.out] using this) (size20 S1 HS8.out) (all_oneCell_toArray (bvs_one _)) ?_); rw [← HW9.out])
          | fail)
        refine wp_region_still_tail 2 (by kernel_rfl) (by kernel_rfl) ?_
        simp only [List.take_succ_cons, List.take_zero, List.drop_succ_cons, List.drop_zero]
        repeat still_step
        change wpList _ _ _ _ _ w9.drew
        have kd : Kp NoB w9 w9.drew := (Kp.refl NoB w9).drew
        have HTR := Lib.hid (HTR.out.nob kd)
        have A4R := Lib.hid (A4R.out.nob kd)
        have K0R := Lib.hid (K0R.out.trans kd)
        have H7R := Lib.hid (H7R.out.nob kd)
        have A9 := Lib.hid (A9.out.nob kd)
        clear kd HW9
        generalize w9.drew = w10 at *
        have hh := heap_alloc_new w10 (.cells #[.slice (some ⟨g6 + 1, 0, none⟩) 64 64, .slice (some ⟨w8.heap.size, 0, none⟩) 20 20] 22)
        have kal : Kp NoB w10 (w10.alloc (.cells #[.slice (some ⟨g6 + 1, 0, none⟩) 64 64, .slice (some ⟨w8.heap.size, 0, none⟩) 20 20] 22)) := (Kp.refl _ _).alloc _
        have hcc := concat2_calls OL S1 (.slice (some ⟨g6 + 1, 0, none⟩) 64 64) (.slice (some ⟨w8.heap.size, 0, none⟩) 20 20) w10.heap.size 22 (w10.alloc (.cells #[.slice (some ⟨g6 + 1, 0, none⟩) 64 64, .slice (some ⟨w8.heap.size, 0, none⟩) 20 20] 22)) hh ((H7R.out.bs 64 LO.out).nob kal) ((A9.out.bs 20 HS8.out).nob kal) (by rw [LO.out, HS8.out]; omega)
        have HTR := Lib.hid (HTR.out.nob kal)
        have A4R := Lib.hid (A4R.out.nob kal)
        have K0R := Lib.hid (K0R.out.trans kal)
        have HCC := Lib.hid hcc
        clear hh kal hcc H7R A9
        go_wp2_with fail
        refine HCC.out.mono ?_
        rintro e w11 ⟨v11, rfl, ho11, k11⟩
        clear HCC
        have HTR := Lib.hid (HTR.out.nob k11)
        have A4R := Lib.hid (A4R.out.nob k11)
        have K0R := Lib.hid (K0R.out.trans k11)
        have HO11 := Lib.hid ho11
        clear ho11 k11
        go_wp2_with fail
        refine (sha_calls (OL ++ S1) _ w11 HTR.out (HO11.out.bs.mono fun _ _ _ => trivial) (by rw [List.length_append, LO.out, HS8.out]; omega)).mono ?_
        rintro e w12 ⟨rfl, k12⟩
        have a12 := A4R.out.nob k12
        have K12 := Lib.hid (K0R.out.trans k12)
        have hs12 := shaN_length (OL ++ S1)
        generalize shaN (OL ++ S1) = S2 at *
        have ht2 := a12.there
        rw [bvs_length, show z20.length = 20 from rfl] at ht2
        have A12 := Lib.hid a12
        have HS12 := Lib.hid hs12
        clear a12 hs12 k12
        go_wp2_with (first
          | ((with_reducible refine gate_op (Op.store 23 (.tmp 4) (.tmp 45)) rfl ?_); go_must (refine wpList_store_mid rfl 23 _ _ rfl w.heap.size 0 (bvs S2).toArray rfl rfl (by simpa [bvs_length, HS12.out] using ht2) (size20 S2 HS12.out) (all_oneCell_toArray (bvs_one _)) ?_))
          | fail)
        have hw := A12.out.setWhole (bvs S2) (by rw [bvs_length, bvs_length, HS12.out]; rfl)
        exact bodyPost_ret (results_cell_row rfl _ _ w.heap.size 23 (bvs S2).toArray (0, 0) _ rfl hw.heap Tryd.underlying23 rfl (size20 S2 HS12.out)) rfl ⟨by rw [HMC.out], Kp.setCells _ (.inl (Nat.le_refl _)) _ _ _ K12.out⟩
  · have hkey : key64 key = key ++ List.replicate (64 - key.length) 0 := by unfold key64; simp only [if_neg hlong]
    have hkl : key.length ≤ 64 := by omega
    obtain ⟨KB, hKB⟩ : ∃ KB, KB = key := ⟨_, rfl⟩
    have HKEY2 : Hid (key64 key = KB ++ List.replicate (64 - KB.length) 0) := by rw [hKB]; exact Lib.hid hkey
    have hkb : BS (fun k => k < w0.heap.size) w0 (.slice Ak key.length ck) KB := by rw [hKB]; exact HKEY.out.lt
    rw [← hKB] at hkl
    have HX : Hid (Kp NoB w0 w0) := Lib.hid (Kp.refl _ _)
    have HKB := Lib.hid hkb
    have a6 := Arr.made 43 w0 (bvs z64) (by rw [bvs_length]; decide)
    have k6 : Kp NoB w0 (w0.alloc (.cells (bvs z64).toArray 43)) := (Kp.refl _ _).alloc _
    have a7 := Arr.made 43 (w0.alloc (.cells (bvs z64).toArray 43)) (bvs z64) (by rw [bvs_length]; decide)
    have k7 : Kp NoB (w0.alloc (.cells (bvs z64).toArray 43)) ((w0.alloc (.cells (bvs z64).toArray 43)).alloc (.cells (bvs z64).toArray 43)) := (Kp.refl _ _).alloc _
    have e7 : (w0.alloc (.cells (bvs z64).toArray 43)).heap.size = w0.heap.size + 1 := by simp
    rw [e7] at a7
    have hs0 : w.heap.size + 1 = w0.heap.size := by rw [HW0.out]; simp
    have HS0 := Lib.hid hs0
    have A6 := Lib.hid (a6.nob k7)
    have A7 := Lib.hid a7
    have K67 := Lib.hid (k6.trans k7)
    clear hkey a6 a7 k6 k7 e7 hkb hKB hs0
    go_wp2_with (first
      | ((with_reducible refine gate_dst (N := 6) rfl ?_); rw [← HW0.out])
      | ((with_reducible refine gate_dst (N := 18) rfl ?_); go_must (refine wp_copyArr byteT rfl _ _ rfl 43 w0.heap.size 64 _ z64 KB rfl rfl (fun k => k < w0.heap.size) A6.out (HKB.out.nob K67.out) rfl hkl (by decide) ?_); intro w5 a5 k5; have A5 := Lib.hid a5; have K5 := Lib.hid k5; clear a5 k5)
      | ((with_reducible refine gate_dst (N := 21) rfl ?_); go_must (refine wp_copyArr byteT rfl _ _ rfl 43 (w0.heap.size + 1) 64 _ z64 KB rfl rfl (fun k => k < w0.heap.size) (A7.out.kp K5.out (show ¬ (w0.heap.size + 1 = w0.heap.size) by omega)) ((HKB.out.nob K67.out).kp K5.out fun b _ hb hf => by have h1 : b = w0.heap.size := hf; have h2 : b < w0.heap.size := hb; omega) rfl hkl (by decide) ?_); intro w6 a6 k6; have A6' := Lib.hid (A5.out.kp k6 (show ¬ (w0.heap.size = w0.heap.size + 1) by omega)); have A7' := Lib.hid a6; have K6 := Lib.hid ((K67.out.step K5.out fun i hi hf => by have h1 : i = w0.heap.size := hf; omega).step k6 fun i hi hf => by have h1 : i = w0.heap.size + 1 := hf; omega); clear a6 k6)
      | fail)
    have hcat : KB ++ z64.drop KB.length = key64 key := by rw [HKEY2.out]; unfold z64; rw [List.drop_replicate]
    have hl64 := key64_length key
    have hmac : hmacN key b = shaN ((key64 key).map (· ^^^ 0x5c) ++ shaN ((key64 key).map (· ^^^ 0x36) ++ b)) := rfl
    have a6 := A6'.out
    have a7 := A7'.out
    rw [hcat] at a6 a7
    generalize key64 key = KK at *
    have HMC := Lib.hid hmac
    have HKL := Lib.hid hl64
    have KX := Lib.hid (HX.out.trans K6.out)
    have hs26 := K6.out.size
    have hg7 := World.block_lt_of_cell? w6 _ (a7.at_ 0 (by rw [bvs_length, hl64]; decide))
    simp only at hg7
    have hlow := HX.out.size
    clear hcat hl64 hmac A6' A7' HKEY2 A6 A7 A5 K5 K67
    clear hz hz6
    generalize hg6E : w0.heap.size = g6 at *
    go_loopw [22] (fun i wr => ∃ k : Nat, k ≤ 64 ∧ i = .int .i64 (k : Int) ∧ Arr 43 wr g6 g6 (bvs (xmap 0x36 KK k)) ∧ Arr 43 wr (g6 + 1) (g6 + 1) (bvs (xmap 0x5c KK k)) ∧ Kp (fun b => b = g6 ∨ b = g6 + 1) w6 wr) (fun i _ => 64 - (intOf i).toNat)
    case atStart => exact ⟨0, Nat.zero_le _, rfl, a6, a7, Kp.refl _ _⟩
    case round =>
      obtain ⟨k, hk, rfl, h6, h7, hq⟩ := hrel
      clear a6 a7
      by_cases hlt : k < 64
      · have hkk : k < KK.length := by rw [HKL.out]; exact hlt
        have c6 := h6.at_ k (by rw [bvs_length, xmap_length]; exact hkk)
        have c7 := h7.at_ k (by rw [bvs_length, xmap_length]; exact hkk)
        have v6 : (bvs (xmap 0x36 KK k))[k]'(by rw [bvs_length, xmap_length]; exact hkk) = bv KK[k] := by
          have := xmap_get? 0x36 KK k hkk
          simp only [bvs, List.getElem_map]
          rw [List.getElem?_eq_some_iff] at this
          obtain ⟨_, h⟩ := this
          rw [h]
        have v7 : (bvs (xmap 0x5c KK k))[k]'(by rw [bvs_length, xmap_length]; exact hkk) = bv KK[k] := by
          have := xmap_get? 0x5c KK k hkk
          simp only [bvs, List.getElem_map]
          rw [List.getElem?_eq_some_iff] at this
          obtain ⟨_, h⟩ := this
          rw [h]
        rw [v6] at c6
        rw [v7] at c7
        have f6 := h6.fz k
        have f7 := h7.fz k
        have e6 : bv (KK[k] ^^^ 0x36) = .int .u8 ((KK[k].toNat ^^^ 54 : Nat) : Int) := by simp [bv]
        have e7 : bv (KK[k] ^^^ 0x5c) = .int .u8 ((KK[k].toNat ^^^ 92 : Nat) : Int) := by simp [bv]
        have p6 := h6.put k (bv (KK[k] ^^^ 0x36))
        rw [bvs_set_at _ _ _ _ rfl, xmap_set 0x36 KK k hkk, e6] at p6
        have h7A := h7.kp (kp_set' (w := wr) (b := g6) (i := k) (v := .int .u8 ((KK[k].toNat ^^^ 54 : Nat) : Int))) (show ¬ (g6 + 1 = g6) by omega)
        have p7 := h7A.put k (bv (KK[k] ^^^ 0x5c))
        rw [bvs_set_at _ _ _ _ rfl, xmap_set 0x5c KK k hkk, e7] at p7
        have p6' := p6.kp (kp_set' (w := wr.setCell ⟨g6, k, none⟩ (.int .u8 ((KK[k].toNat ^^^ 54 : Nat) : Int))) (b := g6 + 1) (i := k) (v := .int .u8 ((KK[k].toNat ^^^ 92 : Nat) : Int))) (show ¬ (g6 = g6 + 1) by omega)
        have q67 : Kp (fun b => b = g6 ∨ b = g6 + 1) wr ((wr.setCell ⟨g6, k, none⟩ (.int .u8 ((KK[k].toNat ^^^ 54 : Nat) : Int))).setCell ⟨g6 + 1, k, none⟩ (.int .u8 ((KK[k].toNat ^^^ 92 : Nat) : Int))) := ((Kp.refl _ _).setCell (p := ⟨g6, k, none⟩) (.inr (.inl rfl)) _).setCell (p := ⟨g6 + 1, k, none⟩) (.inr (.inr rfl)) _
        replace c6 : wr.cell? ⟨g6, k, none⟩ = some (.int .u8 (KK[k].toNat : Int)) := c6
        replace c7 : wr.cell? ⟨g6 + 1, k, none⟩ = some (.int .u8 (KK[k].toNat : Int)) := c7
        have hx := KK[k].toNat_lt
        clear v6 v7 e6 e7 p6 h7A
        generalize KK[k] = x at *
        have x6 := u8_xor_nat x.toNat 54 hx (by decide)
        have x7 := u8_xor_nat x.toNat 92 hx (by decide)
        change bits .xor .u8 (x.toNat : Int) 54 = _ at x6
        change bits .xor .u8 (x.toNat : Int) 92 = _ at x7
        have P6 := Lib.hid p6'
        have P7 := Lib.hid p7
        have Q := Lib.hid (hq.trans q67)
        clear p6' p7 hq q67 h6 h7 hkk
        go_wp2_with fail
        go_roundw
        case measure => simp [intOf]; omega
        case rel => exact ⟨k + 1, by omega, by go_num, P6.out, P7.out, Q.out⟩
      · obtain rfl : k = 64 := by omega
        rw [xmap_all 0x36 KK 64 (by rw [HKL.out]; exact Nat.le_refl _)] at h6
        rw [xmap_all 0x5c KK 64 (by rw [HKL.out]; exact Nat.le_refl _)] at h7
        have li : (KK.map (· ^^^ (0x36 : UInt8))).length = 64 := by rw [List.length_map, HKL.out]
        have lo : (KK.map (· ^^^ (0x5c : UInt8))).length = 64 := by rw [List.length_map, HKL.out]
        have hmac := HMC.out
        generalize KK.map (· ^^^ (0x36 : UInt8)) = IL at *
        generalize KK.map (· ^^^ (0x5c : UInt8)) = OL at *
        have kwr : Kp NoB w0 wr := KX.out.step hq fun i hi hf => by rcases hf with hf | hf <;> omega
        have hbr := HB.out.nob kwr
        have htr := HT.out.nob kwr
        have a4r := A4.out.nob kwr
        have k0r := K0.out.trans kwr
        have hh := heap_alloc_new wr (.cells #[.slice (some ⟨g6, 0, none⟩) 64 64, .slice Ab b.length cb] 22)
        have kal : Kp NoB wr (wr.alloc (.cells #[.slice (some ⟨g6, 0, none⟩) 64 64, .slice Ab b.length cb] 22)) := (Kp.refl _ _).alloc _
        have hcc := fun h1 h2 h3 => concat2_calls IL b (.slice (some ⟨g6, 0, none⟩) 64 64) (.slice Ab b.length cb) wr.heap.size 22 (wr.alloc (.cells #[.slice (some ⟨g6, 0, none⟩) 64 64, .slice Ab b.length cb] 22)) hh h1 h2 h3
        have hcc' := hcc ((h6.bs 64 li).nob kal) (hbr.nob kal) (by rw [li]; omega)
        have hz := zero20
        have LI := Lib.hid li
        have LO := Lib.hid lo
        have HMC := Lib.hid hmac
        have HTR := Lib.hid (htr.nob kal)
        have A4R := Lib.hid (a4r.nob kal)
        have K0R := Lib.hid (k0r.trans kal)
        have H7R := Lib.hid (h7.nob kal)
        have HCC := Lib.hid hcc'
        clear li lo hmac kwr hbr htr a4r k0r hh kal hcc hcc' h6 h7 hq HB HT A4 K0 KX
        go_wp2_with fail
        refine HCC.out.mono ?_
        rintro e w7 ⟨v7, rfl, ho7, k7⟩
        clear HCC
        have HTR := Lib.hid (HTR.out.nob k7)
        have A4R := Lib.hid (A4R.out.nob k7)
        have K0R := Lib.hid (K0R.out.trans k7)
        have H7R := Lib.hid (H7R.out.nob k7)
        have HO7 := Lib.hid ho7
        clear ho7 k7
        go_wp2_with fail
        refine (sha_calls (IL ++ b) _ w7 HTR.out (HO7.out.bs.mono fun _ _ _ => trivial) (by rw [List.length_append, LI.out]; omega)).mono ?_
        rintro e w8 ⟨rfl, k8⟩
        have HTR := Lib.hid (HTR.out.nob k8)
        have A4R := Lib.hid (A4R.out.nob k8)
        have K0R := Lib.hid (K0R.out.trans k8)
        have H7R := Lib.hid (H7R.out.nob k8)
        have hs8 := shaN_length (IL ++ b)
        generalize hS1 : shaN (IL ++ b) = S1 at *
        have HS8 := Lib.hid hs8
        clear k8 hs8 hS1 HO7
        obtain ⟨w9, a9, k9, hw9⟩ := arr20_made w8 S1 HS8.out
        have HTR := Lib.hid (HTR.out.nob k9)
        have A4R := Lib.hid (A4R.out.nob k9)
        have K0R := Lib.hid (K0R.out.trans k9)
        have H7R := Lib.hid (H7R.out.nob k9)
        have A9 := Lib.hid a9
        have HW9 := Lib.hid hw9
        clear a9 k9 hw9
        go_wp2_with (first
          | ((with_reducible refine gate_op (Op.store 23 (.tmp 9) (.tmp 40)) rfl ?_); go_must (refine wpList_store_mid rfl 23 _ _ rfl w8.heap.size 0 (bvs S1).toArray rfl rfl (by have := there20 w8; simpa [bvs_length, HS8.out] using this) (size20 S1 HS8.out) (all_oneCell_toArray (bvs_one _)) ?_); rw [← HW9.out])
          | fail)
        refine wp_region_still_tail 2 (by kernel_rfl) (by kernel_rfl) ?_
        simp only [List.take_succ_cons, List.take_zero, List.drop_succ_cons, List.drop_zero]
        repeat still_step
        change wpList _ _ _ _ _ w9.drew
        have kd : Kp NoB w9 w9.drew := (Kp.refl NoB w9).drew
        have HTR := Lib.hid (HTR.out.nob kd)
        have A4R := Lib.hid (A4R.out.nob kd)
        have K0R := Lib.hid (K0R.out.trans kd)
        have H7R := Lib.hid (H7R.out.nob kd)
        have A9 := Lib.hid (A9.out.nob kd)
        clear kd HW9
        generalize w9.drew = w10 at *
        have hh := heap_alloc_new w10 (.cells #[.slice (some ⟨g6 + 1, 0, none⟩) 64 64, .slice (some ⟨w8.heap.size, 0, none⟩) 20 20] 22)
        have kal : Kp NoB w10 (w10.alloc (.cells #[.slice (some ⟨g6 + 1, 0, none⟩) 64 64, .slice (some ⟨w8.heap.size, 0, none⟩) 20 20] 22)) := (Kp.refl _ _).alloc _
        have hcc := concat2_calls OL S1 (.slice (some ⟨g6 + 1, 0, none⟩) 64 64) (.slice (some ⟨w8.heap.size, 0, none⟩) 20 20) w10.heap.size 22 (w10.alloc (.cells #[.slice (some ⟨g6 + 1, 0, none⟩) 64 64, .slice (some ⟨w8.heap.size, 0, none⟩) 20 20] 22)) hh ((H7R.out.bs 64 LO.out).nob kal) ((A9.out.bs 20 HS8.out).nob kal) (by rw [LO.out, HS8.out]; omega)
        have HTR := Lib.hid (HTR.out.nob kal)
        have A4R := Lib.hid (A4R.out.nob kal)
        have K0R := Lib.hid (K0R.out.trans kal)
        have HCC := Lib.hid hcc
        clear hh kal hcc H7R A9
        go_wp2_with fail
        refine HCC.out.mono ?_
        rintro e w11 ⟨v11, rfl, ho11, k11⟩
        clear HCC
        have HTR := Lib.hid (HTR.out.nob k11)
        have A4R := Lib.hid (A4R.out.nob k11)
        have K0R := Lib.hid (K0R.out.trans k11)
        have HO11 := Lib.hid ho11
        clear ho11 k11
        go_wp2_with fail
        refine (sha_calls (OL ++ S1) _ w11 HTR.out (HO11.out.bs.mono fun _ _ _ => trivial) (by rw [List.length_append, LO.out, HS8.out]; omega)).mono ?_
        rintro e w12 ⟨rfl, k12⟩
        have a12 := A4R.out.nob k12
        have K12 := Lib.hid (K0R.out.trans k12)
        have hs12 := shaN_length (OL ++ S1)
        generalize shaN (OL ++ S1) = S2 at *
        have ht2 := a12.there
        rw [bvs_length, show z20.length = 20 from rfl] at ht2
        have A12 := Lib.hid a12
        have HS12 := Lib.hid hs12
        clear a12 hs12 k12
        go_wp2_with (first
          | ((with_reducible refine gate_op (Op.store 23 (.tmp 4) (.tmp 45)) rfl ?_); go_must (refine wpList_store_mid rfl 23 _ _ rfl w.heap.size 0 (bvs S2).toArray rfl rfl (by simpa [bvs_length, HS12.out] using ht2) (size20 S2 HS12.out) (all_oneCell_toArray (bvs_one _)) ?_))
          | fail)
        have hw := A12.out.setWhole (bvs S2) (by rw [bvs_length, bvs_length, HS12.out]; rfl)
        exact bodyPost_ret (results_cell_row rfl _ _ w.heap.size 23 (bvs S2).toArray (0, 0) _ rfl hw.heap Tryd.underlying23 rfl (size20 S2 HS12.out)) rfl ⟨by rw [HMC.out], Kp.setCells _ (.inl (Nat.le_refl _)) _ _ _ K12.out⟩
end Go.Proofs.YtdplpcmpjkcocaaDoor
