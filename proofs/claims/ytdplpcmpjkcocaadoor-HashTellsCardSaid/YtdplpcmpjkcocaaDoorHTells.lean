/- The walk of the law HashTells: it returns true. -/
import Derived.Test.YtdplpcmpjkcocaaDoorShaI
import Derived.Test.YtdplpcmpjkcocaaDoorShaT
import Derived.Test.YtdplpcmpjkcocaaDoorShaEq
set_option linter.unusedVariables false
set_option linter.unusedSimpArgs false
namespace Go.Proofs.YtdplpcmpjkcocaaDoor
open Go.RowKit

set_option maxRecDepth 100000 in
set_option maxHeartbeats 4000000 in
theorem hashTells_walk (lk lb : List UInt8) (vk vb : Value) (w : World) (hT : HashOk w) (hk : BS AllB w vk lk) (hb : BS AllB w vb lb) :
    Calls Tryd.prog 3 #[vk, vb] w fun e w' => e = .returned (.bool true) ∧ Kp NoB w w' := by
  obtain ⟨kk, vk', hm1, hs1, hk'⟩ := BS.clip byteT hk 400 400 rfl
  obtain ⟨kb, vb', hm2, hs2, hb'⟩ := BS.clip byteT hb 400 400 rfl
  have hkl : (lk.take 400).length ≤ 400 := by simp; omega
  have hbl : (lb.take 400).length ≤ 400 := by simp; omega
  obtain ⟨A1, c1, rfl⟩ := hk.len
  obtain ⟨A2, c2, rfl⟩ := hb.len
  generalize lk.take 400 = key at *
  generalize lb.take 400 = b at *
  clear hk hb
  have HT := Lib.hid hT
  clear hT
  go_enter Tryd.func3, Tryd.ntmps3
  go_wp2
  go_quiet (fail)
  have hk0 := (Kp.refl NoB w).drewN nq
  have hkey := hk'.nob hk0
  have hbb := hb'.nob hk0
  have ht0 := HT.out.nob hk0
  clear hm1 hm2 hs1 hs2 hk' hb'
  generalize w.drewN nq = w0 at *
  obtain ⟨Ak, ck, rfl⟩ := hkey.len
  obtain ⟨Ab, cb, rfl⟩ := hbb.len
  have HK0 := Lib.hid hk0
  have HKEY := Lib.hid hkey
  have HBB := Lib.hid hbb
  have HT0 := Lib.hid ht0
  clear hk0 hkey hbb ht0
  go_wp2_with (first
    | ((with_reducible refine gate_dst (N := 18) rfl ?_); go_must (refine wp_appK (w0 := w0) byteT NoB rfl _ _ rfl _ _ [] key rfl rfl AllB (Own.nil _ _ _) (Kp.refl _ _) HKEY.out (by simp; omega) ?_); intro v1 w1 ho1 hk1; rw [List.nil_append] at ho1; have HO1 := Lib.hid ho1; have HK1 := Lib.hid hk1; clear ho1 hk1)
    | ((with_reducible refine gate_dst (N := 20) rfl ?_); go_must (refine wp_appK (w0 := w1) byteT NoB rfl _ _ rfl _ _ [] b rfl rfl AllB (Own.nil _ _ _) (Kp.refl _ _) (HBB.out.nob HK1.out) (by simp; omega) ?_); intro v2 w2 ho2 hk2; rw [List.nil_append] at ho2; have HO2 := Lib.hid ho2; have HK2 := Lib.hid hk2; clear ho2 hk2)
    | fail)
  have k2 := HK1.out.trans HK2.out
  have bo := (HO1.out.nob HK2.out).bs.all
  have bm := HO2.out.bs.all
  have hl1 : shaN b = shaN b := rfl
  refine (sha_calls b v2 w2 (HT0.out.nob k2) bm (by omega)).mono ?_
  rintro e w3 ⟨rfl, k3⟩
  go_wp2_with fail
  refine (rsha_calls b _ w3 (HBB.out.nob (k2.trans k3)) (by omega)).mono ?_
  rintro e w4 ⟨rfl, k4⟩
  have heq := eq20_same (shaN b) (shaN_length b)
  generalize shaN b = S at *
  have k34 := k3.trans k4
  have K4 := Lib.hid (k2.trans k34)
  have BO := Lib.hid (bo.nob k34)
  have BM := Lib.hid (bm.nob k34)
  clear hl1 k2 bo bm k3 k4 k34
  go_wp2_with fail
  refine (hmac_calls key b v1 v2 w4 (HT0.out.nob K4.out) BO.out BM.out (by omega) (by omega)).mono ?_
  rintro e w5 ⟨rfl, k5⟩
  clear heq
  go_wp2_with fail
  refine (rhmac_calls key b _ _ w5 (HKEY.out.nob (K4.out.trans k5)) (HBB.out.nob (K4.out.trans k5)) (by omega) (by omega)).mono ?_
  rintro e w6 ⟨rfl, k6⟩
  have heq := eq20_same (hmacN key b) (shaN_length _)
  generalize hmacN key b = M at *
  have k56 := k5.trans k6
  have K6 := Lib.hid (K4.out.trans k56)
  have bo := BO.out.nob k56
  have bm := BM.out.nob k56
  have bk := HKEY.out.nob K6.out
  have bb := HBB.out.nob K6.out
  clear k5 k6 k56
  go_wp2_with (first
    | ((with_reducible refine gate_dst (N := 37) rfl ?_); go_must (refine gate_guard (by rfl) ?_; refine wp_string byteT rfl _ 9 Tryd.underlying9 rfl AllB _ _ rfl bo ?_))
    | ((with_reducible refine gate_dst (N := 39) rfl ?_); go_must (refine gate_guard (by rfl) ?_; refine wp_string byteT rfl _ 9 Tryd.underlying9 rfl AllB _ _ rfl bk ?_))
    | ((with_reducible refine gate_dst (N := 44) rfl ?_); go_must (refine gate_guard (by rfl) ?_; refine wp_string byteT rfl _ 9 Tryd.underlying9 rfl AllB _ _ rfl bm ?_))
    | ((with_reducible refine gate_dst (N := 46) rfl ?_); go_must (refine gate_guard (by rfl) ?_; refine wp_string byteT rfl _ 9 Tryd.underlying9 rfl AllB _ _ rfl bb ?_))
    | fail)
  refine (tells_calls w6 (HT0.out.nob K6.out)).mono ?_
  rintro e w7 ⟨rfl, k7⟩
  go_wp2
  go_ret
  exact ⟨rfl, HK0.out.trans (K6.out.trans k7)⟩
end Go.Proofs.YtdplpcmpjkcocaaDoor
