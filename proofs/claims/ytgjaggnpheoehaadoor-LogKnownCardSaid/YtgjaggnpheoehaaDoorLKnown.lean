/- The walk of the law LogKnown. -/
import Derived.Test.YtgjaggnpheoehaaDoorLogN
set_option linter.unusedVariables false
set_option linter.unusedSimpArgs false
namespace Go.Proofs.YtgjaggnpheoehaaDoor
open Go.RowKit

def oneK : List UInt8 := [111, 110, 101]
def twoK : List UInt8 := [116, 119, 111]
def threeK : List UInt8 := [116, 104, 114, 101, 101]
/-- What stands behind the first frame: four bytes of the second, a hole, the third whole. -/
def restK : List UInt8 := (sealN (chainS 0 1 [oneK]) 2 twoK).take 4 ++ List.replicate 9 0 ++ sealN (chainS 0 1 [oneK, twoK]) 3 threeK
theorem crashK : crashL (standL [oneK] 0) [(lenC [oneK], sealN (chainS 0 1 [oneK]) ([oneK].length + 1) twoK), (lenC [oneK, twoK], sealN (chainS 0 1 [oneK, twoK]) ([oneK, twoK].length + 1) threeK)] [4, 99] = chainB 0 1 [oneK] ++ restK := by decide +kernel
theorem parseK : Parse (chainB 0 1 [oneK] ++ restK) [oneK] restK := ⟨rfl, by decide, by decide +kernel⟩
theorem restK_len : restK.length = 28 := by decide +kernel
theorem str_bs (l : List UInt8) (n : Nat) (w : World) (cs : Array Value) (fr : Nat × Nat) (F : Nat → Prop) (hF : ∀ k, F k → k < w.heap.size) (h : cs = (bvs l).toArray) (hn : n = l.length) (hl : l.length ≤ 1000000) :
    BS (Out F (w.alloc (.cells cs 5 fr))) (w.alloc (.cells cs 5 fr)) (.slice (some ⟨w.heap.size, 0, none⟩) n n) l :=
  (BS.lit 5 w cs fr l n h hn hl).mono fun k hk h => ⟨hk, fun hf => by have := hF k hf; omega⟩

set_option maxRecDepth 100000 in
set_option maxHeartbeats 8000000 in
theorem logKnown_walk (w : World) (hT : TabOk w) :
    Calls Tryd.prog 11 #[] w fun e w' => e = .returned (.bool true) ∧ Kp NoB w w' := by
  have kc := fun (w : World) (C : Array Value) (n c : Nat) => Lib.run_convert_bytes_const (P := Tryd.prog) w 22 5 C n c Tryd.underlying22 Tryd.underlying5
  have kz : Kp NoB w (w.alloc (.cells #[.pointer none, .int .i64 0, .int .u32 0, .int .u32 0, .int .u32 0] 82)) := (Kp.refl _ _).alloc _
  have hz : NoLog (w.alloc (.cells #[.pointer none, .int .i64 0, .int .u32 0, .int .u32 0, .int .u32 0] 82)) (.pointer (some ⟨w.heap.size, 0, none⟩)) := .inr ⟨_, rfl, by
    simp only [World.cell?, heap_alloc_new w (.cells #[.pointer none, .int .i64 0, .int .u32 0, .int .u32 0, .int .u32 0] 82)]
    rfl⟩
  have HZ := Lib.hid hz
  have HT := Lib.hid hT
  have KZ := Lib.hid kz
  clear hz hT kz
  go_enter Tryd.func11, Tryd.ntmps11
  go_wp2_with fail
  have HZ := HZ.out
  have KZ := KZ.out
  generalize (w.alloc (.cells #[.pointer none, .int .i64 0, .int .u32 0, .int .u32 0, .int .u32 0] 82)) = w1 at *
  have HZ := Lib.hid HZ
  have KZ := Lib.hid KZ
  refine (lappendN_calls (.inl rfl) _).mono ?_
  rintro e wz ⟨rfl, rfl⟩
  go_wp2_with fail
  refine (lappendN_calls HZ.out _).mono ?_
  rintro e wz ⟨rfl, rfl⟩
  go_wp2_with fail
  refine (lrecoverN_calls (HT.out.nob KZ.out)).mono ?_
  rintro e w2 ⟨rfl, k2⟩
  have K2 := Lib.hid (KZ.out.trans k2)
  have HZ2 : Hid (NoLog w2 (.pointer (some ⟨w.heap.size, 0, none⟩))) := by
    rcases HZ.out with h | ⟨b, hb, h⟩
    · cases h
    · exact Lib.hid (.inr ⟨b, hb, k2.cell h id⟩)
  clear k2
  go_wp2_with fail
  refine (lsyncN_calls (.inl rfl)).mono ?_
  rintro e wz ⟨rfl, rfl⟩
  go_wp2_with fail
  refine (lnextN_calls (.inl rfl)).mono ?_
  rintro e wz ⟨rfl, rfl⟩
  go_wp2_with fail
  refine (lsureN_calls HZ2.out).mono ?_
  rintro e wz ⟨rfl, rfl⟩
  go_wp2_with fail
  refine (lsizeN_calls (.inl rfl)).mono ?_
  rintro e wz ⟨rfl, rfl⟩
  go_wp2_with fail
  refine (new_calls 100000 (by decide) w2).mono ?_
  rintro e w3 ⟨p, rfl, d3, k3⟩
  obtain ⟨q, rfl⟩ := d3.ptr
  have m3 : Made w2 (fun k => k = w2.heap.size) w3 := ⟨k3, fun k h => by omega⟩
  have T2 := Lib.hid (HT.out.nob K2.out)
  generalize (fun k => k = w2.heap.size) = F3 at *
  clear k3 HZ HZ2 KZ
  go_wp2_with fail
  refine (ld_recover d3 m3 T2.out (by decide) parse_none rfl (by decide)).mono ?_
  rintro e w4 ⟨F4, R4, b4, vo, us, rfl, s4, hb4, h4, hv4, hr4⟩
  obtain ⟨Ao, co, rfl⟩ := hv4.len
  have hus : us.length = 0 := hr4.1
  rw [hus]
  clear hus hv4 hr4 d3 m3 s4 hb4
  change LD w2 w4 b4 q F4 R4 [] 0 ⟨100000, false, standL [] 0, standL [] 0, []⟩ at h4
  go_wp2_with fail
  refine (ld_append (h4.nob ((Kp.refl _ _).alloc _)) oneK _ (str_bs oneK 3 w4 _ _ F4 h4.dsk.lt (by simp [bvs, bv, oneK]) rfl (by decide)) (appE_ok _ [] 0 oneK (by decide) rfl rfl (by decide)) (by decide)).mono ?_
  rintro e w5 ⟨rfl, F5, R5, h5, s5⟩
  rw [appD_is _ [] 0 oneK rfl (appE_ok _ [] 0 oneK (by decide) rfl rfl (by decide))] at h5
  change LD w2 w5 b4 q F5 R5 [oneK] 0 ⟨100000, false, standL [] 0, standL [oneK] 0, [(lenC [], sealN (chainS 0 1 []) 1 oneK)]⟩ at h5
  clear h4 s5
  go_wp2_with fail
  refine (ld_sync h5).mono ?_
  rintro e w6 ⟨rfl, F6, R6, h6, s6⟩
  change LD w2 w6 b4 q F6 R6 [oneK] 1 ⟨100000, false, standL [oneK] 0, standL [oneK] 0, []⟩ at h6
  clear h5 s6
  go_wp2_with fail
  refine (ld_append (h6.nob ((Kp.refl _ _).alloc _)) twoK _ (str_bs twoK 3 w6 _ _ F6 h6.dsk.lt (by simp [bvs, bv, twoK]) rfl (by decide)) (appE_ok _ [oneK] 0 twoK (by decide) rfl rfl (by decide)) (by decide)).mono ?_
  rintro e w7 ⟨rfl, F7, R7, h7, s7⟩
  rw [appD_is _ [oneK] 0 twoK rfl (appE_ok _ [oneK] 0 twoK (by decide) rfl rfl (by decide))] at h7
  change LD w2 w7 b4 q F7 R7 [oneK, twoK] 1 ⟨100000, false, standL [oneK] 0, standL [oneK, twoK] 0, [(lenC [oneK], sealN (chainS 0 1 [oneK]) ([oneK].length + 1) twoK)]⟩ at h7
  clear h6 s7
  go_wp2_with fail
  refine (ld_append (h7.nob ((Kp.refl _ _).alloc _)) threeK _ (str_bs threeK 5 w7 _ _ F7 h7.dsk.lt (by simp [bvs, bv, threeK]) rfl (by decide)) (appE_ok _ [oneK, twoK] 0 threeK (by decide) rfl rfl (by decide)) (by decide)).mono ?_
  rintro e w8 ⟨rfl, F8, R8, h8, s8⟩
  rw [appD_is _ [oneK, twoK] 0 threeK rfl (appE_ok _ [oneK, twoK] 0 threeK (by decide) rfl rfl (by decide))] at h8
  change LD w2 w8 b4 q F8 R8 [oneK, twoK, threeK] 1 ⟨100000, false, standL [oneK] 0, standL [oneK, twoK, threeK] 0, [(lenC [oneK], sealN (chainS 0 1 [oneK]) ([oneK].length + 1) twoK), (lenC [oneK, twoK], sealN (chainS 0 1 [oneK, twoK]) ([oneK, twoK].length + 1) threeK)]⟩ at h8
  clear h7 s8
  go_wp2_with fail
  refine (crashL_calls h8.dsk [4, 99] 2 _ rfl rfl (by decide) (by decide) (by decide)).mono ?_
  rintro e w9 ⟨rfl, F9, R9, d9, s9⟩
  have m9 := h8.made.step s9
  simp only [crashK] at d9
  clear h8 s9
  go_wp2_with fail
  refine (ld_recover d9 m9 T2.out (by decide) parseK rfl (by simp only [List.length_append, chainB_length, restK_len]; decide)).mono ?_
  rintro e wa ⟨Fa, Ra, ba, voa, usa, rfl, sa, hba, ha, hva, hra⟩
  have hla : usa.length = 1 := hra.1
  obtain ⟨Aoa, coa, rfl⟩ := hva.len
  rw [hla]
  rw [restK_len] at ha
  change LD w2 wa ba q Fa Ra [oneK] 1 ⟨100000, false, standL [oneK] 28, standL [oneK] 28, []⟩ at ha
  clear hla hva hra d9 m9 sa hba
  go_wp2_with fail
  refine (ld_append (ha.nob ((Kp.refl _ _).alloc _)) twoK _ (str_bs twoK 3 wa _ _ Fa ha.dsk.lt (by simp [bvs, bv, twoK]) rfl (by decide)) (appE_ok _ [oneK] 28 twoK (by decide) rfl rfl (by decide)) (by decide)).mono ?_
  rintro e wb ⟨rfl, Fb, Rb, hb, sb⟩
  rw [appD_is _ [oneK] 28 twoK rfl (appE_ok _ [oneK] 28 twoK (by decide) rfl rfl (by decide))] at hb
  change LD w2 wb ba q Fb Rb [oneK, twoK] 1 ⟨100000, false, standL [oneK] 28, standL [oneK, twoK] 15, [(lenC [oneK], sealN (chainS 0 1 [oneK]) 2 twoK)]⟩ at hb
  clear ha sb
  go_wp2_with fail
  refine (ld_sync hb).mono ?_
  rintro e wc ⟨rfl, Fc, Rc, hc, sc⟩
  change LD w2 wc ba q Fc Rc [oneK, twoK] 2 ⟨100000, false, standL [oneK, twoK] 15, standL [oneK, twoK] 15, []⟩ at hc
  clear hb sc
  go_wp2_with fail
  refine (crash_calls hc.dsk [] (.slice none 0 0) (Vals.nil _ _) (by simp) (by decide)).mono ?_
  rintro e wd ⟨rfl, Fd, Rd, dd, sd⟩
  have md := hc.made.step sd
  change DiskIs wd Fd Rd (.pointer (some q)) ⟨100000, false, standL [oneK, twoK] 15, standL [oneK, twoK] 15, []⟩ at dd
  clear hc sd
  go_wp2_with fail
  refine (ld_recover dd md T2.out (by decide) (stand_parse [oneK, twoK] 15 (by decide)) rfl (by rw [standL_length]; decide)).mono ?_
  rintro e we ⟨Fe, Re, be, voe, use, rfl, se, hbe, he, hve, hre⟩
  have hle : use.length = 2 := hre.1
  obtain ⟨u1, u2, rfl⟩ : ∃ u1 u2, use = [u1, u2] := by
    match use, hle with
    | [u1, u2], _ => exact ⟨u1, u2, rfl⟩
  obtain ⟨Aoe, coe, rfl⟩ := hve.len
  have hbu : BS (fun k => ¬ Fe k ∧ k ≠ be) we u2 twoK := (hre.2 1 (by simp) (by simp)).mono fun k _ h => h.2
  have hvu : Vals (fun k => ¬ Fe k ∧ k ≠ be) we (.slice Aoe 2 coe) [u1, u2] := hve.mono fun k _ h => h.2
  obtain ⟨Au, cu, rfl⟩ := hbu.len
  rw [List.length_replicate] at he
  change LD w2 we be q Fe Re [oneK, twoK] 2 ⟨100000, false, standL [oneK, twoK] 15, standL [oneK, twoK] 15, []⟩ at he
  have hmk : ∀ W, (Instr.makeSlice 22 (.int .i64 16385) (.int .i64 16385)).run Tryd.prog W = .ok (.slice (some ⟨W.heap.size, 0, none⟩) 16385 16385) (W.alloc (.cells (madeCells #[.int .u8 0] 16385) 5)) := fun W => make_bytes byteT 16385 (by decide) W
  clear hle hve hre dd md se hbe
  go_wp2_with fail
  have kf : Kp NoB we (we.alloc (.cells (madeCells #[.int .u8 0] 16385) 5)) := (Kp.refl _ _).alloc _
  have of_ := (Own.made 5 we 16385 (by decide)).bs.mono (T := Out Fe (we.alloc (.cells (madeCells #[.int .u8 0] 16385) 5))) fun k hk h => ⟨hk, fun hf => by have h1 := he.dsk.lt k hf; have h2 := h.1; omega⟩
  refine (ld_refuse (he.nob kf) (List.replicate 16385 0) _ of_ 3 (by unfold appE; rw [if_pos (by rw [List.length_replicate]; decide)]) (by decide) (by decide)).mono ?_
  rintro e wf ⟨rfl, Ff, Rf, hf, sf⟩
  have hvu := (hvu.nob kf).lstep sf
  have hbu := (hbu.nob kf).lstep sf
  clear he kf of_ sf hmk
  have hmk : ∀ W, (Instr.makeSlice 22 (.int .i64 16384) (.int .i64 16384)).run Tryd.prog W = .ok (.slice (some ⟨W.heap.size, 0, none⟩) 16384 16384) (W.alloc (.cells (madeCells #[.int .u8 0] 16384) 5)) := fun W => make_bytes byteT 16384 (by decide) W
  go_wp2_with fail
  have kg : Kp NoB wf (wf.alloc (.cells (madeCells #[.int .u8 0] 16384) 5)) := (Kp.refl _ _).alloc _
  have og := (Own.made 5 wf 16384 (by decide)).bs.mono (T := Out Ff (wf.alloc (.cells (madeCells #[.int .u8 0] 16384) 5))) fun k hk h => ⟨hk, fun hx => by have h1 := hf.dsk.lt k hx; have h2 := h.1; omega⟩
  obtain ⟨Z, hZ, hZl⟩ : ∃ Z, Z = List.replicate 16384 (0 : UInt8) ∧ Z.length = 16384 := ⟨_, rfl, List.length_replicate⟩
  rw [← hZ] at og
  have hq2 : lenC [oneK, twoK] = 26 := by unfold lenC; rw [chainB_length]; decide
  have hokg : appE ⟨100000, false, standL [oneK, twoK] 15, standL [oneK, twoK] 15, []⟩ [oneK, twoK] Z = 0 := appE_ok _ [oneK, twoK] 15 Z (by omega) rfl rfl (by rw [hq2, hZl]; decide)
  refine (ld_append (hf.nob kg) Z _ og hokg (by decide)).mono ?_
  rintro e wg ⟨rfl, Fg, Rg, hg, sg⟩
  rw [appD_is _ [oneK, twoK] 15 Z rfl hokg] at hg
  have hvu := (hvu.nob kg).lstep sg
  have hbu := (hbu.nob kg).lstep sg
  clear hf kg og sg hmk hZ hokg
  have HZL := Lib.hid hZl
  clear hZl
  go_wp2_with fail
  have hz5 : lenC ([oneK, twoK] ++ [Z]) = 16420 := by rw [lenC_snoc, HZL.out, hq2]
  have hokh : appE ⟨100000, false, standL [oneK, twoK] 15, standL ([oneK, twoK] ++ [Z]) (15 - (10 + Z.length)), [] ++ [(lenC [oneK, twoK], sealN (chainS 0 1 [oneK, twoK]) ([oneK, twoK].length + 1) Z)]⟩ ([oneK, twoK] ++ [Z]) [] = 0 := appE_ok _ _ _ [] (by decide) rfl rfl (by rw [hz5]; show 16420 + (10 + 0) ≤ 100000; decide)
  refine (ld_append hg [] (.slice none 0 0) (BS.nil _ _) hokh (show 1 ≤ 1000000 by decide)).mono ?_
  rintro e wh ⟨rfl, Fh, Rh, hh, sh⟩
  have hvu := hvu.lstep sh
  have hbu := (hbu.lstep sh).all
  have hz6 : lenC ([oneK, twoK] ++ [Z] ++ [[]]) = 16430 := by rw [lenC_snoc, hz5]; rfl
  have hn6 : ([oneK, twoK] ++ [Z] ++ [[]]).length + 1 = 5 := rfl
  have hsz := lsize_calls hh.log
  have hsu := lsure_calls hh.log
  have hnx := lnext_calls hh.log
  rw [hz6] at hsz
  rw [hn6] at hnx
  obtain ⟨gb, go, rfl, hcu⟩ := hvu.at_ 1 (by simp)
  have KH := Lib.hid hh.made.kp
  have HSZ := Lib.hid hsz
  have HSU := Lib.hid hsu
  have HNX := Lib.hid hnx
  have TH := Lib.hid (hh.made.tab T2.out)
  clear hg sh hh hvu hz5 hz6 hn6 hq2 hokh hsz hsu hnx kc
  go_wp2_with (first
    | ((with_reducible refine gate_dst (N := 175) rfl ?_); go_must (refine gate_guard (by rfl) ?_; refine wp_string byteT rfl _ 9 Tryd.underlying9 rfl AllB _ _ rfl hbu ?_))
    | fail)
  refine HNX.out.mono ?_
  rintro e wz ⟨rfl, rfl⟩
  go_wp2_with fail
  refine HSU.out.mono ?_
  rintro e wz ⟨rfl, rfl⟩
  go_wp2_with fail
  refine HSZ.out.mono ?_
  rintro e wz ⟨rfl, rfl⟩
  go_wp2_with fail
  refine (lwakes_calls wh TH.out).mono ?_
  rintro e wi ⟨rfl, ki⟩
  go_wp2_with fail
  go_ret
  exact ⟨rfl, K2.out.trans (KH.out.trans ki)⟩
end Go.Proofs.YtgjaggnpheoehaaDoor
