/- The walk of the law LogAgain. -/
import Derived.Test.YtgjaggnpheoehaaDoorLogE
set_option linter.unusedVariables false
set_option linter.unusedSimpArgs false
namespace Go.Proofs.YtgjaggnpheoehaaDoor
open Go.RowKit

theorem lenC_le (ps : List (List UInt8)) (h : ∀ p ∈ ps, p.length ≤ 60) : lenC ps ≤ 70 * ps.length := by
  unfold lenC
  rw [chainB_length]
  have : ps.flatten.length ≤ 60 * ps.length := by
    induction ps with
    | nil => simp
    | cons p ps ih =>
      have := h p (by simp)
      have := ih fun x hx => h x (by simp [hx])
      simp only [List.flatten_cons, List.length_append, List.length_cons]
      omega
  omega
/-- What is read of a disk cut short in its last frame. -/
theorem crash_parse (P : List (List UInt8)) (hP : ∀ p ∈ P, p.length ≤ 16384) (M : List UInt8) (hM : M.length ≤ 16384) (k : Nat) :
    ∃ ps rest, Parse (chainB 0 1 P ++ (sealN (chainS 0 1 P) (P.length + 1) M).take k) ps rest ∧ ps.take P.length = P ∧ P.length ≤ ps.length ∧ ps.length ≤ P.length + 1 ∧ rest.length ≤ 10 + M.length := by
  by_cases hk : k < 10 + M.length
  · exact ⟨P, _, parse_torn P hP M hM k hk, by simp, Nat.le_refl _, by omega, by simp; omega⟩
  · have hl := length_sealN (chainS 0 1 P) (P.length + 1) M
    rw [List.take_of_length_le (by omega), ← chainB_snoc]
    refine ⟨P ++ [M], [], ⟨by simp, fun p hp => ?_, open_nil _ _⟩, by simp, by simp, by simp, by simp⟩
    rcases List.mem_append.1 hp with hp | hp
    · exact hP p hp
    · rw [List.mem_singleton.1 hp]; exact hM

set_option maxRecDepth 100000 in
set_option maxHeartbeats 16000000 in
theorem logAgain_walk (us : List Value) (ls : List (List UInt8)) (vl vm : Value) (lm : List UInt8) (kp : Int) (w : World) (hT : TabOk w) (hv : Vals AllB w vl us) (hr : RS AllB w us ls) (hkp : -9223372036854775808 ≤ kp ∧ kp ≤ 9223372036854775807) (hm : BS AllB w vm lm) :
    Calls Tryd.prog 8 #[vl, .int .i64 kp, vm] w fun e w' => e = .returned (.bool true) ∧ Kp NoB w w' := by
  obtain ⟨km, vm', hm1, hs1, hm'⟩ := BS.clip byteT hm 60 60 rfl
  have hml : (lm.take 60).length ≤ 60 := by simp; omega
  obtain ⟨Am, cm, rfl⟩ := hm.len
  obtain ⟨Al, cl, rfl⟩ := hv.len
  have hul := hr.1
  obtain ⟨P, hP⟩ : ∃ P, P = (ls.map (·.take 60)).take 20 := ⟨_, rfl⟩
  have hPl : P.length = min 20 us.length := by rw [hP, hul]; simp
  have hP60 : ∀ p ∈ P, p.length ≤ 60 := fun p hp => by
    rw [hP] at hp
    obtain ⟨x, hx, rfl⟩ := List.mem_map.1 (List.mem_of_mem_take hp)
    simp; omega
  have hPk : ∀ (k : Nat) (h : k < P.length) (h' : k < ls.length), P[k] = (ls[k]).take 60 := fun k h h' => by subst hP; simp
  have hP16 : ∀ p ∈ P, p.length ≤ 16384 := fun p hp => Nat.le_trans (hP60 p hp) (by decide)
  have hlenP := lenC_le P hP60
  have hPm : P.length ≤ 20 := by omega
  have HV := Lib.hid hv
  have HR := Lib.hid hr
  have HUL := Lib.hid hul
  have HPL := Lib.hid hPl
  have HP6 := Lib.hid hP60
  have HPK := Lib.hid hPk
  have HP16 := Lib.hid hP16
  have HT := Lib.hid hT
  have HM' := Lib.hid hm'
  generalize lm.take 60 = M at *
  obtain ⟨Aq, cq, rfl⟩ := hm'.len
  have HM1 := Lib.hid hm1
  have HS1 := Lib.hid hs1
  clear hv hr hul hPl hP60 hPk hP16 hT hm' hP hm hm1 hs1
  go_enter Tryd.func8, Tryd.ntmps8
  go_wp2_with fail
  refine (new_calls 4000 (by decide) w).mono ?_
  rintro e w1 ⟨p, rfl, d1, k1⟩
  obtain ⟨q, rfl⟩ := d1.ptr
  have m1 : Made w (fun k => k = w.heap.size) w1 := ⟨k1, fun k h => by omega⟩
  generalize (fun k => k = w.heap.size) = F1 at *
  clear k1
  go_wp2_with fail
  refine (ld_recover d1 m1 HT.out (by decide) parse_none rfl (by decide)).mono ?_
  rintro e w2 ⟨F2, R2, b, vo, us2, rfl, s2, hb2, h2, hv2, hr2⟩
  obtain ⟨Ao, co, rfl⟩ := hv2.len
  have hb0 := h2.bn
  change LD w w2 b q F2 R2 [] 0 ⟨4000, false, standL [] 0, standL [] 0, []⟩ at h2
  have H2 := Lib.hid h2
  clear hv2 hr2 d1 m1 s2 hb2 h2
  go_wp2_with fail
  go_loopw [12, 41] (fun va i wr => ∃ (k : Nat) (F R : Nat → Prop) (ks : List Value) (Wt : List (Nat × List UInt8)), k ≤ P.length ∧ i = .int .i64 (k : Int) ∧ LD w wr b q F R (P.take k) 0 ⟨4000, false, standL [] 0, standL (P.take k) 0, Wt⟩ ∧ Wt.length = k ∧ Own1 22 wr w.heap.size va ks ∧ Apart b F R va ∧ RS (fun i => i < w.heap.size) w ks (P.take k)) (fun _ i _ => us.length - (intOf i).toNat)
  case atStart => exact ⟨0, F2, R2, [], [], Nat.zero_le _, rfl, H2.out, rfl, Own1.nil _ _ _, Apart.nil _ _ _, RS.nil _ _⟩
  case round =>
    obtain ⟨k, F, R, ks, Wt, hk, rfl, hld, hwt, hown, hap, hrs⟩ := hrel
    clear H2
    by_cases hlt : k < P.length
    · have hkl : k < us.length := by have := HPL.out; omega
      have hk20 : ((k : Int) == 20) = false := by simp; omega
      obtain ⟨g, off, rfl, hc⟩ := (HV.out.nob hld.made.kp).at_ k hkl
      have hkl2 : k < ls.length := by have := HUL.out; omega
      have hbk := (HR.out.2 k hkl hkl2).lt
      generalize us[k] = uk at *
      obtain ⟨kq, vq, hq1, hq2, hq⟩ := BS.clip byteT hbk 60 60 rfl
      rw [← HPK.out k hlt hkl2] at hq
      obtain ⟨Ak, ck, rfl⟩ := hbk.len
      have hle := HP6.out P[k] (List.getElem_mem hlt)
      have htk := take_snoc P k hlt
      have htl : (P.take k).length = k := by simp; omega
      have hlc : lenC (P.take k) + (10 + P[k].length) ≤ 4000 := by
        have := lenC_le (P.take (k + 1)) fun p hp => HP6.out p (List.mem_of_mem_take hp)
        rw [htk, lenC_snoc] at this
        simp only [List.length_append, List.length_cons, List.length_nil, htl] at this
        omega
      generalize P[k] = pk at *
      obtain ⟨Aq2, cq2, rfl⟩ := hq.len
      have hE : appE ⟨4000, false, standL [] 0, standL (P.take k) 0, Wt⟩ (P.take k) pk = 0 := appE_ok _ (P.take k) 0 pk (by omega) rfl rfl hlc
      have hD := appD_is ⟨4000, false, standL [] 0, standL (P.take k) 0, Wt⟩ (P.take k) 0 pk rfl hE
      rw [← htk] at hD
      generalize hPk' : P.take k = Pk at *
      generalize hPn : P.take (k + 1) = Pn at *
      have HD := Lib.hid hD
      have HE := Lib.hid hE
      have HLD := Lib.hid hld
      have HOWN := Lib.hid hown
      have HAP := Lib.hid hap
      have HRS := Lib.hid hrs
      have HQ := Lib.hid hq
      have HTK := Lib.hid htk
      have HTL := Lib.hid htl
      have HWT := Lib.hid hwt
      have HPN := Lib.hid hPn
      clear hD hE hld hown hap hrs hq htk htl hlc hbk hwt hPk' hPn
      go_wp2_with fail
      refine (ld_append HLD.out pk _ (HLD.out.made.old (HQ.out.mono fun _ _ _ => trivial)) HE.out (show Wt.length ≤ 1000000 by rw [HWT.out]; omega)).mono ?_
      rintro e w3 ⟨rfl, F3, R3, h3, s3⟩
      rw [HTL.out]
      rw [HD.out, ← HTK.out, Nat.zero_sub] at h3
      have own3 := HOWN.out.lstep HAP.out s3
      have ap3 := HAP.out.lstep HOWN.out s3
      have hkl := HRS.out.1
      have hkl3 : ks.length ≤ 20 := by rw [hkl, HTL.out]; omega
      obtain ⟨Ay, cy, rfl⟩ := own3.vals.len
      have H3 := Lib.hid h3
      have OWN3 := Lib.hid own3
      have AP3 := Lib.hid ap3
      clear hkl h3 own3 ap3 s3 HE HD HOWN HAP HLD
      go_wp2_with (first
        | ((with_reducible refine gate_dst (N := 71) rfl ?_); go_must (refine wp_pushL (w0 := w) rfl _ _ rfl _ _ ks _ 0 _ rfl rfl (OWN3.out.nob ((Kp.refl _ _).alloc _)) AP3.out (fun i hi => Nat.lt_of_lt_of_le (H3.out.lt i hi) ((Kp.refl NoB w3).alloc _).size) (Nat.le_trans H3.out.made.kp.size ((Kp.refl NoB w3).alloc _).size) (cell_new1 _ _ _ _) rfl (by omega) ?_); intro v4 w4 own4 ap4 k4)
        | fail)
      have h4 := (H3.out.nob ((Kp.refl NoB w3).alloc (.cells #[.slice Aq2 pk.length cq2] 22))).grow k4 fun i hi => ⟨(OWN3.out.lt i hi).1, (AP3.out i hi).1, (AP3.out i hi).2.1, (AP3.out i hi).2.2⟩
      have hrs4 := HRS.out.snoc HQ.out
      rw [← HTK.out] at hrs4
      have H4 := Lib.hid h4
      have OWN4 := Lib.hid own4
      have AP4 := Lib.hid ap4
      have RS4 := Lib.hid hrs4
      clear h4 own4 ap4 k4 hrs4 H3 OWN3 AP3 HTK
      go_roundw
      case measure => simp [intOf]; omega
      case rel =>
        refine ⟨k + 1, F3, R3, _, Wt ++ [(lenC Pk, sealN (chainS 0 1 Pk) (Pk.length + 1) pk)], by omega, by go_num, ?_, ?_, OWN4.out, AP4.out, ?_⟩
        · rw [HPN.out]; exact H4.out
        · rw [List.length_append, HWT.out]; rfl
        · rw [HPN.out]; exact RS4.out
    · obtain rfl : k = P.length := by omega
      rw [List.take_length] at hld hrs
      have hwt2 : Wt.length ≤ 20 := by omega
      have hkl := hrs.1
      obtain ⟨Ay, cy, rfl⟩ := hown.vals.len
      rw [hkl] at hown hap
      have HLD := Lib.hid hld
      have HOWN := Lib.hid hown
      have HAP := Lib.hid hap
      have HRS := Lib.hid hrs
      have HKL := Lib.hid hkl
      rw [hkl]
      clear hld hown hap hrs hwt hkl hlt
      have hcase : P.length = us.length ∨ (P.length = 20 ∧ 20 < us.length) := by have := HPL.out; omega
      have HPL2 := HPL.out
      rcases hcase with hcs | ⟨hcs, hcs2⟩
      · have hh : ¬ ((P.length : Int) < (us.length : Int)) := by omega
        clear hcs HPL2
        go_wp2_with fail
        refine (copy_calls HLD.out.dsk (show Wt.length ≤ 1000000 by omega)).mono ?_
        rintro e w5 ⟨p5, rfl, d5, k5⟩
        obtain ⟨q5, rfl⟩ := d5.ptr
        have hld0 := HLD.out.lt
        have h5 := HLD.out.nob k5
        have own5 := HOWN.out.nob k5
        obtain ⟨F5, hF5⟩ : ∃ F5 : Nat → Prop, F5 = fun k => wr.heap.size ≤ k ∧ k < w5.heap.size := ⟨_, rfl⟩
        rw [← hF5] at d5
        have hF5' : ∀ i, F5 i → wr.heap.size ≤ i := fun i hi => by rw [hF5] at hi; exact hi.1
        have hwr := HLD.out.made.kp.size
        have m5 : Made w F5 w5 := ⟨h5.made.kp, fun i hi => Nat.le_trans hwr (hF5' i hi)⟩
        have hPf : lenC P ≤ 4000 := by omega
        have H5 := Lib.hid h5
        have OWN5 := Lib.hid own5
        have HX : Hid (∀ i, F5 i → w.heap.size ≤ i ∧ ¬ F i ∧ ¬ R i ∧ i ≠ b) := Lib.hid fun i hi => ⟨Nat.le_trans hwr (hF5' i hi), fun hf => by have := hld0 i (.inl hf); have := hF5' i hi; omega, fun hf => by have := hld0 i (.inr (.inl hf)); have := hF5' i hi; omega, fun hf => by have := hld0 i (.inr (.inr hf)); have := hF5' i hi; omega⟩
        have HXO : Hid (∀ g, (Value.slice Ay P.length cy).ownBlock = some g → ¬ F5 g) := Lib.hid fun g hg hf => by have := (HOWN.out.lt g hg).2; have := hF5' g hf; omega
        clear hF5 hF5' k5 h5 own5 HLD
        go_wp2_with fail
        refine (ld_recover d5 m5 HT.out (Nat.le_trans hwt2 (by decide)) (stand_parse P 0 HP16.out) rfl (by rw [standL_length]; show lenC P + 0 ≤ 4000; omega)).mono ?_
        rintro e w6 ⟨F6, R6, b6, vo6, us6, rfl, s6, hb6, h6, hv6, hr6⟩
        have hl6 := hr6.1
        obtain ⟨Ay6, cy6, rfl⟩ := hv6.len
        have h6x := H5.out.grow s6.kp HX.out
        have own6 := OWN5.out.kp s6.kp fun g _ hg hf => HXO.out g hg hf
        have sm6 := same_yes P us6 ks _ _ w6 hv6.all (own6.vals.all) hr6.all ((HRS.out.kp h6x.made.kp fun _ _ _ => id).all)
        have y6 := lsize_calls h6.log
        have x6 := lsize_calls h6x.log
        have z6 := lsure_calls h6.log
        rw [hl6] at sm6 ⊢
        have SM6 := Lib.hid sm6
        have Y6 := Lib.hid y6
        have X6 := Lib.hid x6
        have Z6 := Lib.hid z6
        have H6 := Lib.hid h6x
        have OWN6 := Lib.hid own6
        clear d5 m5 s6 hb6 h6 hv6 hr6 h6x own6 sm6 y6 x6 z6 hl6 H5 OWN5 HX HXO
        go_wp2_with fail
        refine SM6.out.mono ?_
        rintro e wz ⟨rfl, rfl⟩
        go_wp2_with fail
        refine Y6.out.mono ?_
        rintro e wz ⟨rfl, rfl⟩
        go_wp2_with fail
        refine X6.out.mono ?_
        rintro e wz ⟨rfl, rfl⟩
        go_wp2_with fail
        refine Z6.out.mono ?_
        rintro e wz ⟨rfl, rfl⟩
        clear SM6 Y6 X6 Z6
        go_wp2_with fail
        refine (ld_sync H6.out).mono ?_
        rintro e w7 ⟨rfl, F7, R7, h7, s7⟩
        change LD w w7 b q F7 R7 P P.length ⟨4000, false, standL P 0, standL P 0, []⟩ at h7
        have own7 := OWN6.out.lstep HAP.out s7
        have ap7 := HAP.out.lstep OWN6.out s7
        have hE7 : appE ⟨4000, false, standL P 0, standL P 0, []⟩ P M = 0 := appE_ok _ P 0 M (by omega) rfl rfl (by show lenC P + (10 + M.length) ≤ 4000; omega)
        have hD7 := appD_is ⟨4000, false, standL P 0, standL P 0, []⟩ P 0 M rfl hE7
        have H7 := Lib.hid h7
        have OWN7 := Lib.hid own7
        have AP7 := Lib.hid ap7
        have E7 := Lib.hid hE7
        have D7 := Lib.hid hD7
        have hm1 := HM1.out
        have hs1 := HS1.out
        clear h7 own7 ap7 hE7 hD7 s7 H6 OWN6 HAP
        go_wp2_with fail
        refine (ld_append H7.out M _ (H7.out.made.old HM'.out) E7.out (show 0 ≤ 1000000 by decide)).mono ?_
        rintro e w8 ⟨rfl, F8, R8, h8, s8⟩
        rw [D7.out] at h8
        have own8 := OWN7.out.lstep AP7.out s8
        have ap8 := AP7.out.lstep OWN7.out s8
        have H8 := Lib.hid h8
        have OWN8 := Lib.hid own8
        have AP8 := Lib.hid ap8
        clear h8 own8 ap8 s8 H7 OWN7 AP7 E7 D7 hm1 hs1
        go_wp2_with fail
        refine (crashL_calls H8.out.dsk [kp] 1 _ rfl rfl (show 1 ≤ 1000000 by decide) (by intro x hx; rw [List.mem_singleton.1 hx]; exact hkp) (by show 1 ≤ 1000000; decide)).mono ?_
        rintro e w9 ⟨rfl, F9, R9, d9, s9⟩
        have m9 := H8.out.made.step s9
        have ls9 : LStep b F8 R8 w8 w9 F9 R9 := LStep.of_step s9
        have own9 := OWN8.out.lstep AP8.out ls9
        have ap9 := AP8.out.lstep OWN8.out ls9
        simp only [List.nil_append, crash_one] at d9
        obtain ⟨Q, rest, hpq, hQ1, hQ2, hQ3, hQ4⟩ := crash_parse P HP16.out M (by omega) kp.toNat
        have hsq : (chainB 0 1 P ++ (sealN (chainS 0 1 P) (P.length + 1) M).take kp.toNat).length ≤ 4000 := by
          rw [List.length_append, List.length_take, length_sealN]
          show lenC P + _ ≤ 4000
          omega
        have hQle := hpq.le
        have hQL : lenC Q + rest.length ≤ 4000 := by
          have h5 : (chainB 0 1 Q ++ rest).length ≤ 4000 := hpq.eq ▸ hsq
          rw [List.length_append] at h5
          exact h5
        have OWN9 := Lib.hid own9
        have AP9 := Lib.hid ap9
        clear own9 ap9 ls9 s9 H8 OWN8 AP8
        go_wp2_with fail
        refine (ld_recover d9 m9 HT.out (by show 0 ≤ 1000000; decide) hpq rfl hsq).mono ?_
        rintro e wa ⟨Fa, Ra, ba, voa, usa, rfl, sa, hba, ha, hva, hra⟩
        have hla := hra.1
        obtain ⟨Aya, cya, rfl⟩ := hva.len
        have owna := OWN9.out.kp sa.kp fun g _ hg => (AP9.out g hg).1
        obtain ⟨hcut, hvc⟩ := hva.cut0 P.length (by rw [hla]; exact hQ2)
        have hrc := hra.take P.length
        rw [hQ1] at hrc
        have sma := same_yes P (usa.take P.length) ks _ _ wa hvc.all owna.vals.all hrc.all ((HRS.out.kp ha.made.kp fun _ _ _ => id).all)
        have xa := lsize_calls ha.log
        rw [hla] at hcut hva ⊢
        have hra1 := read_calls ha.dsk (lenC Q : Nat) 4000 (by decide) (by decide) (by omega)
        rw [read_zeros] at hra1
        have hzl : (List.replicate (min 4000 rest.length) (0 : UInt8)).length ≤ 4000 := by simp; omega
        have hz0 : ∀ j (h : j < (List.replicate (min 4000 rest.length) (0 : UInt8)).length), (List.replicate (min 4000 rest.length) (0 : UInt8))[j] = 0 := fun j h => by simp
        generalize List.replicate (min 4000 rest.length) (0 : UInt8) = Z at *
        have hra2 : BS (fun k => ¬ Fa k ∧ k ≠ ba) wa (.slice none 0 0) [] := BS.nil _ _
        have HVA := Lib.hid (hva.mono (T := fun k => ¬ Fa k ∧ k ≠ ba) fun _ _ h => h.2)
        have HRA := Lib.hid (hra.mono (T := fun k => ¬ Fa k ∧ k ≠ ba) fun _ _ h => h.2)
        have HA := Lib.hid ha
        have SMA := Lib.hid sma
        have XA := Lib.hid xa
        have RA1 := Lib.hid hra1
        have HLA := Lib.hid hla
        have HZ0 := Lib.hid hz0
        clear d9 m9 sa hba ha hva hra owna hvc hrc sma xa hra1 hra2 hQ1 hpq OWN9 AP9 hla hsq hz0
        go_wp2_with fail
        refine SMA.out.mono ?_
        rintro e wz ⟨rfl, rfl⟩
        clear hcut SMA
        go_wp2_with fail
        refine XA.out.mono ?_
        rintro e wz ⟨rfl, rfl⟩
        go_wp2_with fail
        refine RA1.out.mono ?_
        rintro e wb ⟨vb, rfl, ob, kb⟩
        have bb := ob.bs.all
        obtain ⟨Ab, cb, rfl⟩ := bb.len
        have HBB := Lib.hid bb
        have HB := Lib.hid (HA.out.nob kb)
        have HVB := Lib.hid (HVA.out.nob kb)
        have HRB := Lib.hid (HRA.out.nob kb)
        clear ob kb bb RA1 XA HA HVA HRA
        go_wp2_with fail
        go_loopw [147] (fun i wq => ∃ j : Nat, j ≤ Z.length ∧ i = .int .i64 (j : Int) ∧ wb = wq) (fun i _ => Z.length - (intOf i).toNat)
        case atStart => exact ⟨0, Nat.zero_le _, rfl, rfl⟩
        case round =>
          obtain ⟨j, hj, rfl, hwq⟩ := hrel
          rw [← hwq]
          clear hwq
          by_cases hjl : j < Z.length
          · obtain ⟨gz, oz, cz, hvz, _, hcz⟩ := HBB.out.pos Z.length rfl (by omega)
            injection hvz with e1 e2 e3
            subst e1
            have hcj := hcz j hjl
            rw [HZ0.out j hjl] at hcj
            replace hcj : wb.cell? ⟨gz, oz + j, none⟩ = some (.int .u8 0) := hcj
            clear hcz
            go_wp2_with fail
            go_roundw
            case measure => simp [intOf]; omega
            case rel => exact ⟨j + 1, by omega, by go_num, by trivial⟩
          · obtain rfl : j = Z.length := by omega
            go_wp2_with fail
            refine (ld_recover HB.out.dsk HB.out.made HT.out (by show 0 ≤ 1000000; decide) (stand_parse Q rest.length hQle) rfl (by rw [standL_length]; show lenC Q + rest.length ≤ 4000; omega)).mono ?_
            rintro e wc ⟨Fc, Rc, bc, voc, usc, rfl, sc, hbc, hc, hvc, hrc⟩
            have hlc := hrc.1
            obtain ⟨Ayc, cyc, rfl⟩ := hvc.len
            have hvb := HVB.out.kp sc.kp fun _ _ hi hf => hi.1 hf
            have hrb := HRB.out.kp sc.kp fun _ _ hi hf => hi.1 hf
            have smc := same_yes Q usa usc _ _ wc hvb.all hvc.all hrb.all hrc.all
            have wtc := waits_calls hc.dsk
            rw [hlc] at smc ⊢
            have SMC := Lib.hid smc
            have WTC := Lib.hid wtc
            have KC := Lib.hid hc.made.kp
            clear hvb hrb smc wtc sc hbc hc hvc hrc hlc HB HVB HRB HBB
            go_wp2_with fail
            refine SMC.out.mono ?_
            rintro e wz ⟨rfl, rfl⟩
            go_wp2_with fail
            refine WTC.out.mono ?_
            rintro e wz ⟨rfl, rfl⟩
            go_wp2_with fail
            refine (lwakes_calls wc (HT.out.nob KC.out)).mono ?_
            rintro e wd ⟨rfl, kd⟩
            go_wp2_with fail
            go_ret
            exact ⟨rfl, KC.out.trans kd⟩
      · have hh : ((P.length : Int) < (us.length : Int)) := by omega
        have h20 : ((P.length : Int) == 20) = true := by simp; omega
        have hlt3 : P.length < us.length := by omega
        obtain ⟨g, off, rfl, hc⟩ := (HV.out.nob HLD.out.made.kp).at_ P.length hlt3
        clear hcs hcs2 HPL2
        go_wp2_with fail
        refine (copy_calls HLD.out.dsk (show Wt.length ≤ 1000000 by omega)).mono ?_
        rintro e w5 ⟨p5, rfl, d5, k5⟩
        obtain ⟨q5, rfl⟩ := d5.ptr
        have hld0 := HLD.out.lt
        have h5 := HLD.out.nob k5
        have own5 := HOWN.out.nob k5
        obtain ⟨F5, hF5⟩ : ∃ F5 : Nat → Prop, F5 = fun k => wr.heap.size ≤ k ∧ k < w5.heap.size := ⟨_, rfl⟩
        rw [← hF5] at d5
        have hF5' : ∀ i, F5 i → wr.heap.size ≤ i := fun i hi => by rw [hF5] at hi; exact hi.1
        have hwr := HLD.out.made.kp.size
        have m5 : Made w F5 w5 := ⟨h5.made.kp, fun i hi => Nat.le_trans hwr (hF5' i hi)⟩
        have hPf : lenC P ≤ 4000 := by omega
        have H5 := Lib.hid h5
        have OWN5 := Lib.hid own5
        have HX : Hid (∀ i, F5 i → w.heap.size ≤ i ∧ ¬ F i ∧ ¬ R i ∧ i ≠ b) := Lib.hid fun i hi => ⟨Nat.le_trans hwr (hF5' i hi), fun hf => by have := hld0 i (.inl hf); have := hF5' i hi; omega, fun hf => by have := hld0 i (.inr (.inl hf)); have := hF5' i hi; omega, fun hf => by have := hld0 i (.inr (.inr hf)); have := hF5' i hi; omega⟩
        have HXO : Hid (∀ g, (Value.slice Ay P.length cy).ownBlock = some g → ¬ F5 g) := Lib.hid fun g hg hf => by have := (HOWN.out.lt g hg).2; have := hF5' g hf; omega
        clear hF5 hF5' k5 h5 own5 HLD
        go_wp2_with fail
        refine (ld_recover d5 m5 HT.out (Nat.le_trans hwt2 (by decide)) (stand_parse P 0 HP16.out) rfl (by rw [standL_length]; show lenC P + 0 ≤ 4000; omega)).mono ?_
        rintro e w6 ⟨F6, R6, b6, vo6, us6, rfl, s6, hb6, h6, hv6, hr6⟩
        have hl6 := hr6.1
        obtain ⟨Ay6, cy6, rfl⟩ := hv6.len
        have h6x := H5.out.grow s6.kp HX.out
        have own6 := OWN5.out.kp s6.kp fun g _ hg hf => HXO.out g hg hf
        have sm6 := same_yes P us6 ks _ _ w6 hv6.all (own6.vals.all) hr6.all ((HRS.out.kp h6x.made.kp fun _ _ _ => id).all)
        have y6 := lsize_calls h6.log
        have x6 := lsize_calls h6x.log
        have z6 := lsure_calls h6.log
        rw [hl6] at sm6 ⊢
        have SM6 := Lib.hid sm6
        have Y6 := Lib.hid y6
        have X6 := Lib.hid x6
        have Z6 := Lib.hid z6
        have H6 := Lib.hid h6x
        have OWN6 := Lib.hid own6
        clear d5 m5 s6 hb6 h6 hv6 hr6 h6x own6 sm6 y6 x6 z6 hl6 H5 OWN5 HX HXO
        go_wp2_with fail
        refine SM6.out.mono ?_
        rintro e wz ⟨rfl, rfl⟩
        go_wp2_with fail
        refine Y6.out.mono ?_
        rintro e wz ⟨rfl, rfl⟩
        go_wp2_with fail
        refine X6.out.mono ?_
        rintro e wz ⟨rfl, rfl⟩
        go_wp2_with fail
        refine Z6.out.mono ?_
        rintro e wz ⟨rfl, rfl⟩
        clear SM6 Y6 X6 Z6
        go_wp2_with fail
        refine (ld_sync H6.out).mono ?_
        rintro e w7 ⟨rfl, F7, R7, h7, s7⟩
        change LD w w7 b q F7 R7 P P.length ⟨4000, false, standL P 0, standL P 0, []⟩ at h7
        have own7 := OWN6.out.lstep HAP.out s7
        have ap7 := HAP.out.lstep OWN6.out s7
        have hE7 : appE ⟨4000, false, standL P 0, standL P 0, []⟩ P M = 0 := appE_ok _ P 0 M (by omega) rfl rfl (by show lenC P + (10 + M.length) ≤ 4000; omega)
        have hD7 := appD_is ⟨4000, false, standL P 0, standL P 0, []⟩ P 0 M rfl hE7
        have H7 := Lib.hid h7
        have OWN7 := Lib.hid own7
        have AP7 := Lib.hid ap7
        have E7 := Lib.hid hE7
        have D7 := Lib.hid hD7
        have hm1 := HM1.out
        have hs1 := HS1.out
        clear h7 own7 ap7 hE7 hD7 s7 H6 OWN6 HAP
        go_wp2_with fail
        refine (ld_append H7.out M _ (H7.out.made.old HM'.out) E7.out (show 0 ≤ 1000000 by decide)).mono ?_
        rintro e w8 ⟨rfl, F8, R8, h8, s8⟩
        rw [D7.out] at h8
        have own8 := OWN7.out.lstep AP7.out s8
        have ap8 := AP7.out.lstep OWN7.out s8
        have H8 := Lib.hid h8
        have OWN8 := Lib.hid own8
        have AP8 := Lib.hid ap8
        clear h8 own8 ap8 s8 H7 OWN7 AP7 E7 D7 hm1 hs1
        go_wp2_with fail
        refine (crashL_calls H8.out.dsk [kp] 1 _ rfl rfl (show 1 ≤ 1000000 by decide) (by intro x hx; rw [List.mem_singleton.1 hx]; exact hkp) (by show 1 ≤ 1000000; decide)).mono ?_
        rintro e w9 ⟨rfl, F9, R9, d9, s9⟩
        have m9 := H8.out.made.step s9
        have ls9 : LStep b F8 R8 w8 w9 F9 R9 := LStep.of_step s9
        have own9 := OWN8.out.lstep AP8.out ls9
        have ap9 := AP8.out.lstep OWN8.out ls9
        simp only [List.nil_append, crash_one] at d9
        obtain ⟨Q, rest, hpq, hQ1, hQ2, hQ3, hQ4⟩ := crash_parse P HP16.out M (by omega) kp.toNat
        have hsq : (chainB 0 1 P ++ (sealN (chainS 0 1 P) (P.length + 1) M).take kp.toNat).length ≤ 4000 := by
          rw [List.length_append, List.length_take, length_sealN]
          show lenC P + _ ≤ 4000
          omega
        have hQle := hpq.le
        have hQL : lenC Q + rest.length ≤ 4000 := by
          have h5 : (chainB 0 1 Q ++ rest).length ≤ 4000 := hpq.eq ▸ hsq
          rw [List.length_append] at h5
          exact h5
        have OWN9 := Lib.hid own9
        have AP9 := Lib.hid ap9
        clear own9 ap9 ls9 s9 H8 OWN8 AP8
        go_wp2_with fail
        refine (ld_recover d9 m9 HT.out (by show 0 ≤ 1000000; decide) hpq rfl hsq).mono ?_
        rintro e wa ⟨Fa, Ra, ba, voa, usa, rfl, sa, hba, ha, hva, hra⟩
        have hla := hra.1
        obtain ⟨Aya, cya, rfl⟩ := hva.len
        have owna := OWN9.out.kp sa.kp fun g _ hg => (AP9.out g hg).1
        obtain ⟨hcut, hvc⟩ := hva.cut0 P.length (by rw [hla]; exact hQ2)
        have hrc := hra.take P.length
        rw [hQ1] at hrc
        have sma := same_yes P (usa.take P.length) ks _ _ wa hvc.all owna.vals.all hrc.all ((HRS.out.kp ha.made.kp fun _ _ _ => id).all)
        have xa := lsize_calls ha.log
        rw [hla] at hcut hva ⊢
        have hra1 := read_calls ha.dsk (lenC Q : Nat) 4000 (by decide) (by decide) (by omega)
        rw [read_zeros] at hra1
        have hzl : (List.replicate (min 4000 rest.length) (0 : UInt8)).length ≤ 4000 := by simp; omega
        have hz0 : ∀ j (h : j < (List.replicate (min 4000 rest.length) (0 : UInt8)).length), (List.replicate (min 4000 rest.length) (0 : UInt8))[j] = 0 := fun j h => by simp
        generalize List.replicate (min 4000 rest.length) (0 : UInt8) = Z at *
        have hra2 : BS (fun k => ¬ Fa k ∧ k ≠ ba) wa (.slice none 0 0) [] := BS.nil _ _
        have HVA := Lib.hid (hva.mono (T := fun k => ¬ Fa k ∧ k ≠ ba) fun _ _ h => h.2)
        have HRA := Lib.hid (hra.mono (T := fun k => ¬ Fa k ∧ k ≠ ba) fun _ _ h => h.2)
        have HA := Lib.hid ha
        have SMA := Lib.hid sma
        have XA := Lib.hid xa
        have RA1 := Lib.hid hra1
        have HLA := Lib.hid hla
        have HZ0 := Lib.hid hz0
        clear d9 m9 sa hba ha hva hra owna hvc hrc sma xa hra1 hra2 hQ1 hpq OWN9 AP9 hla hsq hz0
        go_wp2_with fail
        refine SMA.out.mono ?_
        rintro e wz ⟨rfl, rfl⟩
        clear hcut SMA
        go_wp2_with fail
        refine XA.out.mono ?_
        rintro e wz ⟨rfl, rfl⟩
        go_wp2_with fail
        refine RA1.out.mono ?_
        rintro e wb ⟨vb, rfl, ob, kb⟩
        have bb := ob.bs.all
        obtain ⟨Ab, cb, rfl⟩ := bb.len
        have HBB := Lib.hid bb
        have HB := Lib.hid (HA.out.nob kb)
        have HVB := Lib.hid (HVA.out.nob kb)
        have HRB := Lib.hid (HRA.out.nob kb)
        clear ob kb bb RA1 XA HA HVA HRA
        go_wp2_with fail
        go_loopw [147] (fun i wq => ∃ j : Nat, j ≤ Z.length ∧ i = .int .i64 (j : Int) ∧ wb = wq) (fun i _ => Z.length - (intOf i).toNat)
        case atStart => exact ⟨0, Nat.zero_le _, rfl, rfl⟩
        case round =>
          obtain ⟨j, hj, rfl, hwq⟩ := hrel
          rw [← hwq]
          clear hwq
          by_cases hjl : j < Z.length
          · obtain ⟨gz, oz, cz, hvz, _, hcz⟩ := HBB.out.pos Z.length rfl (by omega)
            injection hvz with e1 e2 e3
            subst e1
            have hcj := hcz j hjl
            rw [HZ0.out j hjl] at hcj
            replace hcj : wb.cell? ⟨gz, oz + j, none⟩ = some (.int .u8 0) := hcj
            clear hcz
            go_wp2_with fail
            go_roundw
            case measure => simp [intOf]; omega
            case rel => exact ⟨j + 1, by omega, by go_num, by trivial⟩
          · obtain rfl : j = Z.length := by omega
            go_wp2_with fail
            refine (ld_recover HB.out.dsk HB.out.made HT.out (by show 0 ≤ 1000000; decide) (stand_parse Q rest.length hQle) rfl (by rw [standL_length]; show lenC Q + rest.length ≤ 4000; omega)).mono ?_
            rintro e wc ⟨Fc, Rc, bc, voc, usc, rfl, sc, hbc, hc, hvc, hrc⟩
            have hlc := hrc.1
            obtain ⟨Ayc, cyc, rfl⟩ := hvc.len
            have hvb := HVB.out.kp sc.kp fun _ _ hi hf => hi.1 hf
            have hrb := HRB.out.kp sc.kp fun _ _ hi hf => hi.1 hf
            have smc := same_yes Q usa usc _ _ wc hvb.all hvc.all hrb.all hrc.all
            have wtc := waits_calls hc.dsk
            rw [hlc] at smc ⊢
            have SMC := Lib.hid smc
            have WTC := Lib.hid wtc
            have KC := Lib.hid hc.made.kp
            clear hvb hrb smc wtc sc hbc hc hvc hrc hlc HB HVB HRB HBB
            go_wp2_with fail
            refine SMC.out.mono ?_
            rintro e wz ⟨rfl, rfl⟩
            go_wp2_with fail
            refine WTC.out.mono ?_
            rintro e wz ⟨rfl, rfl⟩
            go_wp2_with fail
            refine (lwakes_calls wc (HT.out.nob KC.out)).mono ?_
            rintro e wd ⟨rfl, kd⟩
            go_wp2_with fail
            go_ret
            exact ⟨rfl, KC.out.trans kd⟩
end Go.Proofs.YtgjaggnpheoehaaDoor
