/- The walk of the law LogFull. -/
import Derived.Test.YtgjaggnpheoehaaDoorLogE
set_option linter.unusedVariables false
set_option linter.unusedSimpArgs false
namespace Go.Proofs.YtgjaggnpheoehaaDoor
open Go.RowKit

theorem lenC_le (ps : List (List UInt8)) (h : ∀ p ∈ ps, p.length ≤ 60) : lenC ps ≤ 70 * ps.length := by
  unfold lenC
  rw [chainB_length]
  have : ps.flatten.length ≤ 60 * ps.length := by
    induction ps with
    | nil => simp
    | cons p ps ih =>
      have := h p (by simp)
      have := ih fun x hx => h x (by simp [hx])
      simp only [List.flatten_cons, List.length_append, List.length_cons]
      omega
  omega
theorem appE_full (D : DD) (ps : List (List UInt8)) (z : Nat) (p : List UInt8) (hp : p.length ≤ 16384) (hs : D.seen = standL ps z) (hf : D.full = true) : appE D ps p = 7 := by
  unfold appE
  rw [if_neg (by omega)]
  unfold writeE
  rw [if_neg (by rw [hs, standL_length]; omega), if_pos (.inl hf)]
/-- Recover of a disk that is full, with bytes behind the frames. -/
theorem lrecover_full {w : World} {F R : Nat → Prop} {q : Addr} {D : DD} {ps : List (List UInt8)} {rest : List UInt8} (hd : DiskIs w F R (.pointer (some q)) D) (hT : TabOk w) (hF0 : ¬ F 0) (hw : D.waits.length ≤ 1000000) (hp : Parse D.seen ps rest) (hf : D.full = true) (h0 : rest.length ≠ 0) :
    Calls Tryd.prog 24 #[.pointer (some q)] w fun e w' => e = .returned (.tuple #[.pointer none, .slice none 0 0, .int .i64 7]) ∧ ∃ F' R', Step F R w w' F' R' ∧ DiskIs w' F' R' (.pointer (some q)) D := by
  have hsl := hd.seen_le
  have hE : recE D ps rest = 7 := by
    unfold recE
    rw [if_neg h0]
    unfold writeE
    have : D.seen.length = lenC ps + rest.length := by rw [hp.eq, List.length_append]; rfl
    rw [if_neg (by omega), if_pos (.inl hf)]
  refine (lrecover_calls hd hT hF0 hw).mono ?_
  rintro e w' ⟨ps', rest', F', R', hp', hs, h | h⟩
  · obtain ⟨rfl, rfl⟩ := hp'.uniq hp hsl
    rw [hE] at h
    exact absurd h.1 (by decide)
  · obtain ⟨rfl, rfl⟩ := hp'.uniq hp hsl
    rw [hE] at h
    exact ⟨h.2.1, F', R', hs, h.2.2⟩
theorem write3 (P : List (List UInt8)) (h : lenC P ≤ 2000) : writeE ⟨4000, false, standL P 0, standL P 0, []⟩ (lenC P : Nat) [1, 2, 3] = 0 ∧ writeD ⟨4000, false, standL P 0, standL P 0, []⟩ (lenC P : Nat) [1, 2, 3] = ⟨4000, false, standL P 0, chainB 0 1 P ++ [1, 2, 3], [(lenC P, [1, 2, 3])]⟩ := by
  have hE : writeE ⟨4000, false, standL P 0, standL P 0, []⟩ (lenC P : Nat) [1, 2, 3] = 0 := by
    unfold writeE
    rw [if_neg (by rw [standL_length]; omega), if_neg (by show ¬ (false = true ∨ ((4000 : Nat) : Int) - (lenC P : Int) < ([1, 2, 3] : List UInt8).length); simp; omega)]
  refine ⟨hE, ?_⟩
  unfold writeD
  rw [if_pos hE]
  have e : standL P 0 = chainB 0 1 P := by simp [standL]
  have e2 : overL (chainB 0 1 P) (lenC P) [1, 2, 3] = chainB 0 1 P ++ [1, 2, 3] := over_end _ _
  simp only [Int.toNat_natCast]
  rw [e, e2]
  rfl
theorem parse3 (P : List (List UInt8)) (h : ∀ p ∈ P, p.length ≤ 16384) : Parse (chainB 0 1 P ++ [1, 2, 3]) P [1, 2, 3] := ⟨rfl, h, open_short _ _ _ (by decide)⟩
theorem read_all (l : List UInt8) (h : l.length ≤ 4000) : readL l 0 4000 = l := by
  unfold readL
  rw [if_neg (by omega)]
  exact List.take_of_length_le h

set_option maxRecDepth 100000 in
set_option maxHeartbeats 16000000 in
theorem logFull_walk (us : List Value) (ls : List (List UInt8)) (vl : Value) (full : Nat) (w : World) (hT : TabOk w) (hv : Vals AllB w vl us) (hr : RS AllB w us ls) (hfu : full < 4294967296) :
    Calls Tryd.prog 13 #[vl, .int .u32 (full : Int)] w fun e w' => e = .returned (.bool true) ∧ Kp NoB w w' := by
  obtain ⟨Al, cl, rfl⟩ := hv.len
  have hul := hr.1
  have HV := Lib.hid hv
  have HR := Lib.hid hr
  have HUL := Lib.hid hul
  have HT := Lib.hid hT
  clear hv hr hul hT
  go_enter Tryd.func13, Tryd.ntmps13
  go_wp2_with fail
  refine (new_calls 4000 (by decide) w).mono ?_
  rintro e w1 ⟨p, rfl, d1, k1⟩
  obtain ⟨q, rfl⟩ := d1.ptr
  have m1 : Made w (fun k => k = w.heap.size) w1 := ⟨k1, fun k h => by omega⟩
  generalize (fun k => k = w.heap.size) = F1 at *
  clear k1
  go_wp2_with fail
  refine (ld_recover d1 m1 HT.out (by decide) parse_none rfl (by decide)).mono ?_
  rintro e w2 ⟨F2, R2, b, vo, us2, rfl, s2, hb2, h2, hv2, hr2⟩
  obtain ⟨Ao, co, rfl⟩ := hv2.len
  change LD w w2 b q F2 R2 [] 0 ⟨4000, false, standL [] 0, standL [] 0, []⟩ at h2
  have H2 := Lib.hid h2
  clear hv2 hr2 d1 m1 s2 hb2 h2
  go_wp2_with fail
  go_loopw [10, 36] (fun va i wr => ∃ (k : Nat) (F R : Nat → Prop) (ks : List Value) (P : List (List UInt8)) (Wt : List (Nat × List UInt8)), k ≤ us.length ∧ k ≤ 20 ∧ i = .int .i64 (k : Int) ∧ P.length ≤ k ∧ (∀ p ∈ P, p.length ≤ 60) ∧ LD w wr b q F R P 0 ⟨4000, false, standL [] 0, standL P 0, Wt⟩ ∧ Wt.length ≤ k ∧ Own1 22 wr w.heap.size va ks ∧ Apart b F R va ∧ RS (fun i => i < w.heap.size) w ks P) (fun _ i _ => us.length - (intOf i).toNat)
  case atStart => exact ⟨0, F2, R2, [], [], [], Nat.zero_le _, Nat.zero_le _, rfl, Nat.le_refl _, (fun p hp => by cases hp), H2.out, Nat.le_refl _, Own1.nil _ _ _, Apart.nil _ _ _, RS.nil _ _⟩
  case round =>
    obtain ⟨k, F, R, ks, P, Wt, hku, hk20, rfl, hPk, hP60, hld, hwt, hown, hap, hrs⟩ := hrel
    clear H2
    have hlenP := lenC_le P hP60
    have hP16 : ∀ p ∈ P, p.length ≤ 16384 := fun p hp => Nat.le_trans (hP60 p hp) (by decide)
    have HP60 := Lib.hid hP60
    have HP16 := Lib.hid hP16
    clear hP60 hP16
    by_cases hlt : k < us.length ∧ k < 20
    · have hkl := hlt.1
      have hk2 := hlt.2
      have hk20' : ((k : Int) == 20) = false := by simp; omega
      have hkl2 : k < ls.length := by have := HUL.out; omega
      obtain ⟨g, off, rfl, hc⟩ := (HV.out.nob hld.made.kp).at_ k hkl
      have hbk := (HR.out.2 k hkl hkl2).lt
      generalize us[k] = uk at *
      obtain ⟨kq, vq, hq1, hq2, hq⟩ := BS.clip byteT hbk 60 60 rfl
      obtain ⟨Ak, ck, rfl⟩ := hbk.len
      have hle : (ls[k].take 60).length ≤ 60 := by simp; omega
      generalize ls[k].take 60 = pk at *
      generalize ls[k] = lk at *
      obtain ⟨Aq2, cq2, rfl⟩ := hq.len
      have hsx : (standL P 0).length ≤ 4000 := by rw [standL_length]; omega
      obtain ⟨Ay, cy, rfl⟩ := hown.vals.len
      have HLD := Lib.hid hld
      have HOWN := Lib.hid hown
      have HAP := Lib.hid hap
      have HRS := Lib.hid hrs
      have HQ := Lib.hid hq
      have HSX := Lib.hid hsx
      clear hld hown hap hrs hq hsx hbk hlt
      go_wp2_with fail
      clear hq1 hq2
      generalize (bits .and .u32 ((full : Int) / 2 ^ k) 1 == 1) = is at *
      refine (read_calls HLD.out.dsk 0 4000 (by decide) (by decide) (by decide)).mono ?_
      rintro e w3 ⟨v3, rfl, o3, k3⟩
      rw [read_all _ HSX.out] at o3
      obtain ⟨A3, c3, rfl⟩ := o3.bs.len
      have hll := HLD.out.lt
      have b3 : BS (fun k => ¬ F k ∧ k ≠ b) w3 (.slice A3 (standL P 0).length c3) (standL P 0) := o3.bs.mono fun i _ hi => ⟨fun hf => by have := hll i (.inl hf); have := hi.1; omega, fun hf => by have := hll i (.inr (.inr hf)); have := hi.1; omega⟩
      have LD3 := Lib.hid (HLD.out.nob k3)
      have OWN3 := Lib.hid (HOWN.out.nob k3)
      have B3 := Lib.hid b3
      clear HLD HOWN o3 k3 b3 hll
      go_wp2_with fail
      refine (lnext_calls LD3.out.log).mono ?_
      rintro e wz ⟨rfl, rfl⟩
      go_wp2_with fail
      refine (waits_calls LD3.out.dsk).mono ?_
      rintro e wz ⟨rfl, rfl⟩
      cases is with
      | true =>
        go_wp2_with fail
        refine (fill_calls LD3.out.dsk true).mono ?_
        rintro e w4 ⟨rfl, d4, s4⟩
        have h4 := LD3.out.step s4 d4
        have l4 : LStep b F R w3 w4 F R := LStep.of_step s4
        have own4 := OWN3.out.lstep HAP.out l4
        have b4 := B3.out.lstep l4
        have H4 := Lib.hid h4
        have OWN4 := Lib.hid own4
        have B4 := Lib.hid b4
        clear d4 s4 h4 l4 own4 b4 LD3 OWN3 B3
        go_wp2_with fail
        refine (ld_refuse H4.out pk _ (H4.out.made.old (HQ.out.mono fun _ _ _ => trivial)) 7 (appE_full _ P 0 pk (by omega) rfl rfl) (by decide) (show Wt.length ≤ 1000000 by omega)).mono ?_
        rintro e w5 ⟨rfl, F5, R5, h5, s5⟩
        have own5 := OWN4.out.lstep HAP.out s5
        have ap5 := HAP.out.lstep OWN4.out s5
        have b5 := B4.out.lstep s5
        have H5 := Lib.hid h5
        have OWN5 := Lib.hid own5
        have AP5 := Lib.hid ap5
        have B5 := Lib.hid b5
        clear h5 s5 own5 ap5 b5 H4 OWN4 B4 HAP
        go_wp2_with fail
        refine (fill_calls H5.out.dsk false).mono ?_
        rintro e w6 ⟨rfl, d6, s6⟩
        have h6 := H5.out.step s6 d6
        have l6 : LStep b F5 R5 w5 w6 F5 R5 := LStep.of_step s6
        have own6 := OWN5.out.lstep AP5.out l6
        have b6 := B5.out.lstep l6
        have H6 := Lib.hid h6
        have OWN6 := Lib.hid own6
        have B6 := Lib.hid b6
        clear d6 s6 h6 l6 own6 b6 H5 OWN5 B5
        go_wp2_with fail
        refine (lnext_calls H6.out.log).mono ?_
        rintro e wz ⟨rfl, rfl⟩
        go_wp2_with fail
        refine (waits_calls H6.out.dsk).mono ?_
        rintro e wz ⟨rfl, rfl⟩
        go_wp2_with fail
        refine (read_calls H6.out.dsk 0 4000 (by decide) (by decide) (by decide)).mono ?_
        rintro e w7 ⟨v7, rfl, o7, k7⟩
        rw [show readL (standL P 0) 0 4000 = standL P 0 from read_all _ HSX.out] at o7
        obtain ⟨A7, c7, rfl⟩ := o7.bs.len
        have heq := equal_calls (standL P 0) (standL P 0) _ _ w7 o7.bs.all (B6.out.nob k7).all
        rw [show (standL P 0 == standL P 0) = true by simp] at heq
        have HEQ := Lib.hid heq
        have H7 := Lib.hid (H6.out.nob k7)
        have OWN7 := Lib.hid (OWN6.out.nob k7)
        clear heq o7 k7 H6 OWN6 B6
        go_wp2_with fail
        refine HEQ.out.mono ?_
        rintro e wz ⟨rfl, rfl⟩
        go_wp2_with fail
        go_roundw
        case measure => simp [intOf]; omega
        case rel => exact ⟨k + 1, F5, R5, ks, P, Wt, by omega, by omega, by go_num, by omega, HP60.out, H7.out, by omega, OWN7.out, AP5.out, HRS.out⟩
      | false =>
        go_wp2_with fail
        refine (fill_calls LD3.out.dsk false).mono ?_
        rintro e w4 ⟨rfl, d4, s4⟩
        have h4 := LD3.out.step s4 d4
        have l4 : LStep b F R w3 w4 F R := LStep.of_step s4
        have own4 := OWN3.out.lstep HAP.out l4
        have hE : appE ⟨4000, false, standL [] 0, standL P 0, Wt⟩ P pk = 0 := appE_ok _ P 0 pk (by omega) rfl rfl (by show lenC P + (10 + pk.length) ≤ 4000; omega)
        have hD := appD_is ⟨4000, false, standL [] 0, standL P 0, Wt⟩ P 0 pk rfl hE
        rw [Nat.zero_sub] at hD
        have H4 := Lib.hid h4
        have OWN4 := Lib.hid own4
        have HE := Lib.hid hE
        have HD := Lib.hid hD
        clear d4 s4 h4 l4 own4 hE hD LD3 OWN3 B3
        go_wp2_with fail
        refine (ld_append H4.out pk _ (H4.out.made.old (HQ.out.mono fun _ _ _ => trivial)) HE.out (show Wt.length ≤ 1000000 by omega)).mono ?_
        rintro e w5 ⟨rfl, F5, R5, h5, s5⟩
        rw [HD.out] at h5
        have own5 := OWN4.out.lstep HAP.out s5
        have ap5 := HAP.out.lstep OWN4.out s5
        have H5 := Lib.hid h5
        have OWN5 := Lib.hid own5
        have AP5 := Lib.hid ap5
        clear h5 s5 own5 ap5 H4 OWN4 HAP HE HD
        go_wp2_with fail
        refine (fill_calls H5.out.dsk false).mono ?_
        rintro e w6 ⟨rfl, d6, s6⟩
        have h6 := H5.out.step s6 d6
        have l6 : LStep b F5 R5 w5 w6 F5 R5 := LStep.of_step s6
        have own6 := OWN5.out.lstep AP5.out l6
        have hkl3 : ks.length ≤ 20 := by rw [HRS.out.1]; omega
        have H6 := Lib.hid h6
        have OWN6 := Lib.hid own6
        clear d6 s6 h6 l6 own6 H5 OWN5
        go_wp2_with (first
          | ((with_reducible refine gate_dst (N := 87) rfl ?_); go_must (refine wp_pushL (w0 := w) rfl _ _ rfl _ _ ks _ 0 _ rfl rfl (OWN6.out.nob ((Kp.refl _ _).alloc _)) AP5.out (fun i hi => Nat.lt_of_lt_of_le (H6.out.lt i hi) ((Kp.refl NoB w6).alloc _).size) (Nat.le_trans H6.out.made.kp.size ((Kp.refl NoB w6).alloc _).size) (cell_new1 _ _ _ _) rfl (by omega) ?_); intro v7 w7 own7 ap7 k7)
          | fail)
        have h7 := (H6.out.nob ((Kp.refl NoB w6).alloc (.cells #[.slice Aq2 pk.length cq2] 22))).grow k7 fun i hi => ⟨(OWN6.out.lt i hi).1, (AP5.out i hi).1, (AP5.out i hi).2.1, (AP5.out i hi).2.2⟩
        have hrs7 := HRS.out.snoc HQ.out
        have H7 := Lib.hid h7
        have OWN7 := Lib.hid own7
        have AP7 := Lib.hid ap7
        have RS7 := Lib.hid hrs7
        clear h7 own7 ap7 k7 hrs7 H6 OWN6 AP5
        go_roundw
        case measure => simp [intOf]; omega
        case rel =>
          refine ⟨k + 1, F5, R5, _, P ++ [pk], Wt ++ [(lenC P, sealN (chainS 0 1 P) (P.length + 1) pk)], by omega, by omega, by go_num, ?_, ?_, H7.out, ?_, OWN7.out, AP7.out, RS7.out⟩
          · rw [List.length_append]; exact Nat.succ_le_succ hPk
          · intro p hp
            rcases List.mem_append.1 hp with hp | hp
            · exact HP60.out p hp
            · rw [List.mem_singleton.1 hp]; exact hle
          · rw [List.length_append]; exact Nat.succ_le_succ hwt
    · have hkl := hrs.1
      obtain ⟨Ay, cy, rfl⟩ := hown.vals.len
      rw [hkl] at hown hap
      have HLD := Lib.hid hld
      have HOWN := Lib.hid hown
      have HAP := Lib.hid hap
      have HRS := Lib.hid hrs
      have HKL := Lib.hid hkl
      rw [hkl]
      clear hld hown hap hrs hkl
      have hcase : k = us.length ∨ (k = 20 ∧ 20 < us.length) := by omega
      rcases hcase with hcs | ⟨hcs, hcs2⟩
      · have hh : ¬ ((k : Int) < (us.length : Int)) := by omega
        clear hcs hlt
        go_wp2_with fail
        refine (ld_sync HLD.out).mono ?_
        rintro e w3 ⟨rfl, F3, R3, h3, s3⟩
        change LD w w3 b q F3 R3 P P.length ⟨4000, false, standL P 0, standL P 0, []⟩ at h3
        have own3 := HOWN.out.lstep HAP.out s3
        have ap3 := HAP.out.lstep HOWN.out s3
        have hPf : lenC P ≤ 2000 := by omega
        obtain ⟨hW1, hW2⟩ := write3 P hPf
        have HW1 := Lib.hid hW1
        have HW2 := Lib.hid hW2
        have H3 := Lib.hid h3
        have OWN3 := Lib.hid own3
        have AP3 := Lib.hid ap3
        clear h3 own3 ap3 s3 hW1 hW2 HLD HOWN HAP
        go_wp2_with fail
        refine (lsize_calls H3.out.log).mono ?_
        rintro e wz ⟨rfl, rfl⟩
        go_wp2_with fail
        refine (writeL_calls H3.out.dsk (lenC P : Nat) [1, 2, 3] 3 _ rfl rfl (by decide) ⟨by omega, by omega⟩ (show 0 ≤ 1000000 by decide)).mono ?_
        rintro e w4 ⟨rfl, F4, R4, d4, s4⟩
        rw [HW2.out] at d4
        rw [HW1.out]
        have h4 := H3.out.step s4 d4
        have l4 : LStep b F3 R3 w3 w4 F4 R4 := LStep.of_step s4
        have own4 := OWN3.out.lstep AP3.out l4
        have ap4 := AP3.out.lstep OWN3.out l4
        have H4 := Lib.hid h4
        have OWN4 := Lib.hid own4
        have AP4 := Lib.hid ap4
        clear h4 own4 ap4 s4 d4 l4 HW1 HW2 H3 OWN3 AP3
        go_wp2_with fail
        refine (sync_calls H4.out.dsk).mono ?_
        rintro e w5 ⟨rfl, F5, R5, d5, s5⟩
        change DiskIs w5 F5 R5 (.pointer (some q)) ⟨4000, false, chainB 0 1 P ++ [1, 2, 3], chainB 0 1 P ++ [1, 2, 3], []⟩ at d5
        have h5 := H4.out.step s5 d5
        have l5 : LStep b F4 R4 w4 w5 F5 R5 := LStep.of_step s5
        have own5 := OWN4.out.lstep AP4.out l5
        have ap5 := AP4.out.lstep OWN4.out l5
        have hp3 := parse3 P HP16.out
        have hsx : (chainB 0 1 P ++ [1, 2, 3]).length ≤ 4000 := by rw [List.length_append]; show lenC P + 3 ≤ 4000; omega
        generalize hX : chainB 0 1 P ++ [1, 2, 3] = X at *
        have H5 := Lib.hid h5
        have OWN5 := Lib.hid own5
        have AP5 := Lib.hid ap5
        have HP3 := Lib.hid hp3
        clear h5 own5 ap5 s5 d5 l5 hp3 hX H4 OWN4 AP4
        go_wp2_with fail
        refine (read_calls H5.out.dsk 0 4000 (by decide) (by decide) (by decide)).mono ?_
        rintro e w6 ⟨v6, rfl, o6, k6⟩
        rw [show readL X 0 4000 = X from read_all _ hsx] at o6
        obtain ⟨A6, c6, rfl⟩ := o6.bs.len
        have hll := H5.out.lt
        have b6 : BS (fun k => ¬ F5 k ∧ k ≠ b) w6 (.slice A6 X.length c6) X := o6.bs.mono fun i _ hi => ⟨fun hf => by have := hll i (.inl hf); have := hi.1; omega, fun hf => by have := hll i (.inr (.inr hf)); have := hi.1; omega⟩
        have H6 := Lib.hid (H5.out.nob k6)
        have OWN6 := Lib.hid (OWN5.out.nob k6)
        have B6 := Lib.hid b6
        clear o6 k6 b6 hll H5 OWN5
        go_wp2_with fail
        refine (fill_calls H6.out.dsk true).mono ?_
        rintro e w7 ⟨rfl, d7, s7⟩
        have h7 := H6.out.step s7 d7
        have l7 : LStep b F5 R5 w6 w7 F5 R5 := LStep.of_step s7
        have own7 := OWN6.out.lstep AP5.out l7
        have b7 := B6.out.lstep l7
        have H7 := Lib.hid h7
        have OWN7 := Lib.hid own7
        have B7 := Lib.hid b7
        clear h7 own7 b7 s7 d7 l7 H6 OWN6 B6
        go_wp2_with fail
        refine (lrecover_full H7.out.dsk (H7.out.made.tab HT.out) (H7.out.made.zero HT.out) (show 0 ≤ 1000000 by decide) HP3.out rfl (by decide)).mono ?_
        rintro e w8 ⟨rfl, F8, R8, s8, d8⟩
        have h8 := H7.out.step s8 d8
        have l8 : LStep b F5 R5 w7 w8 F8 R8 := LStep.of_step s8
        have own8 := OWN7.out.lstep AP5.out l8
        have ap8 := AP5.out.lstep OWN7.out l8
        have b8 := B7.out.lstep l8
        have H8 := Lib.hid h8
        have OWN8 := Lib.hid own8
        have AP8 := Lib.hid ap8
        have B8 := Lib.hid b8
        clear h8 own8 ap8 b8 s8 d8 l8 H7 OWN7 B7 AP5
        go_wp2_with fail
        refine (read_calls H8.out.dsk 0 4000 (by decide) (by decide) (by decide)).mono ?_
        rintro e w9 ⟨v9, rfl, o9, k9⟩
        rw [show readL X 0 4000 = X from read_all _ hsx] at o9
        obtain ⟨A9, c9, rfl⟩ := o9.bs.len
        have heq := equal_calls X X _ _ w9 o9.bs.all (B8.out.nob k9).all
        rw [show (X == X) = true by simp] at heq
        have HEQ := Lib.hid heq
        have H9 := Lib.hid (H8.out.nob k9)
        have OWN9 := Lib.hid (OWN8.out.nob k9)
        clear heq o9 k9 H8 OWN8 B8
        go_wp2_with fail
        refine HEQ.out.mono ?_
        rintro e wz ⟨rfl, rfl⟩
        clear HEQ
        go_wp2_with fail
        refine (fill_calls H9.out.dsk false).mono ?_
        rintro e wa ⟨rfl, da, sa⟩
        have ha := H9.out.step sa da
        have la : LStep b F8 R8 w9 wa F8 R8 := LStep.of_step sa
        have owna := OWN9.out.lstep AP8.out la
        have HA := Lib.hid ha
        have OWNA := Lib.hid owna
        clear ha owna sa da la H9 OWN9
        go_wp2_with fail
        refine (ld_recover HA.out.dsk HA.out.made HT.out (show 0 ≤ 1000000 by decide) HP3.out rfl hsx).mono ?_
        rintro e wb ⟨Fb, Rb, bb, vob, usb, rfl, sb, hbb, hb, hvb, hrb⟩
        have hlb := hrb.1
        obtain ⟨Ayb, cyb, rfl⟩ := hvb.len
        have ownb := OWNA.out.kp sb.kp fun g _ hg => (AP8.out g hg).1
        have smb := same_yes P usb ks _ _ wb hvb.all ownb.vals.all hrb.all ((HRS.out.kp hb.made.kp fun _ _ _ => id).all)
        rw [hlb] at smb ⊢
        have SMB := Lib.hid smb
        have KB := Lib.hid hb.made.kp
        clear smb hvb hrb hlb hb sb hbb ownb HA OWNA
        go_wp2_with fail
        refine SMB.out.mono ?_
        rintro e wz ⟨rfl, rfl⟩
        go_wp2_with fail
        refine (lwakes_calls wb (HT.out.nob KB.out)).mono ?_
        rintro e wc ⟨rfl, kc⟩
        go_wp2_with fail
        go_ret
        exact ⟨rfl, KB.out.trans kc⟩
      · have hh : ((k : Int) < (us.length : Int)) := by omega
        have h20 : ((k : Int) == 20) = true := by simp; omega
        have hlt3 : k < us.length := by omega
        obtain ⟨g, off, rfl, hc⟩ := (HV.out.nob HLD.out.made.kp).at_ k hlt3
        clear hcs hcs2 hlt
        go_wp2_with fail
        refine (ld_sync HLD.out).mono ?_
        rintro e w3 ⟨rfl, F3, R3, h3, s3⟩
        change LD w w3 b q F3 R3 P P.length ⟨4000, false, standL P 0, standL P 0, []⟩ at h3
        have own3 := HOWN.out.lstep HAP.out s3
        have ap3 := HAP.out.lstep HOWN.out s3
        have hPf : lenC P ≤ 2000 := by omega
        obtain ⟨hW1, hW2⟩ := write3 P hPf
        have HW1 := Lib.hid hW1
        have HW2 := Lib.hid hW2
        have H3 := Lib.hid h3
        have OWN3 := Lib.hid own3
        have AP3 := Lib.hid ap3
        clear h3 own3 ap3 s3 hW1 hW2 HLD HOWN HAP
        go_wp2_with fail
        refine (lsize_calls H3.out.log).mono ?_
        rintro e wz ⟨rfl, rfl⟩
        go_wp2_with fail
        refine (writeL_calls H3.out.dsk (lenC P : Nat) [1, 2, 3] 3 _ rfl rfl (by decide) ⟨by omega, by omega⟩ (show 0 ≤ 1000000 by decide)).mono ?_
        rintro e w4 ⟨rfl, F4, R4, d4, s4⟩
        rw [HW2.out] at d4
        rw [HW1.out]
        have h4 := H3.out.step s4 d4
        have l4 : LStep b F3 R3 w3 w4 F4 R4 := LStep.of_step s4
        have own4 := OWN3.out.lstep AP3.out l4
        have ap4 := AP3.out.lstep OWN3.out l4
        have H4 := Lib.hid h4
        have OWN4 := Lib.hid own4
        have AP4 := Lib.hid ap4
        clear h4 own4 ap4 s4 d4 l4 HW1 HW2 H3 OWN3 AP3
        go_wp2_with fail
        refine (sync_calls H4.out.dsk).mono ?_
        rintro e w5 ⟨rfl, F5, R5, d5, s5⟩
        change DiskIs w5 F5 R5 (.pointer (some q)) ⟨4000, false, chainB 0 1 P ++ [1, 2, 3], chainB 0 1 P ++ [1, 2, 3], []⟩ at d5
        have h5 := H4.out.step s5 d5
        have l5 : LStep b F4 R4 w4 w5 F5 R5 := LStep.of_step s5
        have own5 := OWN4.out.lstep AP4.out l5
        have ap5 := AP4.out.lstep OWN4.out l5
        have hp3 := parse3 P HP16.out
        have hsx : (chainB 0 1 P ++ [1, 2, 3]).length ≤ 4000 := by rw [List.length_append]; show lenC P + 3 ≤ 4000; omega
        generalize hX : chainB 0 1 P ++ [1, 2, 3] = X at *
        have H5 := Lib.hid h5
        have OWN5 := Lib.hid own5
        have AP5 := Lib.hid ap5
        have HP3 := Lib.hid hp3
        clear h5 own5 ap5 s5 d5 l5 hp3 hX H4 OWN4 AP4
        go_wp2_with fail
        refine (read_calls H5.out.dsk 0 4000 (by decide) (by decide) (by decide)).mono ?_
        rintro e w6 ⟨v6, rfl, o6, k6⟩
        rw [show readL X 0 4000 = X from read_all _ hsx] at o6
        obtain ⟨A6, c6, rfl⟩ := o6.bs.len
        have hll := H5.out.lt
        have b6 : BS (fun k => ¬ F5 k ∧ k ≠ b) w6 (.slice A6 X.length c6) X := o6.bs.mono fun i _ hi => ⟨fun hf => by have := hll i (.inl hf); have := hi.1; omega, fun hf => by have := hll i (.inr (.inr hf)); have := hi.1; omega⟩
        have H6 := Lib.hid (H5.out.nob k6)
        have OWN6 := Lib.hid (OWN5.out.nob k6)
        have B6 := Lib.hid b6
        clear o6 k6 b6 hll H5 OWN5
        go_wp2_with fail
        refine (fill_calls H6.out.dsk true).mono ?_
        rintro e w7 ⟨rfl, d7, s7⟩
        have h7 := H6.out.step s7 d7
        have l7 : LStep b F5 R5 w6 w7 F5 R5 := LStep.of_step s7
        have own7 := OWN6.out.lstep AP5.out l7
        have b7 := B6.out.lstep l7
        have H7 := Lib.hid h7
        have OWN7 := Lib.hid own7
        have B7 := Lib.hid b7
        clear h7 own7 b7 s7 d7 l7 H6 OWN6 B6
        go_wp2_with fail
        refine (lrecover_full H7.out.dsk (H7.out.made.tab HT.out) (H7.out.made.zero HT.out) (show 0 ≤ 1000000 by decide) HP3.out rfl (by decide)).mono ?_
        rintro e w8 ⟨rfl, F8, R8, s8, d8⟩
        have h8 := H7.out.step s8 d8
        have l8 : LStep b F5 R5 w7 w8 F8 R8 := LStep.of_step s8
        have own8 := OWN7.out.lstep AP5.out l8
        have ap8 := AP5.out.lstep OWN7.out l8
        have b8 := B7.out.lstep l8
        have H8 := Lib.hid h8
        have OWN8 := Lib.hid own8
        have AP8 := Lib.hid ap8
        have B8 := Lib.hid b8
        clear h8 own8 ap8 b8 s8 d8 l8 H7 OWN7 B7 AP5
        go_wp2_with fail
        refine (read_calls H8.out.dsk 0 4000 (by decide) (by decide) (by decide)).mono ?_
        rintro e w9 ⟨v9, rfl, o9, k9⟩
        rw [show readL X 0 4000 = X from read_all _ hsx] at o9
        obtain ⟨A9, c9, rfl⟩ := o9.bs.len
        have heq := equal_calls X X _ _ w9 o9.bs.all (B8.out.nob k9).all
        rw [show (X == X) = true by simp] at heq
        have HEQ := Lib.hid heq
        have H9 := Lib.hid (H8.out.nob k9)
        have OWN9 := Lib.hid (OWN8.out.nob k9)
        clear heq o9 k9 H8 OWN8 B8
        go_wp2_with fail
        refine HEQ.out.mono ?_
        rintro e wz ⟨rfl, rfl⟩
        clear HEQ
        go_wp2_with fail
        refine (fill_calls H9.out.dsk false).mono ?_
        rintro e wa ⟨rfl, da, sa⟩
        have ha := H9.out.step sa da
        have la : LStep b F8 R8 w9 wa F8 R8 := LStep.of_step sa
        have owna := OWN9.out.lstep AP8.out la
        have HA := Lib.hid ha
        have OWNA := Lib.hid owna
        clear ha owna sa da la H9 OWN9
        go_wp2_with fail
        refine (ld_recover HA.out.dsk HA.out.made HT.out (show 0 ≤ 1000000 by decide) HP3.out rfl hsx).mono ?_
        rintro e wb ⟨Fb, Rb, bb, vob, usb, rfl, sb, hbb, hb, hvb, hrb⟩
        have hlb := hrb.1
        obtain ⟨Ayb, cyb, rfl⟩ := hvb.len
        have ownb := OWNA.out.kp sb.kp fun g _ hg => (AP8.out g hg).1
        have smb := same_yes P usb ks _ _ wb hvb.all ownb.vals.all hrb.all ((HRS.out.kp hb.made.kp fun _ _ _ => id).all)
        rw [hlb] at smb ⊢
        have SMB := Lib.hid smb
        have KB := Lib.hid hb.made.kp
        clear smb hvb hrb hlb hb sb hbb ownb HA OWNA
        go_wp2_with fail
        refine SMB.out.mono ?_
        rintro e wz ⟨rfl, rfl⟩
        go_wp2_with fail
        refine (lwakes_calls wb (HT.out.nob KB.out)).mono ?_
        rintro e wc ⟨rfl, kc⟩
        go_wp2_with fail
        go_ret
        exact ⟨rfl, KB.out.trans kc⟩
end Go.Proofs.YtgjaggnpheoehaaDoor
