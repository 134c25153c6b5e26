/- The walk of the law FrameChain: it returns true. -/
import Derived.Test.YtgjaggnpheoehaaDoorFrameBack
import Derived.Test.YtgjaggnpheoehaaDoorVals
set_option linter.unusedVariables false
set_option linter.unusedSimpArgs false
namespace Go.Proofs.YtgjaggnpheoehaaDoor
open Go.RowKit

theorem rowT : OneT Tryd.prog 41 22 (.slice none 0 0) 24 := ⟨Tryd.underlying41, by kernel_rfl, rfl, by decide⟩
theorem flat_map_le (ps : List (List UInt8)) (m : Nat) (h : ∀ p ∈ ps, p.length ≤ m) : ps.flatten.length ≤ m * ps.length := by
  induction ps with
  | nil => simp
  | cons p ps ih =>
    have h1 := h p (by simp)
    have h2 := ih fun q hq => h q (by simp [hq])
    simp only [List.flatten_cons, List.length_append, List.length_cons, Nat.mul_succ]
    omega
theorem chain_le (ps : List (List UInt8)) (h : ∀ p ∈ ps, p.length ≤ 200) (h8 : ps.length ≤ 8) (a n : Nat) : (chainB a n ps).length ≤ 1680 := by
  have := flat_map_le ps 200 h
  rw [chainB_length]
  omega

set_option maxRecDepth 100000 in
set_option maxHeartbeats 4000000 in
theorem frameChain_walk (ls : List (List UInt8)) (us : List Value) (v : Value) (w : World) (hT : TabOk w) (hv : Vals AllB w v us) (hr : RS AllB w us ls) :
    Calls Tryd.prog 7 #[v] w fun e w' => e = .returned (.bool true) ∧ Kp NoB w w' := by
  obtain ⟨Av, cv, rfl⟩ := hv.len
  have hul := hr.1
  obtain ⟨ps, hps⟩ : ∃ ps, ps = (ls.take 8).map (·.take 200) := ⟨_, rfl⟩
  have hpl : ps.length = min 8 ls.length := by rw [hps]; simp
  have hp200 : ∀ p ∈ ps, p.length ≤ 200 := by
    rw [hps]
    intro p hp
    obtain ⟨q, _, rfl⟩ := List.mem_map.1 hp
    simp; omega
  have hpk : ∀ k (h : k < ps.length) (h' : k < ls.length), ps[k] = ls[k].take 200 := by
    intro k h h'
    subst hps
    simp
  have HPS := Lib.hid hpk
  have HP2 := Lib.hid hp200
  have HPL := Lib.hid hpl
  have hps8 : ps.length ≤ 8 := by omega
  have HV := Lib.hid hv
  have HR := Lib.hid hr
  have hmx : us.length ≤ 9223372036854775807 := by obtain ⟨_, _, he, h1, h2, _⟩ := id hv; omega
  have HMX := Lib.hid hmx
  have HUL := Lib.hid hul
  have hpu : ps.length ≤ us.length := by omega
  clear hps hp200 hpk hv hr hmx hul hpl
  go_enter Tryd.func7, Tryd.ntmps7
  go_wp2_with fail
  go_loopw [3, 4, 5, 24] (fun va s vo i wr => ∃ (k : Nat) (os : List Value), k ≤ ps.length ∧ i = .int .i64 k ∧ s = .int .u32 (chainS 0 1 (ps.take k) : Nat) ∧ Own 5 wr w.heap.size va (chainB 0 1 (ps.take k)) ∧ Own1 22 wr w.heap.size vo os ∧ RS (fun b => b < w.heap.size) w os (ps.take k) ∧ Kp NoB w wr) (fun _ _ _ i _ => us.length - (intOf i).toNat)
  case atStart => exact ⟨0, [], Nat.zero_le _, rfl, rfl, Own.nil _ _ _, Own1.nil _ _ _, RS.nil _ _, Kp.refl _ _⟩
  case round =>
    obtain ⟨k, os, hk, rfl, rfl, hoa, hor, hrs, hkw⟩ := hrel
    by_cases hlt : k < ps.length
    · have hku : k < us.length := by omega
      have hk8 : ((k : Int) == 8) = false := by simp; omega
      obtain ⟨b, off, rfl, hc⟩ := (HV.out.nob hkw).at_ k hku
      have hbk := (HR.out.2 k hku (by have := HUL.out; omega)).lt
      generalize us[k] = uk at *
      obtain ⟨kq, vq, hm1, hs1, hq⟩ := BS.clip byteT hbk 200 200 rfl
      rw [← HPS.out k hlt (by have := HUL.out; omega)] at hq
      obtain ⟨Ak, ck, rfl⟩ := hbk.len
      have hqle := HP2.out ps[k] (List.getElem_mem hlt)
      have hsl := chainS_lt (ps.take k) 0 1 (by decide)
      have hle := chain_le (ps.take k) (fun p hp => HP2.out p (List.mem_of_mem_take hp)) (by simp; omega) 0 1
      have hz := chain_snocB ps k hlt 0 1
      have hs := chain_snocS ps k hlt 0 1
      rw [show 1 + k = k + 1 by omega] at hz hs
      have HZ := Lib.hid hz
      have HS := Lib.hid hs
      have htk := take_snoc ps k hlt
      have HTK := Lib.hid htk
      generalize ps[k] = q at *
      generalize chainS 0 1 (ps.take k) = sk at *
      generalize hbk0 : chainB 0 1 (ps.take k) = bk at *
      clear hz hs hbk htk hbk0
      go_wp2_with fail
      rw [show ((k : Int) + 1) = ((k + 1 : Nat) : Int) by omega]
      refine (seal_calls sk (k + 1) q _ _ (hT.nob hkw) hsl (by omega) (hq.nob hkw).all (by omega)).mono ?_
      rintro e w1 ⟨vb, rfl, hb1, hk1⟩
      have hk01 := hkw.trans hk1
      have hlz := length_sealN sk (k + 1) q
      have hoa1 := hoa.nob hk1
      have hor1 := hor.nob hk1
      have hbb := hb1.bs
      have hblk : ∀ x, u5.ownBlock = some x → x < wr.heap.size := fun x hx => (Own1.lt hor x hx).2
      obtain ⟨Ab, cb, rfl⟩ := hb1.bs.len
      generalize sealN sk (k + 1) q = zz at *
      clear hoa hor hb1 hkw hk1 hm1 hs1
      obtain ⟨Aq, cq, rfl⟩ := hq.len
      have hosl := hrs.1
      have hos8 : os.length ≤ 8 := by rw [hosl]; simp; omega
      have HL := Lib.hid hlz
      have HOS := Lib.hid hosl
      clear hlz hosl
      go_wp2_with (first
        | ((with_reducible refine gate_dst (N := 50) rfl ?_); go_must (refine wp_pushK (w0 := w) rowT NoB rfl _ _ rfl _ _ os _ 0 _ rfl rfl (hor1.nob ((Kp.refl _ _).alloc _)) (hk01.alloc _) (cell_new1 _ _ _ _) rfl (by omega) ?_); intro vo2 w2 ho2 hk2 hkd2)
        | ((with_reducible refine gate_dst (N := 53) rfl ?_); go_must (refine wp_appB (w0 := w) byteT NoB rfl _ _ rfl _ _ bk zz rfl rfl AllB ((hoa1.nob ((Kp.refl _ _).alloc _)).kp hkd2 (fun x _ h h' => rows_ne hoa1 hor1 (by decide) x h h')) hk2 ((hbb.nob ((Kp.refl _ _).alloc _)).kp hkd2 (fun x _ h h' => absurd (hblk x h') (Nat.not_lt.2 h.1))).all (by rw [HL.out]; omega) ?_); intro va3 w3 ho3 hk3 hkd3)
        | fail)
      have ho3r := ho2.kp hkd3 fun x _ h h' => rows_ne ho2 ((hoa1.nob ((Kp.refl _ _).alloc _)).kp hkd2 (fun x _ h h' => rows_ne hoa1 hor1 (by decide) x h h')) (by decide) x h h'
      have hsl2 := sumN_lt sk (k + 1) q
      have hrs2 := hrs.snoc hq
      rw [← HTK.out] at hrs2
      rw [← HZ.out] at ho3
      clear hoa1 hor1 hbb ho2 hkd2 hkd3 hk2 hblk hrs
      rw [show ((k : Int) + 1) = ((k + 1 : Nat) : Int) by omega]
      refine (sum_calls sk (k + 1) q _ _ (hT.nob hk3) hsl (by omega) (hq.nob hk3).all).mono ?_
      rintro e w4 ⟨rfl, hk4⟩
      have hoa4 := ho3.nob hk4
      have hor4 := ho3r.nob hk4
      have hk04 := hk3.trans hk4
      rw [← HS.out]
      clear ho3 ho3r hk3 hk4 hq hk01
      go_wp2
      go_roundw
      case rel => exact ⟨k + 1, _, by omega, by go_num, rfl, hoa4, hor4, hrs2, hk04⟩
      case measure => simp [intOf]; omega
    · have hkp : k = ps.length := by omega
      have hbp : chainB 0 1 (ps.take k) = chainB 0 1 ps := by rw [hkp, List.take_length]
      have hsp : chainS 0 1 (ps.take k) = chainS 0 1 ps := by rw [hkp, List.take_length]
      have hrp : ps.take k = ps := by rw [hkp, List.take_length]
      rw [hbp] at hoa
      rw [hrp] at hrs
      rw [hsp]
      have hsl := chainS_lt ps 0 1 (by decide)
      have hle := chain_le ps HP2.out hps8 0 1
      have HKP := Lib.hid hkp
      clear hbp hsp hrp hkp
      have hosl := hrs.1
      have HOV := Lib.hid hor
      have HOR := Lib.hid hrs
      have HOA := Lib.hid hoa
      have hbs := hoa.bs.all
      generalize hsf : chainS 0 1 ps = sf at *
      obtain ⟨Ao, co, rfl⟩ := (Own1.vals hor).len
      obtain ⟨Aa, ca, rfl⟩ := hbs.len
      have HSF := Lib.hid hsl
      clear hosl hle
      have hou : os.length = ps.length := HOR.out.1
      have hT1 := hT.nob hkw
      have HCN : Hid ((chainB 0 1 ps).length ≤ 1680) := Lib.hid (chain_le ps HP2.out hps8 0 1)
      have HHS : Hid (chainS 0 1 ps = sf) := Lib.hid hsf
      have HOU := Lib.hid hou
      rw [hou] at HOV
      rw [hou]
      clear hsf hoa hor hrs hou
      obtain ⟨L, hL⟩ : ∃ L, L = (chainB 0 1 ps).length := ⟨_, rfl⟩
      have HL := Lib.hid hL
      clear hL
      rw [← HL.out]
      have hLs : ∀ j, j ≤ ps.length → (chainB 0 1 (ps.take j)).length ≤ L := by
        intro j hj
        rw [HL.out]
        conv => rhs; rw [← List.take_append_drop j ps, chainB_append, List.length_append]
        omega
      have HLS := Lib.hid hLs
      clear hLs
      rw [← HL.out] at hbs
      have HBS := Lib.hid hbs
      clear hbs
      have hfin : chainS 0 1 (ps.take ps.length) = sf ∧ (chainB 0 1 (ps.take ps.length)).length = L := by
        rw [List.take_length]
        exact ⟨HHS.out, HL.out.symm⟩
      have HFIN := Lib.hid hfin
      clear hfin
      rcases (by have := HKP.out; have := HPL.out; have := HUL.out; omega : k = us.length ∨ (k = 8 ∧ 8 < us.length)) with h | h
      case' inl => subst h; go_wp2_with fail
      case' inr =>
        obtain ⟨hk8, h⟩ := h
        have hku : k < us.length := by omega
        obtain ⟨b, off, rfl, hc⟩ := (HV.out.nob hkw).at_ k hku
        generalize us[k] = uk at *
        have hb8 : ((k : Int) == 8) = true := by simp; omega
        clear hk8
        go_wp2_with fail
      all_goals (
        go_loopw [10, 11, 63] (fun s at' i wq => ∃ k : Nat, k ≤ ps.length ∧ i = .int .i64 k ∧ s = .int .u32 (chainS 0 1 (ps.take k) : Nat) ∧ at' = .int .i64 ((chainB 0 1 (ps.take k)).length : Nat) ∧ Kp NoB wr wq) (fun _ _ i _ => ps.length - (intOf i).toNat)
        case atStart => exact ⟨0, Nat.zero_le _, rfl, rfl, rfl, Kp.refl _ _⟩
        case round =>
          obtain ⟨k, hk, rfl, rfl, rfl, hq⟩ := hrel
          by_cases hlt : k < ps.length
          · have hko : k < os.length := by rw [HOU.out]; exact hlt
            obtain ⟨b2, off2, rfl, hc2⟩ := ((Own1.vals HOV.out).nob hq).at_ k hko
            have hbk := (HOR.out.2 k hko hlt).all.nob (hkw.trans hq)
            have hsp := chainB_split ps k hlt 0 1
            have hs := chain_snocS ps k hlt 0 1
            have hz := congrArg List.length (chain_snocB ps k hlt 0 1)
            have hle := HLS.out (k + 1) hlt
            have hsl := chainS_lt (ps.take k) 0 1 (by decide)
            have hqle := HP2.out ps[k] (List.getElem_mem hlt)
            rw [List.length_append, length_sealN] at hz
            rw [show 1 + k = k + 1 by omega] at hsp hs
            generalize ps[k] = q at *
            generalize os[k] = ok at *
            obtain ⟨Ak, ck, rfl⟩ := hbk.len
            have hbs := HBS.out.nob hq
            generalize chainS 0 1 (ps.take k) = sk at *
            generalize (chainB 0 1 (ps.take k)).length = atk at *
            have hle2 : atk ≤ L := by omega
            have hle3 : atk + (10 + q.length) ≤ 1680 := by have := HCN.out; have := HL.out; omega
            have HLE : Hid (atk ≤ (chainB 0 1 ps).length) := Lib.hid (by rw [← HL.out]; exact hle2)
            have HSP := Lib.hid hsp
            have HS := Lib.hid hs
            have HZ := Lib.hid hz
            clear hsp hs hz hle
            go_wp2_with (first
              | ((with_reducible refine gate_dst (N := 79) rfl ?_); go_must (refine wp_cutE byteT rfl _ _ rfl AllB _ _ rfl hbs atk HLE.out .i64 (by simp [Act.eval]) ?_); intro v1 hv1)
              | fail)
            rw [HSP.out] at hv1
            rw [show ((k : Int) + 1) = ((k + 1 : Nat) : Int) by omega]
            have hkq := hkw.trans hq
            refine (open_sealed sk (k + 1) q _ v1 _ (hT.nob hkq) hsl (by omega) (by omega) hv1).mono ?_
            rintro e w4 ⟨v4, rfl, ho4, hk4⟩
            have hq4 := hq.trans hk4
            have hob4 := ho4.bs.all
            have hp4 := hbk.nob hk4
            rw [← HS.out]
            clear hv1 hkq ho4 hk4 hbk hbs
            obtain ⟨A4, c4, rfl⟩ := hob4.len
            go_wp2_with (first
              | ((with_reducible refine gate_dst (N := 89) rfl ?_); go_must (refine gate_guard (by rfl) ?_; refine wp_string byteT rfl _ 9 Tryd.underlying9 rfl AllB _ _ rfl hob4 ?_))
              | ((with_reducible refine gate_dst (N := 91) rfl ?_); go_must (refine gate_guard (by rfl) ?_; refine wp_string byteT rfl _ 9 Tryd.underlying9 rfl AllB _ _ rfl hp4 ?_))
              | fail)
            go_roundw
            case rel => exact ⟨k + 1, by omega, by go_num, rfl, by rw [HZ.out]; go_num, hq4⟩
            case measure => simp [intOf]; omega
          · have hkp : k = ps.length := by omega
            subst hkp
            obtain ⟨hf1, hf2⟩ := HFIN.out
            rw [hf1, hf2]
            have hmk : ∀ W, (Instr.makeSlice 22 (.int .i64 30) (.int .i64 30)).run Tryd.prog W = .ok (.slice (some ⟨W.heap.size, 0, none⟩) 30 30) (W.alloc (.cells (madeCells #[.int .u8 0] 30) 5)) := fun W => make_bytes byteT 30 (by omega) W
            have hkq := hkw.trans hq
            clear hf1 hf2
            go_wp2_with fail
            have ho0 := Own.made 5 wr 30 (by omega)
            have hkA := (Kp.refl NoB wr).alloc (.cells (madeCells #[.int .u8 0] 30) 5)
            have hkq1 := hkq.trans hkA
            rw [show ((ps.length : Int) + 1) = ((ps.length + 1 : Nat) : Int) by omega]
            refine (open_wrong sf (ps.length + 1) _ _ _ (hT.nob hkq1) HSF.out (by omega) ho0.bs.all 11 (open_zero30 _ _ (by omega)) (by decide)).mono ?_
            rintro e w4 ⟨rfl, hk4⟩
            have hk04 := hkq1.trans hk4
            have hT4 := hT.nob hk04
            clear ho0 hkA hkq1 hk4 hmk
            go_wp2_with (go_at_call 20; refine (tells_calls _ hT4).mono ?_; rintro e w9 ⟨rfl, hk9⟩)
            go_ret
            exact ⟨rfl, hk04.trans hk9⟩)
end Go.Proofs.YtgjaggnpheoehaaDoor
