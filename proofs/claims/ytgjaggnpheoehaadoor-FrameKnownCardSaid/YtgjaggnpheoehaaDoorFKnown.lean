/- The walk of the law FrameKnown. -/
import Derived.Test.YtgjaggnpheoehaaDoorMapS
import Derived.Test.YtgjaggnpheoehaaDoorFrameBack
set_option linter.unusedVariables false
set_option linter.unusedSimpArgs false
namespace Go.Proofs.YtgjaggnpheoehaaDoor
open Go.RowKit

def knownP (x : List UInt8) (c : Lit) : Prop := ∃ n : Nat, n < 4294967296 ∧ c = .int .u32 (n : Int) ∧ crcN x = n ∧ x.length ≤ 30
theorem u32E (n : Int) (h : (Lit.int .u32 n).wf = true) : plainElem (H := Unit) Tryd.prog 23 (.int .u32 n) = some (.lit (.int .u32 n), []) := plainElem_int Tryd.underlying23 h
theorem invS (key : Value) (kl : Lit) (h : keyOf Tryd.prog 9 key = some kl) : ∃ x : ByteArray, key = .string x := by
  cases key <;> simp [keyOf, Tryd.underlying9, mapKey] at h
  exact ⟨_, rfl⟩
theorem keyS {x : ByteArray} {kl : Lit} (h : keyOf Tryd.prog 9 (.string x) = some kl) : kl = .string x.data.toList ∧ x.size ≤ maxLen := by
  simp [keyOf, Tryd.underlying9, mapKey] at h
  exact ⟨h.2.symm, h.1⟩
theorem invU (v : Value) (y : DataW Unit × List MemPlace) (h : plainElem Tryd.prog 23 v = some y) : ∃ c : Int, v = .int .u32 c := by
  obtain ⟨c, rfl, _⟩ := plainElem_int_inv Tryd.underlying23 h
  exact ⟨c, rfl⟩

def knL : List (List UInt8 × Lit) := [([], .int .u32 0), ([97], .int .u32 3904355907), ([97, 98, 99], .int .u32 891568578), ([109, 101, 115, 115, 97, 103, 101, 32, 100, 105, 103, 101, 115, 116], .int .u32 538287487), ([97, 98, 99, 100, 101, 102, 103, 104, 105, 106, 107, 108, 109, 110, 111, 112, 113, 114, 115, 116, 117, 118, 119, 120, 121, 122], .int .u32 1277644989)]
set_option maxRecDepth 100000 in
theorem knP : ∀ p ∈ knL, knownP p.1 p.2 := by
  intro p hp
  simp only [knL, List.mem_cons, List.not_mem_nil, or_false] at hp
  rcases hp with rfl | rfl | rfl | rfl | rfl
  · exact ⟨0, by decide, rfl, by decide +kernel, by decide⟩
  · exact ⟨3904355907, by decide, rfl, by decide +kernel, by decide⟩
  · exact ⟨891568578, by decide, rfl, by decide +kernel, by decide⟩
  · exact ⟨538287487, by decide, rfl, by decide +kernel, by decide⟩
  · exact ⟨1277644989, by decide, rfl, by decide +kernel, by decide⟩

set_option maxRecDepth 100000 in
set_option maxHeartbeats 4000000 in
theorem frameKnown_walk (w : World) (hT : TabOk w) :
    Calls Tryd.prog 9 #[] w fun e w' => e = .returned (.bool true) ∧ Kp NoB w w' := by
  have mp : (w.alloc (.map #[] 0)).ownsMap Tryd.prog 9 (plainElem Tryd.prog 23) w.heap.size 0 (foldD []) := World.ownsMap_made _ _ _ _
  have km : Kp NoB w (w.alloc (.map #[] 0)) := (Kp.refl _ _).alloc _
  have hmm : (Instr.makeMap 60 none).run Tryd.prog w = .ok (.map (some w.heap.size)) (w.alloc (.map #[] 0)) := rfl
  go_enter Tryd.func9, Tryd.ntmps9
  go_wp2_with (first
    | ((with_reducible refine gate_op (Op.insert 60 (.tmp 30) _ _) rfl ?_); go_must (refine wp_insertS (w0 := w) rfl _ _ _ 60 rfl 9 23 Tryd.underlying9 Tryd.underlying60 w.heap.size _ _ rfl mp (by decide) _ _ _ rfl rfl (by decide) (u32E _ (by decide)) km (Nat.le_refl _) ?_); clear mp km; intro w1 mp km)
    | (at_range; go_must (refine wpList_range_own (H := Unit) _ rfl _ 60 rfl 9 23 (Maps.string_keyed Tryd.underlying9) Tryd.underlying60 _ w.heap.size _ _ rfl mp ?_); intro w0 hrg0 hg0 hs0)
    | fail)
  have kw0 : Kp NoB w w0 := km.grown hg0 fun k hk => by cases hk
  have zb : w.heap.size < w1.heap.size := mp.lt
  change w0.ranges _ _ _ _ _ _ (foldD knL) (Maps.has (foldD knL)) (Maps.size (foldD knL)) at hrg0
  generalize hr0 : w1.heap.size = r0 at *
  have HT := Lib.hid hT
  clear hg0 hs0 mp km hmm hT hr0
  go_loopw [1] (fun _ wr => ∃ left cnt, wr.ranges Tryd.prog 9 (plainElem Tryd.prog 23) w.heap.size r0 5 (foldD knL) left cnt ∧ (∀ kl, left kl = true → Maps.has (foldD knL) kl = true) ∧ Kp NoB w wr) (fun _ wr => wr.rangeLeft w.heap.size r0)
  case atStart => exact ⟨_, _, hrg0, fun _ h => h, kw0⟩
  case round =>
    obtain ⟨left, cnt, hrg, hlh, hk⟩ := hrel
    have HRG := Lib.hid hrg
    have HLH := Lib.hid hlh
    have HK := Lib.hid hk
    clear hrg hlh hk
    go_wp2_with (first
      | (at_next; go_must (refine wpList_next_ranges (H := Unit) _ rfl _ rfl 9 (Maps.string_keyed Tryd.underlying9) (plainElem Tryd.prog 23) Value.string (Value.int .u32) invS invU w.heap.size r0 5 _ _ _ rfl HRG.out ?_ ?_))
      | fail)
    · intro hc0 hl0
      have hk := HK.out
      have hT := HT.out.nob hk
      clear hc0 hl0
      have hmk16 : ∀ W, (Instr.makeSlice 22 (.int .i64 16384) (.int .i64 16384)).run Tryd.prog W = .ok (.slice (some ⟨W.heap.size, 0, none⟩) 16384 16384) (W.alloc (.cells (madeCells #[.int .u8 0] 16384) 5)) := fun W => make_bytes byteT 16384 (by decide) W
      have ho := Own.made 5 wr 16384 (by decide)
      have hka : Kp NoB wr (wr.alloc (.cells (madeCells #[.int .u8 0] 16384) 5)) := (Kp.refl _ _).alloc _
      have hzl : (List.replicate 16384 (0 : UInt8)).length = 16384 := List.length_replicate
      have hb0 := ho.bs.all
      generalize (List.replicate 16384 (0 : UInt8)) = Z at *
      have HZ := Lib.hid hzl
      have hz2 : Z.length ≤ 16384 := by omega
      have hz3 : 16384 ≤ Z.length := by omega
      clear hzl ho
      go_wp2_with fail
      clear hmk16
      generalize (wr.alloc (.cells (madeCells #[.int .u8 0] 16384) 5)) = wa at *
      generalize hzb : wr.heap.size = zb at *
      clear hzb
      have ka := hk.trans hka
      have hTa := hT.nob hka
      have HB0 := Lib.hid hb0
      clear hb0 hk hka hT
      refine (seal_calls 7 9 Z _ wa hTa (by decide) (by decide) HB0.out hz2).mono ?_
      rintro e w1 ⟨v1, rfl, ho1, k1⟩
      have hs1 : BS AllB w1 v1 (sealN 7 9 Z ++ []) := by rw [List.append_nil]; exact ho1.bs.all
      have hl1 : (sealN 7 9 Z ++ []).length = 16394 := by rw [List.append_nil, length_sealN, HZ.out]
      have hb1 := HB0.out.nob k1
      have HT1 := Lib.hid (hTa.nob k1)
      have ka1 := ka.trans k1
      obtain ⟨A1, c1, rfl⟩ := hs1.len
      rw [hl1] at hs1 ⊢
      have HS1 := Lib.hid hs1
      have HB1 := Lib.hid hb1
      clear ho1 hs1 hl1 hb1 k1 hTa ka
      go_wp2_with (first
        | ((with_reducible refine gate_dst (N := 52) rfl ?_); go_must (refine wp_full byteT rfl _ _ rfl zb 0 16384 Z _ _ 0 rfl rfl (HB1.out.nob ((Kp.refl _ _).alloc _)) (by omega) (by simp [bv]) (by omega) ?_); intro v2 w2 hb2 k2)
        | fail)
      have k12 : Kp NoB w1 w2 := ((Kp.refl NoB w1).alloc _).trans k2
      obtain ⟨A2, c2, rfl⟩ := hb2.len
      refine (seal_long 7 9 (Z ++ [0]) _ w2 hb2 (by simp; omega)).mono ?_
      rintro e w2' ⟨rfl, rfl⟩
      clear hb2 k2
      go_wp2_with fail
      refine (open_sealed 7 9 Z [] _ w2 (HT1.out.nob k12) (by decide) (by decide) hz2 (HS1.out.nob k12)).mono ?_
      rintro e w3 ⟨v3, rfl, ho3, k3⟩
      obtain ⟨A3, c3, rfl⟩ := ho3.bs.len
      have k13 := k12.trans k3
      rw [HZ.out]
      clear ho3 k12 k3
      go_wp2_with fail
      have o4 := BS.lit 5 w3 #[.int .u8 64, .int .u8 1, .int .u8 0, .int .u8 0, .int .u8 0, .int .u8 0, .int .u8 0, .int .u8 0, .int .u8 0, .int .u8 0] (0, 0) [64, 1, 0, 0, 0, 0, 0, 0, 0, 0] 10 (by simp [bvs, bv]) rfl (by simp)
      have k4 : Kp NoB w3 (w3.alloc (.cells #[.int .u8 64, .int .u8 1, .int .u8 0, .int .u8 0, .int .u8 0, .int .u8 0, .int .u8 0, .int .u8 0, .int .u8 0, .int .u8 0] 5)) := (Kp.refl _ _).alloc _
      refine (open_wrong 0 0 _ _ _ (HT1.out.nob (k13.trans k4)) (by decide) (by decide) o4.all 3 (by decide +kernel) (by decide)).mono ?_
      rintro e w4 ⟨rfl, k34⟩
      have k14 := (k13.trans k4).trans k34
      clear o4 k4 k34 k13
      have hmk10 : ∀ W, (Instr.makeSlice 22 (.int .i64 10) (.int .i64 10)).run Tryd.prog W = .ok (.slice (some ⟨W.heap.size, 0, none⟩) 10 10) (W.alloc (.cells (madeCells #[.int .u8 0] 10) 5)) := fun W => make_bytes byteT 10 (by decide) W
      go_wp2_with fail
      clear hmk10
      have o5 := (Own.made 5 w4 10 (by decide)).bs
      have k5 : Kp NoB w4 (w4.alloc (.cells (madeCells #[.int .u8 0] 10) 5)) := (Kp.refl _ _).alloc _
      refine (open_wrong 0 1 _ _ _ (HT1.out.nob (k14.trans k5)) (by decide) (by decide) o5.all 11 (by decide +kernel) (by decide)).mono ?_
      rintro e w5 ⟨rfl, k45⟩
      have k15 := (k14.trans k5).trans k45
      clear o5 k5 k45 k14
      have hmk9 : ∀ W, (Instr.makeSlice 22 (.int .i64 9) (.int .i64 9)).run Tryd.prog W = .ok (.slice (some ⟨W.heap.size, 0, none⟩) 9 9) (W.alloc (.cells (madeCells #[.int .u8 0] 9) 5)) := fun W => make_bytes byteT 9 (by decide) W
      go_wp2_with fail
      clear hmk9
      have o6 := (Own.made 5 w5 9 (by decide)).bs
      have k6 : Kp NoB w5 (w5.alloc (.cells (madeCells #[.int .u8 0] 9) 5)) := (Kp.refl _ _).alloc _
      refine (open_wrong 0 1 _ _ _ (HT1.out.nob (k15.trans k6)) (by decide) (by decide) o6.all 4 (by decide +kernel) (by decide)).mono ?_
      rintro e w6 ⟨rfl, k56⟩
      have k16 := (k15.trans k6).trans k56
      clear o6 k6 k56 k15
      go_wp2_with fail
      refine (seal_calls 1 2 [] _ w6 (HT1.out.nob k16) (by decide) (by decide) (BS.nil _ _) (by decide)).mono ?_
      rintro e w7 ⟨v7, rfl, ho7, k7⟩
      have hs7 : BS AllB w7 v7 (sealN 1 2 [] ++ []) := by rw [List.append_nil]; exact ho7.bs.all
      have hl7 : (sealN 1 2 [] ++ []).length = 10 := by rw [List.append_nil, length_sealN]; rfl
      obtain ⟨A7, c7, rfl⟩ := hs7.len
      rw [hl7] at hs7 ⊢
      have k17 := k16.trans k7
      have HS7 := Lib.hid hs7
      clear ho7 hs7 hl7 k16 k7
      go_wp2_with fail
      refine (open_sealed 1 2 [] [] _ w7 (HT1.out.nob k17) (by decide) (by decide) (by decide) HS7.out).mono ?_
      rintro e w8 ⟨v8, rfl, ho8, k8⟩
      obtain ⟨A8, c8, rfl⟩ := ho8.bs.len
      have k18 := k17.trans k8
      clear ho8 k17 k8
      go_wp2_with (first
        | ((with_reducible refine gate_dst (N := 153) rfl ?_); go_must (refine gate_guard (by rfl) ?_; refine wp_full byteT rfl _ _ rfl zb 0 16384 Z _ _ 0 rfl rfl (HB1.out.nob (k18.alloc _)) (by omega) (by simp [bv]) (by omega) ?_); intro v9 w9 hb9 k9)
        | fail)
      have k89 : Kp NoB w8 w9 := ((Kp.refl NoB w8).alloc _).trans k9
      have k19 := k18.trans k89
      obtain ⟨A9, c9, rfl⟩ := hb9.len
      have hsum : sumN 1 2 (Z ++ [0]) = 0 := by unfold sumN; rw [if_pos (by simp; omega)]
      refine (sum_calls 1 2 (Z ++ [0]) _ w9 (HT1.out.nob k19) (by decide) (by decide) hb9).mono ?_
      rintro e w10 ⟨rfl, k10⟩
      rw [hsum]
      have k110 := k19.trans k10
      clear hb9 k9 k18 k89 k19 k10 hsum
      go_wp2_with fail
      refine (tells_calls w10 (HT1.out.nob k110)).mono ?_
      rintro e w11 ⟨rfl, k11⟩
      go_wp2_with fail
      go_ret
      exact ⟨rfl, (ka1.trans k110).trans k11⟩
    · intro x c kl yd yp w1 cnt1 hkey hlx hv hat hrg1 hlt hg1 hs1 hen
      obtain ⟨rfl, hxm⟩ := keyS hkey
      obtain ⟨c', ec, hy, _⟩ := plainElem_int_inv Tryd.underlying23 hv; injection hy with hy1 hy2; subst hy1
      injection ec with _ ec
      subst ec
      obtain ⟨n, hn, hcn, hcrc, hxl⟩ := fold_find knownP knL knP _ _ (HLH.out _ hlx) (fun z => hat z)
      injection hcn with _ hcn
      subst hcn
      have hsz : x.data.toList.length = x.size := rfl
      have hle := hrg1.left_eq
      have hle0 := HRG.out.left_eq
      have hk1 : Kp NoB w w1 := HK.out.grown hg1 fun k hk => by injection hk with hk; subst hk; exact .inl (by omega)
      have hlh1 : ∀ z, (left z && !z.sameKey (.string x.data.toList)) = true → Maps.has (foldD knL) z = true := fun z hz => HLH.out z (by simp only [Bool.and_eq_true] at hz; exact hz.1)
      have kc := Lib.run_convert_string_bytes (P := Tryd.prog) w1 9 22 5 x Tryd.underlying9 Tryd.underlying22 Tryd.underlying5
      have hbs := BS.str w1 5 x (by omega) (by have := grownCap_le_maxLen w1 x.size 0 5 hxm; simp only [maxLen] at this; omega)
      have hks := Kp.str w1 5 x
      have HR1 := Lib.hid hrg1
      have HLE := Lib.hid (And.intro hle hle0)
      have HLH1 := Lib.hid hlh1
      have HCR := Lib.hid hcrc
      generalize hca : grownCap w1 x.size 0 5 = ca at *
      clear hg1 hs1 hrg1 hle hle0 hlh1 hat hv hlx hkey hcrc hsz hca
      have HBS := Lib.hid hbs
      have HKS := Lib.hid hks
      have HK1 := Lib.hid hk1
      clear hbs hks hk1
      go_wp2_with fail
      refine (crc_calls _ _ _ ((HT.out.nob HK1.out).nob HKS.out) HBS.out).mono ?_
      rintro e w2 ⟨rfl, hw2⟩
      rw [HCR.out]
      subst hw2
      clear kc hen
      go_wp2_with fail
      have hR2 := HR1.out.kept (w' := Lib.bytesWorld w1 5 x) (row := none) ⟨HKS.out.os, HKS.out.tape, HKS.out.output, HKS.out.size, fun i hi _ => HKS.out.block i hi id⟩ (by simp) (by simp)
      go_roundw
      case rel => exact ⟨_, cnt1, hR2, HLH1.out, HK1.out.trans HKS.out⟩
      case measure => rw [hR2.left_eq, HLE.out.2]; omega
end Go.Proofs.YtgjaggnpheoehaaDoor
