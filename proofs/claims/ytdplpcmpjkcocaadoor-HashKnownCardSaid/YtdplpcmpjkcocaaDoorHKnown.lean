/- The walk of the law HashKnown. -/
import Derived.Test.YtdplpcmpjkcocaaDoorMapS
import Derived.Test.YtdplpcmpjkcocaaDoorShaT
import Derived.Test.YtdplpcmpjkcocaaDoorHHex
import Derived.Test.YtdplpcmpjkcocaaDoorShaKnown2
import Derived.Maps.StringElems
set_option linter.unusedVariables false
set_option linter.unusedSimpArgs false
namespace Go.Proofs.YtdplpcmpjkcocaaDoor
open Go.RowKit

def knownH (x : List UInt8) (c : Lit) : Prop := c = .string (hexL (shaN x)) ∧ x.length ≤ 60
theorem sE (s : ByteArray) (hs : s.size ≤ maxLen) : plainElem (H := Unit) Tryd.prog 9 (.string s) = some (.lit (.string s.data.toList), []) := plainElem_string Tryd.underlying9 hs
theorem invS (key : Value) (kl : Lit) (h : keyOf Tryd.prog 9 key = some kl) : ∃ x : ByteArray, key = .string x := by
  cases key <;> simp [keyOf, Tryd.underlying9, mapKey] at h
  exact ⟨_, rfl⟩
theorem keyS {x : ByteArray} {kl : Lit} (h : keyOf Tryd.prog 9 (.string x) = some kl) : kl = .string x.data.toList ∧ x.size ≤ maxLen := by
  simp [keyOf, Tryd.underlying9, mapKey] at h
  exact ⟨h.2.symm, h.1⟩
theorem invV (v : Value) (y : DataW Unit × List MemPlace) (h : plainElem Tryd.prog 9 v = some y) : ∃ c : ByteArray, v = .string c := by
  obtain ⟨c, rfl, _⟩ := plainElem_string_inv Tryd.underlying9 h
  exact ⟨c, rfl⟩

def knL : List (List UInt8 × Lit) := [([], .string [100, 97, 51, 57, 97, 51, 101, 101, 53, 101, 54, 98, 52, 98, 48, 100, 51, 50, 53, 53, 98, 102, 101, 102, 57, 53, 54, 48, 49, 56, 57, 48, 97, 102, 100, 56, 48, 55, 48, 57]), ([97], .string [56, 54, 102, 55, 101, 52, 51, 55, 102, 97, 97, 53, 97, 55, 102, 99, 101, 49, 53, 100, 49, 100, 100, 99, 98, 57, 101, 97, 101, 97, 101, 97, 51, 55, 55, 54, 54, 55, 98, 56]), ([97, 98, 99, 100, 98, 99, 100, 101, 99, 100, 101, 102, 100, 101, 102, 103, 101, 102, 103, 104, 102, 103, 104, 105, 103, 104, 105, 106, 104, 105, 106, 107, 105, 106, 107, 108, 106, 107, 108, 109, 107, 108, 109, 110, 108, 109, 110, 111, 109, 110, 111, 112, 110, 111, 112, 113], .string [56, 52, 57, 56, 51, 101, 52, 52, 49, 99, 51, 98, 100, 50, 54, 101, 98, 97, 97, 101, 52, 97, 97, 49, 102, 57, 53, 49, 50, 57, 101, 53, 101, 53, 52, 54, 55, 48, 102, 49]), ([84, 104, 101, 32, 113, 117, 105, 99, 107, 32, 98, 114, 111, 119, 110, 32, 102, 111, 120, 32, 106, 117, 109, 112, 115, 32, 111, 118, 101, 114, 32, 116, 104, 101, 32, 108, 97, 122, 121, 32, 100, 111, 103], .string [50, 102, 100, 52, 101, 49, 99, 54, 55, 97, 50, 100, 50, 56, 102, 99, 101, 100, 56, 52, 57, 101, 101, 49, 98, 98, 55, 54, 101, 55, 51, 57, 49, 98, 57, 51, 101, 98, 49, 50])]
set_option maxRecDepth 100000 in
theorem knP : ∀ p ∈ knL, knownH p.1 p.2 := by
  intro p hp
  simp only [knL, List.mem_cons, List.not_mem_nil, or_false] at hp
  rcases hp with rfl | rfl | rfl | rfl
  · exact ⟨congrArg Lit.string (by rw [map_0]; decide +kernel), by decide⟩
  · exact ⟨congrArg Lit.string (by rw [map_1]; decide +kernel), by decide⟩
  · exact ⟨congrArg Lit.string (by rw [map_2]; decide +kernel), by decide⟩
  · exact ⟨congrArg Lit.string (by rw [map_3]; decide +kernel), by decide⟩
theorem hex_0 : hexL macL0 = [98, 54, 49, 55, 51, 49, 56, 54, 53, 53, 48, 53, 55, 50, 54, 52, 101, 50, 56, 98, 99, 48, 98, 54, 102, 98, 51, 55, 56, 99, 56, 101, 102, 49, 52, 54, 98, 101, 48, 48] := by decide +kernel
theorem hex_1 : hexL macL1 = [49, 50, 53, 100, 55, 51, 52, 50, 98, 57, 97, 99, 49, 49, 99, 100, 57, 49, 97, 51, 57, 97, 102, 52, 56, 97, 97, 49, 55, 98, 52, 102, 54, 51, 102, 49, 55, 53, 100, 51] := by decide +kernel
theorem hex_2 : hexL macL2 = [97, 97, 52, 97, 101, 53, 101, 49, 53, 50, 55, 50, 100, 48, 48, 101, 57, 53, 55, 48, 53, 54, 51, 55, 99, 101, 56, 97, 51, 98, 53, 53, 101, 100, 52, 48, 50, 49, 49, 50] := by decide +kernel
theorem hex_3 : hexL bigL = [50, 57, 49, 101, 57, 97, 54, 99, 54, 54, 57, 57, 52, 57, 52, 57, 98, 53, 55, 98, 97, 53, 101, 54, 53, 48, 51, 54, 49, 101, 57, 56, 102, 99, 51, 54, 98, 49, 98, 97] := by decide +kernel

set_option maxRecDepth 100000 in
set_option maxHeartbeats 4000000 in
theorem hashKnown_walk (w : World) (hT : HashOk w) :
    Calls Tryd.prog 6 #[] w fun e w' => e = .returned (.bool true) ∧ Kp NoB w w' := by
  have mp : (w.alloc (.map #[] 0)).ownsMap Tryd.prog 9 (plainElem Tryd.prog 9) w.heap.size 0 (foldD []) := World.ownsMap_made _ _ _ _
  have km : Kp NoB w (w.alloc (.map #[] 0)) := (Kp.refl _ _).alloc _
  have hmm : (Instr.makeMap 33 none).run Tryd.prog w = .ok (.map (some w.heap.size)) (w.alloc (.map #[] 0)) := rfl
  go_enter Tryd.func6, Tryd.ntmps6
  go_wp2_with (first
    | ((with_reducible refine gate_op (Op.insert 33 (.tmp 8) _ _) rfl ?_); go_must (refine wp_insertS (w0 := w) rfl _ _ _ 33 rfl 9 9 Tryd.underlying9 Tryd.underlying33 w.heap.size _ _ rfl mp (by decide) _ _ _ rfl rfl (by decide) (sE _ (by decide)) km (Nat.le_refl _) ?_); clear mp km; intro w1 mp km)
    | (at_range; go_must (refine wpList_range_own (H := Unit) _ rfl _ 33 rfl 9 9 (Maps.string_keyed Tryd.underlying9) Tryd.underlying33 _ w.heap.size _ _ rfl mp ?_); intro w0 hrg0 hg0 hs0)
    | fail)
  have kw0 : Kp NoB w w0 := km.grown hg0 fun k hk => by cases hk
  have zb : w.heap.size < w1.heap.size := mp.lt
  change w0.ranges _ _ _ _ _ _ (foldD knL) (Maps.has (foldD knL)) (Maps.size (foldD knL)) at hrg0
  generalize hr0 : w1.heap.size = r0 at *
  have HT := Lib.hid hT
  clear hg0 hs0 mp km hmm hT hr0
  go_loopw [3] (fun _ wr => ∃ left cnt, wr.ranges Tryd.prog 9 (plainElem Tryd.prog 9) w.heap.size r0 4 (foldD knL) left cnt ∧ (∀ kl, left kl = true → Maps.has (foldD knL) kl = true) ∧ Kp NoB w wr) (fun _ wr => wr.rangeLeft w.heap.size r0)
  case atStart => exact ⟨_, _, hrg0, fun _ h => h, kw0⟩
  case round =>
    obtain ⟨left, cnt, hrg, hlh, hk⟩ := hrel
    have HRG := Lib.hid hrg
    have HLH := Lib.hid hlh
    have HK := Lib.hid hk
    clear hrg hlh hk
    go_wp2_with (first
      | (at_next; go_must (refine wpList_next_ranges (H := Unit) _ rfl _ rfl 9 (Maps.string_keyed Tryd.underlying9) (plainElem Tryd.prog 9) Value.string Value.string invS invV w.heap.size r0 4 _ _ _ rfl HRG.out ?_ ?_))
      | fail)
    · intro hc0 hl0
      have k0 := HK.out
      have HT0 := Lib.hid (HT.out.nob k0)
      have m1 : ∀ W, Calls Tryd.prog 13 #[.int .u8 11, .int .i64 20] W fun e w' => ∃ v, e = .returned v ∧ Own 5 w' W.heap.size v (List.replicate 20 11) ∧ Kp NoB W w' := fun W => many_calls 11 20 (by decide) W
      have m2 : ∀ W, Calls Tryd.prog 13 #[.int .u8 170, .int .i64 20] W fun e w' => ∃ v, e = .returned v ∧ Own 5 w' W.heap.size v (List.replicate 20 170) ∧ Kp NoB W w' := fun W => many_calls 170 20 (by decide) W
      have m3 : ∀ W, Calls Tryd.prog 13 #[.int .u8 221, .int .i64 50] W fun e w' => ∃ v, e = .returned v ∧ Own 5 w' W.heap.size v (List.replicate 50 221) ∧ Kp NoB W w' := fun W => many_calls 221 50 (by decide) W
      have m4 : ∀ W, Calls Tryd.prog 13 #[.int .u8 170, .int .i64 80] W fun e w' => ∃ v, e = .returned v ∧ Own 5 w' W.heap.size v (List.replicate 80 170) ∧ Kp NoB W w' := fun W => many_calls 170 80 (by decide) W
      have m5 : ∀ W, Calls Tryd.prog 13 #[.int .u8 97, .int .i64 1000] W fun e w' => ∃ v, e = .returned v ∧ Own 5 w' W.heap.size v (List.replicate 1000 97) ∧ Kp NoB W w' := fun W => many_calls 97 1000 (by decide) W
      have hz := zero20
      have K00 := Lib.hid k0
      clear hc0 hl0 HRG HLH HK k0
      go_wp2_with fail
      refine (m1 wr).mono ?_
      rintro e wa ⟨va, rfl, oa, ka⟩
      have kc := Lib.run_convert_bytes_const (P := Tryd.prog) wa 22 5 #[.int .u8 72, .int .u8 105, .int .u8 32, .int .u8 84, .int .u8 104, .int .u8 101, .int .u8 114, .int .u8 101] 8 8 Tryd.underlying22 Tryd.underlying5
      have kA : Kp NoB wa (wa.alloc (.cells #[.int .u8 72, .int .u8 105, .int .u8 32, .int .u8 84, .int .u8 104, .int .u8 101, .int .u8 114, .int .u8 101] 5 (8, 9))) := (Kp.refl _ _).alloc _
      have ol := (BS.lit 5 wa #[.int .u8 72, .int .u8 105, .int .u8 32, .int .u8 84, .int .u8 104, .int .u8 101, .int .u8 114, .int .u8 101] (8, 9) hiL 8 (by simp [bvs, bv, hiL]) rfl (by simp [hiL])).all
      have HOA := Lib.hid (oa.bs.all.nob kA)
      have HOL := Lib.hid ol
      have KA := Lib.hid (ka.trans kA)
      clear ol oa ka kA m1
      go_wp2_with fail
      clear kc
      refine (hmac_calls (List.replicate 20 11) hiL _ _ _ (HT0.out.nob KA.out) HOA.out HOL.out (by simp) (by decide)).mono ?_
      rintro e wb ⟨rfl, kb⟩
      rw [mac_0]
      have HT1p := Lib.hid ((HT0.out.nob KA.out).nob kb)
      have K1p := Lib.hid (KA.out.trans kb)
      clear HOA HOL KA kb
      obtain ⟨w1, a1, k1, hw1⟩ := arr20_made wb macL0 rfl
      have HW1 := Lib.hid hw1
      have A1 := Lib.hid a1
      have HT1 := Lib.hid (HT1p.out.nob k1)
      clear hw1 a1
      have K1 := Lib.hid (K1p.out.trans k1)
      clear k1 K1p HT1p
      go_wp2_with (first
        | ((with_reducible refine gate_op (Op.store 23 (.tmp 5) (.tmp 27)) rfl ?_); go_must (refine wpList_store_mid rfl 23 _ _ rfl wb.heap.size 0 (bvs macL0).toArray rfl rfl (by have := there20 wb; simpa [bvs_length, macL0] using this) (size20 macL0 rfl) (all_oneCell_toArray (bvs_one _)) ?_); rw [← HW1.out])
        | fail)
      clear HW1
      refine (m2 w1).mono ?_
      rintro e wc ⟨vc, rfl, oc, kc⟩
      have HOC := Lib.hid oc
      have KC := Lib.hid kc
      clear oc kc m2
      go_wp2_with fail
      refine (m3 wc).mono ?_
      rintro e wd ⟨vd, rfl, od, kd⟩
      have HOC := Lib.hid (HOC.out.bs.all.nob kd)
      have HOD := Lib.hid od.bs.all
      have KC := Lib.hid (KC.out.trans kd)
      clear od kd m3
      go_wp2_with fail
      refine (hmac_calls (List.replicate 20 170) (List.replicate 50 221) _ _ _ (HT1.out.nob KC.out) HOC.out HOD.out (by simp) (by simp)).mono ?_
      rintro e we ⟨rfl, ke⟩
      rw [mac_1]
      have HT2p := Lib.hid ((HT1.out.nob KC.out).nob ke)
      have K2p := Lib.hid (KC.out.trans ke)
      clear HOC HOD KC ke
      obtain ⟨w2, a2, k2, hw2⟩ := arr20_made we macL1 rfl
      have HW2 := Lib.hid hw2
      have A2 := Lib.hid a2
      have HT2 := Lib.hid (HT2p.out.nob k2)
      clear hw2 a2
      have K2 := Lib.hid (K1.out.trans (K2p.out.trans k2))
      have A1 := Lib.hid (A1.out.nob (K2p.out.trans k2))
      clear k2 K2p HT2p K1
      go_wp2_with (first
        | ((with_reducible refine gate_op (Op.store 23 (.tmp 6) (.tmp 32)) rfl ?_); go_must (refine wpList_store_mid rfl 23 _ _ rfl we.heap.size 0 (bvs macL1).toArray rfl rfl (by have := there20 we; simpa [bvs_length, macL1] using this) (size20 macL1 rfl) (all_oneCell_toArray (bvs_one _)) ?_); rw [← HW2.out])
        | fail)
      clear HW2
      refine (m4 w2).mono ?_
      rintro e wf ⟨vf, rfl, of_, kf⟩
      have kc := Lib.run_convert_bytes_const (P := Tryd.prog) wf 22 5 #[.int .u8 84, .int .u8 101, .int .u8 115, .int .u8 116, .int .u8 32, .int .u8 85, .int .u8 115, .int .u8 105, .int .u8 110, .int .u8 103, .int .u8 32, .int .u8 76, .int .u8 97, .int .u8 114, .int .u8 103, .int .u8 101, .int .u8 114, .int .u8 32, .int .u8 84, .int .u8 104, .int .u8 97, .int .u8 110, .int .u8 32, .int .u8 66, .int .u8 108, .int .u8 111, .int .u8 99, .int .u8 107, .int .u8 45, .int .u8 83, .int .u8 105, .int .u8 122, .int .u8 101, .int .u8 32, .int .u8 75, .int .u8 101, .int .u8 121, .int .u8 32, .int .u8 45, .int .u8 32, .int .u8 72, .int .u8 97, .int .u8 115, .int .u8 104, .int .u8 32, .int .u8 75, .int .u8 101, .int .u8 121, .int .u8 32, .int .u8 70, .int .u8 105, .int .u8 114, .int .u8 115, .int .u8 116] 54 54 Tryd.underlying22 Tryd.underlying5
      have kF : Kp NoB wf (wf.alloc (.cells #[.int .u8 84, .int .u8 101, .int .u8 115, .int .u8 116, .int .u8 32, .int .u8 85, .int .u8 115, .int .u8 105, .int .u8 110, .int .u8 103, .int .u8 32, .int .u8 76, .int .u8 97, .int .u8 114, .int .u8 103, .int .u8 101, .int .u8 114, .int .u8 32, .int .u8 84, .int .u8 104, .int .u8 97, .int .u8 110, .int .u8 32, .int .u8 66, .int .u8 108, .int .u8 111, .int .u8 99, .int .u8 107, .int .u8 45, .int .u8 83, .int .u8 105, .int .u8 122, .int .u8 101, .int .u8 32, .int .u8 75, .int .u8 101, .int .u8 121, .int .u8 32, .int .u8 45, .int .u8 32, .int .u8 72, .int .u8 97, .int .u8 115, .int .u8 104, .int .u8 32, .int .u8 75, .int .u8 101, .int .u8 121, .int .u8 32, .int .u8 70, .int .u8 105, .int .u8 114, .int .u8 115, .int .u8 116] 5 (54, 55))) := (Kp.refl _ _).alloc _
      have ol := (BS.lit 5 wf #[.int .u8 84, .int .u8 101, .int .u8 115, .int .u8 116, .int .u8 32, .int .u8 85, .int .u8 115, .int .u8 105, .int .u8 110, .int .u8 103, .int .u8 32, .int .u8 76, .int .u8 97, .int .u8 114, .int .u8 103, .int .u8 101, .int .u8 114, .int .u8 32, .int .u8 84, .int .u8 104, .int .u8 97, .int .u8 110, .int .u8 32, .int .u8 66, .int .u8 108, .int .u8 111, .int .u8 99, .int .u8 107, .int .u8 45, .int .u8 83, .int .u8 105, .int .u8 122, .int .u8 101, .int .u8 32, .int .u8 75, .int .u8 101, .int .u8 121, .int .u8 32, .int .u8 45, .int .u8 32, .int .u8 72, .int .u8 97, .int .u8 115, .int .u8 104, .int .u8 32, .int .u8 75, .int .u8 101, .int .u8 121, .int .u8 32, .int .u8 70, .int .u8 105, .int .u8 114, .int .u8 115, .int .u8 116] (54, 55) largerL 54 (by simp [bvs, bv, largerL]) rfl (by simp [largerL])).all
      have HOF := Lib.hid (of_.bs.all.nob kF)
      have HOL := Lib.hid ol
      have KF := Lib.hid (kf.trans kF)
      clear ol of_ kf kF m4
      go_wp2_with fail
      clear kc
      refine (hmac_calls (List.replicate 80 170) largerL _ _ _ (HT2.out.nob KF.out) HOF.out HOL.out (by simp) (by decide)).mono ?_
      rintro e wg ⟨rfl, kg⟩
      rw [mac_2]
      have HT3p := Lib.hid ((HT2.out.nob KF.out).nob kg)
      have K3p := Lib.hid (KF.out.trans kg)
      clear HOF HOL KF kg
      obtain ⟨w3, a3, k3, hw3⟩ := arr20_made wg macL2 rfl
      have HW3 := Lib.hid hw3
      have A3 := Lib.hid a3
      have HT3 := Lib.hid (HT3p.out.nob k3)
      clear hw3 a3
      have K3 := Lib.hid (K2.out.trans (K3p.out.trans k3))
      have A1 := Lib.hid (A1.out.nob (K3p.out.trans k3))
      have A2 := Lib.hid (A2.out.nob (K3p.out.trans k3))
      have hr1 := A1.out.range
      clear k3 K3p HT3p K2
      go_wp2_with (first
        | ((with_reducible refine gate_op (Op.store 23 (.tmp 7) (.tmp 37)) rfl ?_); go_must (refine wpList_store_mid rfl 23 _ _ rfl wg.heap.size 0 (bvs macL2).toArray rfl rfl (by have := there20 wg; simpa [bvs_length, macL2] using this) (size20 macL2 rfl) (all_oneCell_toArray (bvs_one _)) ?_); rw [← HW3.out])
        | ((with_reducible refine gate_dst (N := 39) rfl ?_); go_must (refine wpList_load_mid rfl 23 _ rfl wb.heap.size 0 rfl (bvs macL0) _ hr1 Tryd.underlying23 rfl (by rw [bvs_length]; kernel_rfl) ?_))
        | fail)
      clear HW3 hz hr1
      refine (hex_calls macL0 rfl w3).mono ?_
      rintro e wh ⟨rfl, kh⟩
      rw [hex_0]
      have hr2 := (A2.out.nob kh).range
      have K3 := Lib.hid (K3.out.trans kh)
      have HT3 := Lib.hid (HT3.out.nob kh)
      have A3 := Lib.hid (A3.out.nob kh)
      clear kh A1
      go_wp2_with (first
        | ((with_reducible refine gate_dst (N := 44) rfl ?_); go_must (refine gate_guard (by rfl) ?_; refine wpList_load_mid rfl 23 _ rfl we.heap.size 0 rfl (bvs macL1) _ hr2 Tryd.underlying23 rfl (by rw [bvs_length]; kernel_rfl) ?_))
        | fail)
      clear hr2
      refine (hex_calls macL1 rfl wh).mono ?_
      rintro e wi ⟨rfl, ki⟩
      rw [hex_1]
      have hr3 := (A3.out.nob ki).range
      have K3 := Lib.hid (K3.out.trans ki)
      have HT3 := Lib.hid (HT3.out.nob ki)
      clear ki A2
      go_wp2_with (first
        | ((with_reducible refine gate_dst (N := 50) rfl ?_); go_must (refine gate_guard (by rfl) ?_; refine wpList_load_mid rfl 23 _ rfl wg.heap.size 0 rfl (bvs macL2) _ hr3 Tryd.underlying23 rfl (by rw [bvs_length]; kernel_rfl) ?_))
        | fail)
      clear hr3
      refine (hex_calls macL2 rfl wi).mono ?_
      rintro e wj ⟨rfl, kj⟩
      rw [hex_2]
      have K3 := Lib.hid (K3.out.trans kj)
      have HT3 := Lib.hid (HT3.out.nob kj)
      clear kj A3
      go_wp2_with fail
      refine (m5 wj).mono ?_
      rintro e wk ⟨vk, rfl, ok_, kk⟩
      have HOK := Lib.hid ok_.bs.all
      have K3 := Lib.hid (K3.out.trans kk)
      have HT3 := Lib.hid (HT3.out.nob kk)
      clear ok_ kk m5
      go_wp2_with fail
      refine (sha_calls (List.replicate 1000 97) _ wk HT3.out HOK.out (by simp)).mono ?_
      rintro e wl ⟨rfl, kl⟩
      rw [big_0]
      have K3 := Lib.hid (K3.out.trans kl)
      have HT3 := Lib.hid (HT3.out.nob kl)
      clear kl HOK
      go_wp2_with fail
      refine (hex_calls bigL rfl wl).mono ?_
      rintro e wm ⟨rfl, km⟩
      rw [hex_3]
      have K3 := Lib.hid (K3.out.trans km)
      have HT3 := Lib.hid (HT3.out.nob km)
      clear km
      go_wp2_with fail
      refine (tells_calls wm HT3.out).mono ?_
      rintro e wn ⟨rfl, kn⟩
      go_wp2_with fail
      go_ret
      exact ⟨rfl, K00.out.trans (K3.out.trans kn)⟩
    · intro x c kl yd yp w1 cnt1 hkey hlx hv hat hrg1 hlt hg1 hs1 hen
      obtain ⟨rfl, hxm⟩ := keyS hkey
      obtain ⟨c', ec, hy, _⟩ := plainElem_string_inv Tryd.underlying9 hv; injection hy with hy1 hy2; subst hy1
      injection ec with ec
      subst ec
      obtain ⟨hcn, hxl⟩ := fold_find knownH knL knP _ _ (HLH.out _ hlx) (fun z => hat z)
      injection hcn with hcn
      obtain rfl : c = ⟨(hexL (shaN x.data.toList)).toArray⟩ := by
        apply ByteArray.ext
        rw [← hcn]
      have hsz : x.data.toList.length = x.size := rfl
      have hle := hrg1.left_eq
      have hle0 := HRG.out.left_eq
      have hk1 : Kp NoB w w1 := HK.out.grown hg1 fun k hk => by injection hk with hk; subst hk; exact .inl (by omega)
      have hlh1 : ∀ z, (left z && !z.sameKey (.string x.data.toList)) = true → Maps.has (foldD knL) z = true := fun z hz => HLH.out z (by simp only [Bool.and_eq_true] at hz; exact hz.1)
      have kc := Lib.run_convert_string_bytes (P := Tryd.prog) w1 9 22 5 x Tryd.underlying9 Tryd.underlying22 Tryd.underlying5
      have hbs := BS.str w1 5 x (by omega) (by have := grownCap_le_maxLen w1 x.size 0 5 hxm; simp only [maxLen] at this; omega)
      have hks := Kp.str w1 5 x
      have hsl := shaN_length x.data.toList
      generalize hS : shaN x.data.toList = S at *
      have HR1 := Lib.hid hrg1
      have HLE := Lib.hid (And.intro hle hle0)
      have HLH1 := Lib.hid hlh1
      have HSL := Lib.hid hsl
      have HS := Lib.hid hS
      generalize hca : grownCap w1 x.size 0 5 = ca at *
      clear hg1 hs1 hrg1 hle hle0 hlh1 hat hv hlx hkey hcn hsz hca hsl hS hy2
      have HBS := Lib.hid hbs
      have HKS := Lib.hid hks
      have HK1 := Lib.hid hk1
      clear hbs hks hk1
      go_wp2_with fail
      refine (sha_calls _ _ _ ((HT.out.nob HK1.out).nob HKS.out) HBS.out (by omega)).mono ?_
      rintro e w2 ⟨rfl, k2⟩
      rw [HS.out]
      have K2 := Lib.hid (HKS.out.trans k2)
      clear kc hen k2
      go_wp2_with fail
      refine (hex_calls S HSL.out w2).mono ?_
      rintro e w3 ⟨rfl, k3⟩
      have K3 := Lib.hid (K2.out.trans k3)
      clear k3
      go_wp2_with fail
      have hR2 := HR1.out.kept (w' := w3) (row := none) ⟨K3.out.os, K3.out.tape, K3.out.output, K3.out.size, fun i hi _ => K3.out.block i hi id⟩ (by simp) (by simp)
      go_roundw
      case rel => exact ⟨_, cnt1, hR2, HLH1.out, HK1.out.trans K3.out⟩
      case measure => rw [hR2.left_eq, HLE.out.2]; omega
end Go.Proofs.YtdplpcmpjkcocaaDoor
