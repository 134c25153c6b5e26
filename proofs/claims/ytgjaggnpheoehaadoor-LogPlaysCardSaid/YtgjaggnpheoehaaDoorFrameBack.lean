/- The walk of the law FrameBack: it returns true. -/
import Derived.Test.YtgjaggnpheoehaaDoorOpenUni
import Derived.Test.YtgjaggnpheoehaaDoorFrameLaw
import Derived.StillTailTactics
set_option linter.unusedVariables false
set_option linter.unusedSimpArgs false
namespace Go.Proofs.YtgjaggnpheoehaaDoor
open Go.RowKit

/-- Open of a sealed frame, with whatever behind. -/
theorem open_sealed (a n : Nat) (p m : List UInt8) (v : Value) (w : World) (hT : TabOk w) (ha : a < 4294967296) (hn : n < 4294967296) (hp : p.length ≤ 16384) (hv : BS AllB w v (sealN a n p ++ m)) :
    Calls Tryd.prog 21 #[.int .u32 a, .int .u32 n, v] w fun e w' => ∃ v', e = .returned (.tuple #[v', .int .i64 (10 + p.length : Nat), .int .u32 (sumN a n p : Nat), .int .i64 0]) ∧ Own 5 w' w.heap.size v' p ∧ Kp NoB w w' := by
  refine (open_uni a n _ v w hT ha hn hv).mono ?_
  have h0 := open_seal a n p m hp hn
  have e1 : oL a n (sealN a n p ++ m) = p := by unfold oL; rw [if_pos h0, pay_seal a n p m hp]
  have e2 : oN a n (sealN a n p ++ m) = 10 + p.length := by unfold oN; rw [if_pos h0, size_seal a n p m hp]
  have e3 : oS a n (sealN a n p ++ m) = sumN a n p := by unfold oS; rw [if_pos h0, pay_seal a n p m hp]
  rintro e w' ⟨v', he, ho, hk⟩
  rw [e2, e3, h0] at he
  rw [e1] at ho
  exact ⟨v', he, ho, hk⟩
/-- Open of what is no frame. -/
theorem open_wrong (a n : Nat) (l : List UInt8) (v : Value) (w : World) (hT : TabOk w) (ha : a < 4294967296) (hn : n < 4294967296) (hv : BS AllB w v l) (c : Nat) (hc : openE a n l = c) (h0 : c ≠ 0) :
    Calls Tryd.prog 21 #[.int .u32 a, .int .u32 n, v] w fun e w' => e = .returned (.tuple #[.slice none 0 0, .int .i64 0, .int .u32 0, .int .i64 (c : Nat)]) ∧ Kp NoB w w' := by
  subst hc
  refine (open_calls a n l v w hT ha hn hv).mono ?_
  rintro e w' ⟨hk, ⟨h1, _⟩ | ⟨_, he⟩⟩
  · exact absurd h1 h0
  · exact ⟨he, hk⟩
/-- Open of a frame. -/
theorem open_right (a n : Nat) (l : List UInt8) (v : Value) (w : World) (hT : TabOk w) (ha : a < 4294967296) (hn : n < 4294967296) (hv : BS AllB w v l) (h0 : openE a n l = 0) :
    Calls Tryd.prog 21 #[.int .u32 a, .int .u32 n, v] w fun e w' => ∃ v', e = .returned (.tuple #[v', .int .i64 (10 + sizeN l : Nat), .int .u32 (sumN a n (payN l) : Nat), .int .i64 0]) ∧ Own 5 w' w.heap.size v' (payN l) ∧ Kp NoB w w' := by
  refine (open_calls a n l v w hT ha hn hv).mono ?_
  rintro e w' ⟨hk, ⟨_, v', he, ho⟩ | ⟨h1, _⟩⟩
  · exact ⟨v', he, ho, hk⟩
  · exact absurd h0 h1

set_option maxRecDepth 100000 in
set_option maxHeartbeats 4000000 in
theorem frameBack_walk (lp lb : List UInt8) (vp vb : Value) (a n cut : Nat) (w : World) (hT : TabOk w) (ha : a < 4294967296) (hn : n < 4294967296) (hcut : cut < 65536) (hp : BS AllB w vp lp) (hb : BS AllB w vb lb) :
    Calls Tryd.prog 5 #[vp, vb, .int .u32 a, .int .u32 n, .int .u16 cut] w fun e w' => e = .returned (.bool true) ∧ Kp NoB w w' := by
  obtain ⟨kp, vp', hm1, hs1, hp'⟩ := BS.clip byteT hp 1000 1000 rfl
  obtain ⟨km, vb', hm2, hs2, hb'⟩ := BS.clip byteT hb 1000 1000 rfl
  have hpl : (lp.take 1000).length ≤ 1000 := by simp; omega
  have hml : (lb.take 1000).length ≤ 1000 := by simp; omega
  obtain ⟨A1, c1, rfl⟩ := hp.len
  obtain ⟨A2, c2, rfl⟩ := hb.len
  generalize lp.take 1000 = p at *
  generalize lb.take 1000 = m at *
  clear hp hb
  go_enter Tryd.func5, Tryd.ntmps5
  go_wp2
  go_quiet (fail)
  have hk0 := (Kp.refl NoB w).drewN nq
  clear hm1 hm2 hs1 hs2
  obtain ⟨Ap, cp, rfl⟩ := hp'.len
  obtain ⟨Am, cm, rfl⟩ := hb'.len
  go_wp2_with fail
  refine (seal_calls a n p _ _ (hT.nob hk0) ha hn (hp'.nob hk0) (by omega)).mono ?_
  rintro e w1 ⟨vs, rfl, hs1, hk1⟩
  have hk1 := hk0.trans hk1
  have hz := length_sealN a n p
  obtain ⟨As, cs, rfl⟩ := hs1.bs.len
  rw [hz]
  have hzb := hs1.bs.all
  rw [hz] at hzb
  clear hs1 hk0
  go_wp2_with (first
    | ((with_reducible refine gate_dst (N := 58) rfl ?_); go_must (refine wp_appK (w0 := w1) byteT NoB rfl _ _ rfl _ _ [] _ rfl rfl AllB (Own.nil _ _ _) (Kp.refl _ _) hzb (by rw [hz]; simp; omega) ?_); intro v2 w2 ho2 hk2; rw [List.nil_append] at ho2)
    | ((with_reducible refine gate_dst (N := 60) rfl ?_); go_must (refine wp_appK (w0 := w1) byteT NoB rfl _ _ rfl _ _ _ m rfl rfl AllB ho2 hk2 (hb'.nob (hk1.trans hk2)) (by rw [hz]; omega) ?_); intro v3 w3 ho3 hk3)
    | fail)
  clear ho2 hk2
  have hk03 := hk1.trans hk3
  refine (open_sealed a n p m v3 _ (hT.nob hk03) ha hn (by omega) ho3.bs.all).mono ?_
  rintro e w4 ⟨v4, rfl, ho4, hk4⟩
  have hk04 := hk03.trans hk4
  have hp4 := hp'.nob hk04
  have hzb4 := hzb.nob (hk3.trans hk4)
  have hob4 := ho4.bs.all
  clear ho3 hk3 hk03 hk4 ho4 hk1 hzb
  obtain ⟨A4, c4, rfl⟩ := hob4.len
  go_wp2_with (first
    | ((with_reducible refine gate_dst (N := 70) rfl ?_); go_must (refine gate_guard (by rfl) ?_; refine wp_string byteT rfl _ 9 Tryd.underlying9 rfl AllB _ _ rfl hob4 ?_))
    | ((with_reducible refine gate_dst (N := 72) rfl ?_); go_must (refine gate_guard (by rfl) ?_; refine wp_string byteT rfl _ 9 Tryd.underlying9 rfl AllB _ _ rfl hp4 ?_))
    | fail)
  clear hob4
  refine (sum_calls a n p _ _ (hT.nob hk04) ha hn hp4).mono ?_
  rintro e w5 ⟨rfl, hk5⟩
  have hk05 := hk04.trans hk5
  have hzb5 := hzb4.nob hk5
  clear hk04 hk5 hp4 hzb4
  have hkl : cut % (10 + p.length) < (sealN a n p).length := by rw [hz]; exact Nat.mod_lt _ (by omega)
  generalize hsum : sumN a n p = sm at *
  have HSM := Lib.hid hsum
  have HZ := Lib.hid hz
  have HKL := Lib.hid hkl
  have hpos : (0 : Int) < 10 + (p.length : Int) := by omega
  clear hsum hz hkl
  go_wp2_with (first
    | ((with_reducible refine gate_dst (N := 98) rfl ?_); go_must (refine wp_cut0 byteT rfl _ _ rfl AllB _ _ rfl hzb5 (cut % (10 + p.length)) (Nat.le_of_lt HKL.out) .i64 (by simp [Act.eval]) ?_); intro v6 hv6)
    | fail)
  clear hzb5
  refine (open_wrong a n _ v6 _ (hT.nob hk05) ha hn hv6 4 (open_cut a n p (by omega) _ HKL.out a n) (by decide)).mono ?_
  rintro e w6 ⟨rfl, hk6⟩
  have hk06 := hk05.trans hk6
  clear hv6 hk05 hk6
  have hb6 := hb'.nob hk06
  by_cases h0 : openE a n m = 0
  · obtain ⟨f1, f2, f3, _, _⟩ := open_facts a n m h0
    have hso := seal_open a n m h0
    go_wp2_with fail
    refine (open_right a n m _ _ (hT.nob hk06) ha hn hb6 h0).mono ?_
    rintro e w7 ⟨vr, rfl, hr7, hk7⟩
    have hk07 := hk06.trans hk7
    obtain ⟨Ar, cr, rfl⟩ := hr7.bs.len
    rw [f3]
    have hrb := hr7.bs.all
    rw [f3] at hrb
    clear hr7 hk7 hk06
    go_wp2_with fail
    refine (seal_calls a n (payN m) _ _ (hT.nob hk07) ha hn hrb (by omega)).mono ?_
    rintro e w8 ⟨vc, rfl, hc8, hk8⟩
    have hk08 := hk07.trans hk8
    rw [hso] at hc8
    have hcb := hc8.bs.all
    have hb8 := hb'.nob hk08
    clear hc8 hk07 hk8 hrb hb6
    obtain ⟨Ac, cc, rfl⟩ := hcb.len
    generalize hsz : sizeN m = sz at *
    have HSO := Lib.hid hso
    have HSZ := Lib.hid hsz
    have H0 := Lib.hid h0
    have HF3 := Lib.hid f3
    clear hso hsz h0 f3
    go_wp2_with fail
    have hlen : (m.take (10 + sz)).length = 10 + sz := by simp; omega
    obtain ⟨v9, _, hs9, hv9⟩ := run_cut byteT hb8 0 (10 + sz) (Nat.zero_le _) f2 none (some (.int .i64 ((10 + sz : Nat) : Int))) (.inl ⟨rfl, rfl⟩) (.inr ⟨.i64, rfl⟩)
    rw [List.drop_zero] at hv9
    have hsl : ∀ W', (Instr.slice 22 (.slice Am m.length cm) none (some (.int .i64 (10 + (sz : Int)))) none).run Tryd.prog W' = .ok v9 W' := by
      intro W'
      have := hs9 W'
      simpa using this
    have hk8d := (Kp.refl NoB w8).drew
    obtain ⟨A9, c9, rfl⟩ := hv9.len
    have k1 := run_string byteT (hcb.nob hk8d) 9 Tryd.underlying9
    have k2 := run_string byteT (hv9.nob hk8d) 9 Tryd.underlying9
    rw [hlen] at k1 k2 hsl
    have hle : decide (10 + (sz : Int) ≤ (m.length : Int)) = true := by simp; omega
    have hT8 := hT.nob hk08
    clear hs9 hv9 hcb hb8 hlen hb' hT
    go_still_tail 18, (by kernel_rfl)
    change wpList _ _ _ _ _ w8.drew
    generalize w8.drew = wd at *
    have hk0d := hk08.trans hk8d
    have hTd := hT8.nob hk8d
    clear k1 k2 hsl hk08 hk8d hT8
    go_wp2_with (go_at_call 20; refine (tells_calls _ hTd).mono ?_; rintro e w9 ⟨rfl, hk9⟩)
    go_ret
    exact ⟨rfl, hk0d.trans hk9⟩
  · obtain ⟨x, hx⟩ : ∃ x, openE a n m = x := ⟨_, rfl⟩
    rw [hx] at h0
    go_wp2_with fail
    refine (open_wrong a n m _ _ (hT.nob hk06) ha hn hb6 x hx h0).mono ?_
    rintro e w7 ⟨rfl, hk7⟩
    have hk07 := hk06.trans hk7
    have hT7 := hT.nob hk07
    have t1 : ((x : Int) != 0) = true := by simp; omega
    clear hk06 hk7 hb6 hx h0
    go_wp2_with (go_at_call 20; refine (tells_calls _ hT7).mono ?_; rintro e w9 ⟨rfl, hk9⟩)
    go_ret
    exact ⟨rfl, hk07.trans hk9⟩
end Go.Proofs.YtgjaggnpheoehaaDoor
