/- The walk of the law FrameChecks: it returns true. -/
import Derived.Test.YtgjaggnpheoehaaDoorTells
set_option linter.unusedVariables false
set_option linter.unusedSimpArgs false
namespace Go.Proofs.YtgjaggnpheoehaaDoor
open Go.RowKit

set_option maxRecDepth 100000 in
set_option maxHeartbeats 1000000 in
theorem frameChecks_walk (lb lp : List UInt8) (vb vp : Value) (a n : Nat) (w : World) (hT : TabOk w) (ha : a < 4294967296) (hn : n < 4294967296) (hb : BS AllB w vb lb) (hp : BS AllB w vp lp) :
    Calls Tryd.prog 3 #[vb, vp, .int .u32 a, .int .u32 n] w fun e w' => e = .returned (.bool true) ∧ Kp NoB w w' := by
  obtain ⟨kb, vb', hm1, hs1, hb'⟩ := BS.clip byteT hb 1000 1000 rfl
  obtain ⟨kp, vp', hm2, hs2, hp'⟩ := BS.clip byteT hp 1000 1000 rfl
  have hpl : (lp.take 1000).length ≤ 16384 := by simp; omega
  obtain ⟨A1, c1, rfl⟩ := hb.len
  obtain ⟨A2, c2, rfl⟩ := hp.len
  generalize lb.take 1000 = b at *
  generalize lp.take 1000 = p at *
  clear hb hp
  go_enter Tryd.func3, Tryd.ntmps3
  go_wp2
  go_quiet (fail)
  have hk0 := (Kp.refl NoB w).drewN nq
  clear hm1 hm2 hs1 hs2
  go_wp2_with fail
  refine (seal_calls a n p vp' _ (hT.nob hk0) ha hn (hp'.nob hk0) hpl).mono ?_
  rintro e w1 ⟨vc, rfl, hc1, hk1⟩
  have hk1 := hk0.trans hk1
  go_wp2_with fail
  refine (rseal_calls a n p vp' _ ha hn (hp'.nob hk1) hpl).mono ?_
  rintro e w2 ⟨vd, rfl, hd2, hk2⟩
  have hc2 := hc1.bs.all.nob hk2
  have hd2 := hd2.bs.all
  have hk2 := hk1.trans hk2
  clear hc1 hk1
  go_wp2_with fail
  refine (crc_calls b vb' _ (hT.nob hk2) (hb'.nob hk2)).mono ?_
  rintro e w3 ⟨rfl, rfl⟩
  go_wp2_with fail
  refine (rcrc_calls b vb' _ (hb'.nob hk2)).mono ?_
  rintro e w3 ⟨rfl, rfl⟩
  generalize crcN b = x
  go_wp2_with fail
  refine (sum_calls a n p vp' _ (hT.nob hk2) ha hn (hp'.nob hk2)).mono ?_
  rintro e w3 ⟨rfl, hk3⟩
  have hc3 := hc2.nob hk3
  have hd3 := hd2.nob hk3
  have hk3 := hk2.trans hk3
  clear hc2 hd2 hk2
  go_wp2_with fail
  refine (rsum_calls a n p vp' _ ha hn (hp'.nob hk3)).mono ?_
  rintro e w4 ⟨rfl, hk4⟩
  have hc4 := hc3.nob hk4
  have hd4 := hd3.nob hk4
  have hk4 := hk3.trans hk4
  clear hc3 hd3 hk3
  generalize sumN a n p = y
  generalize sealN a n p = z at *
  go_wp2_with (first
    | ((with_reducible refine gate_dst (N := 55) rfl ?_); go_must (refine gate_guard (by rfl) ?_; refine wp_string byteT rfl _ 9 Tryd.underlying9 rfl AllB _ _ rfl hc4 ?_))
    | ((with_reducible refine gate_dst (N := 57) rfl ?_); go_must (refine gate_guard (by rfl) ?_; refine wp_string byteT rfl _ 9 Tryd.underlying9 rfl AllB _ _ rfl hd4 ?_))
    | fail)
  refine (tells_calls _ (hT.nob hk4)).mono ?_
  rintro e w5 ⟨rfl, hk5⟩
  go_wp2
  go_ret
  exact ⟨rfl, hk4.trans hk5⟩
end Go.Proofs.YtgjaggnpheoehaaDoor
