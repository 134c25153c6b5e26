/- The walks of postriderref02.Sum, Seal, Open. -/
import Derived.Test.YtgjaggnpheoehaaDoorRef
set_option linter.unusedVariables false
set_option linter.unusedSimpArgs false
namespace Go.Proofs.YtgjaggnpheoehaaDoor
open Go.RowKit

theorem rbytes4 (n : Nat) (hn : n < 4294967296) (w : World) :
    Calls Tryd.prog 50 #[.int .u32 n, .int .i64 4] w fun e w' => ∃ v, e = .returned v ∧ Own 5 w' w.heap.size v (be4 n) ∧ Kp NoB w w' := by
  rw [← lowL4]; exact rbytes_calls n 4 hn (by decide) (by decide) w
theorem rbytes2 (n : Nat) (hn : n < 4294967296) (w : World) :
    Calls Tryd.prog 50 #[.int .u32 n, .int .i64 2] w fun e w' => ∃ v, e = .returned v ∧ Own 5 w' w.heap.size v (be2 n) ∧ Kp NoB w w' := by
  rw [← lowL2]; exact rbytes_calls n 2 hn (by decide) (by decide) w

set_option maxRecDepth 100000 in
theorem rsum_calls (a n : Nat) (p : List UInt8) (vp : Value) (w : World) (ha : a < 4294967296) (hn : n < 4294967296) (hp : BS AllB w vp p) :
    Calls Tryd.prog 19 #[.int .u32 a, .int .u32 n, vp] w fun e w' => e = .returned (.int .u32 (sumN a n p : Nat)) ∧ Kp NoB w w' := by
  obtain ⟨A, c, rfl⟩ := hp.len
  by_cases hl : 16384 < p.length
  · have hb : decide ((16384 : Int) < (p.length : Int)) = true := by simp; omega
    have e : sumN a n p = 0 := by unfold sumN; rw [if_pos hl]
    rw [e]
    clear e
    go_enter Tryd.func19, Tryd.ntmps19
    go_wp2
    go_ret
    exact ⟨rfl, Kp.refl _ _⟩
  · have hb : decide ((16384 : Int) < (p.length : Int)) = false := by simp; omega
    have e : sumN a n p = crcN (be4 a ++ be4 n ++ be2 p.length ++ p) := by unfold sumN; rw [if_neg hl]
    rw [e]
    have hpl : p.length < 4294967296 := by omega
    clear e
    go_enter Tryd.func19, Tryd.ntmps19
    go_wp2_with fail
    refine (rbytes4 a ha _).mono ?_
    rintro e w1 ⟨v1, rfl, ho1, hk1⟩
    go_wp2_with (first | ((with_reducible refine gate_dst (N := 14) rfl ?_); go_must (refine wp_appK (w0 := w) byteT NoB rfl _ _ rfl _ _ [] (be4 a) rfl rfl AllB (Own.nil _ _ _) hk1 ho1.bs.all (by simp [be4]) ?_); intro u1 w2 hu1 hk2; rw [List.nil_append] at hu1; clear ho1 hk1) | fail)
    refine (rbytes4 n hn _).mono ?_
    rintro e w3 ⟨v3, rfl, ho3, hk3⟩
    go_wp2_with (first | ((with_reducible refine gate_dst (N := 18) rfl ?_); go_must (refine wp_appK (w0 := w) byteT NoB rfl _ _ rfl _ _ (be4 a) (be4 n) rfl rfl AllB (hu1.nob hk3) (hk2.trans hk3) ho3.bs.all (by simp [be4]) ?_); intro u2 w4 hu2 hk4; clear ho3 hk3 hu1 hk2) | fail)
    refine (rbytes2 p.length hpl _).mono ?_
    rintro e w5 ⟨v5, rfl, ho5, hk5⟩
    go_wp2_with (first | ((with_reducible refine gate_dst (N := 24) rfl ?_); go_must (refine wp_appK (w0 := w) byteT NoB rfl _ _ rfl _ _ (be4 a ++ be4 n) (be2 p.length) rfl rfl AllB (hu2.nob hk5) (hk4.trans hk5) ho5.bs.all (by simp [be4, be2]) ?_); intro u3 w6 hu3 hk6; clear ho5 hk5 hu2 hk4) | ((with_reducible refine gate_dst (N := 27) rfl ?_); go_must (refine wp_appK (w0 := w) byteT NoB rfl _ _ rfl _ _ (be4 a ++ be4 n ++ be2 p.length) p rfl rfl AllB hu3 hk6 (hp.nob hk6) (by simp [be4, be2]; omega) ?_); intro u4 w7 hu4 hk7; clear hu3 hk6) | fail)
    refine (rcrc_calls _ u4 _ hu4.bs.all).mono ?_
    rintro e w8 ⟨rfl, rfl⟩
    go_wp2
    go_ret
    exact ⟨rfl, hk7⟩

set_option maxRecDepth 100000 in
theorem rseal_calls (a n : Nat) (p : List UInt8) (vp : Value) (w : World) (ha : a < 4294967296) (hn : n < 4294967296) (hp : BS AllB w vp p) (hl : p.length ≤ 16384) :
    Calls Tryd.prog 15 #[.int .u32 a, .int .u32 n, vp] w fun e w' => ∃ v, e = .returned (.tuple #[v, .int .i64 0]) ∧ Own 5 w' w.heap.size v (sealN a n p) ∧ Kp NoB w w' := by
  obtain ⟨A, c, rfl⟩ := hp.len
  have hb : decide ((16384 : Int) < (p.length : Int)) = false := by simp; omega
  have hpl : p.length < 4294967296 := by omega
  have hsl := sumN_lt a n p
  go_enter Tryd.func15, Tryd.ntmps15
  go_wp2_with fail
  refine (rbytes2 p.length hpl _).mono ?_
  rintro e w1 ⟨v1, rfl, ho1, hk1⟩
  go_wp2_with (first | ((with_reducible refine gate_dst (N := 17) rfl ?_); go_must (refine wp_appK (w0 := w) byteT NoB rfl _ _ rfl _ _ [] (be2 p.length) rfl rfl AllB (Own.nil _ _ _) hk1 ho1.bs.all (by simp [be2]) ?_); intro u1 w2 hu1 hk2; rw [List.nil_append] at hu1; clear ho1 hk1) | fail)
  refine (rbytes4 n hn _).mono ?_
  rintro e w3 ⟨v3, rfl, ho3, hk3⟩
  go_wp2_with (first | ((with_reducible refine gate_dst (N := 21) rfl ?_); go_must (refine wp_appK (w0 := w) byteT NoB rfl _ _ rfl _ _ (be2 p.length) (be4 n) rfl rfl AllB (hu1.nob hk3) (hk2.trans hk3) ho3.bs.all (by simp [be4, be2]) ?_); intro u2 w4 hu2 hk4; clear ho3 hk3 hu1 hk2) | fail)
  refine (rsum_calls a n p _ _ ha hn (hp.nob hk4)).mono ?_
  rintro e w5 ⟨rfl, hk5⟩
  go_wp2_with fail
  refine (rbytes4 (sumN a n p) hsl _).mono ?_
  rintro e w6 ⟨v6, rfl, ho6, hk6⟩
  go_wp2_with (first | ((with_reducible refine gate_dst (N := 28) rfl ?_); go_must (refine wp_appK (w0 := w) byteT NoB rfl _ _ rfl _ _ (be2 p.length ++ be4 n) (be4 (sumN a n p)) rfl rfl AllB (hu2.nob (hk5.trans hk6)) (hk4.trans (hk5.trans hk6)) ho6.bs.all (by simp [be4, be2]) ?_); intro u3 w7 hu3 hk7; clear ho6 hk6 hk5 hu2 hk4) | ((with_reducible refine gate_dst (N := 31) rfl ?_); go_must (refine wp_appK (w0 := w) byteT NoB rfl _ _ rfl _ _ (be2 p.length ++ be4 n ++ be4 (sumN a n p)) p rfl rfl AllB hu3 hk7 (hp.nob hk7) (by simp [be4, be2]; omega) ?_); intro u4 w8 hu4 hk8; clear hu3 hk7) | fail)
  go_ret2
  exact ⟨_, rfl, hu4, hk8⟩
theorem rseal_long (a n : Nat) (p : List UInt8) (vp : Value) (w : World) (hp : BS AllB w vp p) (hl : 16384 < p.length) :
    Calls Tryd.prog 15 #[.int .u32 a, .int .u32 n, vp] w fun e w' => e = .returned (.tuple #[.slice none 0 0, .int .i64 3]) ∧ w = w' := by
  obtain ⟨A, c, rfl⟩ := hp.len
  have hb : decide ((16384 : Int) < (p.length : Int)) = true := by simp; omega
  go_enter Tryd.func15, Tryd.ntmps15
  go_wp2
  go_ret2
  exact ⟨rfl, rfl⟩

/-- What the reference's Open tells: the payload lies in the bytes themselves. -/
def ROpenPost (S : Nat → Prop) (a n : Nat) (l : List UInt8) (w : World) (e : Ending) (w' : World) : Prop :=
  Kp NoB w w' ∧ ((openE a n l = 0 ∧ ∃ v', e = .returned (.tuple #[v', .int .i64 ((10 + sizeN l : Nat) : Int), .int .u32 (sumN a n (payN l) : Nat), .int .i64 0]) ∧ BS S w' v' (payN l)) ∨
    (openE a n l ≠ 0 ∧ e = .returned (.tuple #[.slice none 0 0, .int .i64 0, .int .u32 0, .int .i64 (openE a n l : Nat)])))

set_option maxRecDepth 100000 in
theorem ropen_calls (S : Nat → Prop) (a n : Nat) (l : List UInt8) (v : Value) (w : World) (ha : a < 4294967296) (hn : n < 4294967296) (hv : BS S w v l) :
    Calls Tryd.prog 22 #[.int .u32 a, .int .u32 n, v] w (ROpenPost S a n l w) := by
  by_cases h10 : l.length < 10
  · obtain ⟨A, c, rfl⟩ := hv.len
    have e : openE a n l = 4 := by unfold openE; rw [if_pos h10]
    go_enter Tryd.func22, Tryd.ntmps22
    go_wp2
    refine bodyPost_ret (results_tmp4 rfl _ _ _) rfl ?_
    exact ⟨Kp.refl _ _, .inr ⟨by rw [e]; decide, by rw [e]; rfl⟩⟩
  · obtain ⟨A, c, rfl⟩ := hv.len
    have ht2 : (l.take 2).length = 2 := by simp; omega
    obtain ⟨s, hs'⟩ : ∃ s, s = sizeN l := ⟨_, rfl⟩
    have hs16 : s < 65536 := by
      have := numN_lt (l.take 2)
      rw [ht2] at this
      rw [hs']
      exact this
    have HS := Lib.hid hs'
    have HS2 : Hid (numN (l.take 2) = s) := by rw [hs']; rfl
    clear hs'
    by_cases h16 : 16384 < s
    · have e : openE a n l = 3 := by unfold openE; rw [← HS.out, if_neg h10, if_pos h16]
      go_enter Tryd.func22, Tryd.ntmps22
      go_wp2_with (first | ((with_reducible refine gate_dst (N := 16) rfl ?_); go_must (refine wp_cut byteT rfl _ _ _ rfl S _ l rfl hv 0 2 (by omega) (by omega) (.inr ⟨.i64, rfl⟩) (.inr ⟨.i64, rfl⟩) ?_); intro v1 hv1; rw [List.drop_zero] at hv1) | fail)
      refine (rnumber_calls _ v1 _ hv1.all (by omega) (by omega)).mono ?_
      rintro e w1 ⟨rfl, rfl⟩
      rw [HS2.out]
      go_wp2
      refine bodyPost_ret (results_tmp4 rfl _ _ _) rfl ?_
      exact ⟨Kp.refl _ _, .inr ⟨by rw [e]; decide, by rw [e]; rfl⟩⟩
    · by_cases hsh : l.length < 10 + s
      · have e : openE a n l = 4 := by unfold openE; rw [← HS.out, if_neg h10, if_neg h16, if_pos hsh]
        go_enter Tryd.func22, Tryd.ntmps22
        go_wp2_with (first | ((with_reducible refine gate_dst (N := 16) rfl ?_); go_must (refine wp_cut byteT rfl _ _ _ rfl S _ l rfl hv 0 2 (by omega) (by omega) (.inr ⟨.i64, rfl⟩) (.inr ⟨.i64, rfl⟩) ?_); intro v1 hv1; rw [List.drop_zero] at hv1) | fail)
        refine (rnumber_calls _ v1 _ hv1.all (by omega) (by omega)).mono ?_
        rintro e w1 ⟨rfl, rfl⟩
        rw [HS2.out]
        go_wp2
        refine bodyPost_ret (results_tmp4 rfl _ _ _) rfl ?_
        exact ⟨Kp.refl _ _, .inr ⟨by rw [e]; decide, by rw [e]; rfl⟩⟩
      · have hcut : (l.take (10 + s)).drop 10 = payN l := by unfold payN; rw [← HS.out, List.drop_take]; congr 1; omega
        have HC := Lib.hid hcut
        clear hcut
        go_enter Tryd.func22, Tryd.ntmps22
        go_wp2_with (first | ((with_reducible refine gate_dst (N := 16) rfl ?_); go_must (refine wp_cut byteT rfl _ _ _ rfl S _ l rfl hv 0 2 (by omega) (by omega) (.inr ⟨.i64, rfl⟩) (.inr ⟨.i64, rfl⟩) ?_); intro v1 hv1; rw [List.drop_zero] at hv1) | fail)
        refine (rnumber_calls _ v1 _ hv1.all (by omega) (by omega)).mono ?_
        rintro e w1 ⟨rfl, rfl⟩
        rw [HS2.out]
        clear hv1
        go_wp2_with (first | ((with_reducible refine gate_dst (N := 31) rfl ?_); go_must (refine wp_cut byteT rfl _ _ _ rfl S _ l rfl hv 10 (10 + s) (by omega) (by omega) (.inr ⟨.i64, rfl⟩) (.inr ⟨.i64, by simp [Act.eval]⟩) ?_); intro v1 hv1; rw [HC.out] at hv1) | fail)
        refine (rsum_calls a n (payN l) _ _ ha hn hv1.all).mono ?_
        rintro e w3 ⟨rfl, hk3⟩
        have hv3 := hv.nob hk3
        clear hv1
        obtain ⟨x, hx⟩ : ∃ x, x = numN ((l.drop 2).take 4) := ⟨_, rfl⟩
        obtain ⟨y, hy⟩ : ∃ y, y = numN ((l.drop 6).take 4) := ⟨_, rfl⟩
        obtain ⟨z, hz⟩ : ∃ z, z = sumN a n (payN l) := ⟨_, rfl⟩
        have HO : Hid (openE a n l = if x = n ∧ y = z then 0 else 11) := by
          show openE a n l = _
          unfold openE
          rw [hx, hy, hz, ← HS.out, if_neg h10, if_neg h16, if_neg hsh]
          unfold payN
          rw [← HS.out]
        have HX : Hid (numN ((l.take 6).drop 2) = x) := by rw [hx, List.drop_take]; rfl
        have HY : Hid (numN ((l.take 10).drop 6) = y) := by rw [hy, List.drop_take]; rfl
        have l6 : ((l.take 6).drop 2).length = 4 := by simp; omega
        have l10 : ((l.take 10).drop 6).length = 4 := by simp; omega
        have HZ := Lib.hid hz
        rw [← hz]
        clear hx hy hz
        by_cases exn : x = n
        · by_cases eyz : y = z
          · have e0 : openE a n l = 0 := by rw [HO.out, if_pos ⟨exn, eyz⟩]
            have E0 := Lib.hid e0
            have t1 : ((x : Int) != (n : Int)) = false := by simp [exn]
            have t2 : ((y : Int) != (z : Int)) = false := by simp [eyz]
            clear exn eyz e0
            go_wp2_with (first | ((with_reducible refine gate_dst (N := 34) rfl ?_); go_must (refine wp_cut byteT rfl _ _ _ rfl S _ l rfl hv3 2 6 (by omega) (by omega) (.inr ⟨.i64, rfl⟩) (.inr ⟨.i64, rfl⟩) ?_); intro v4 hv4) | fail)
            refine (rnumber_calls _ v4 _ hv4.all (by omega) (by omega)).mono ?_
            rintro e w4 ⟨rfl, rfl⟩
            rw [HX.out]
            go_wp2_with (first | ((with_reducible refine gate_dst (N := 40) rfl ?_); go_must (refine gate_guard (by rfl) ?_; refine wp_cut byteT rfl _ _ _ rfl S _ l rfl hv3 6 10 (by omega) (by omega) (.inr ⟨.i64, rfl⟩) (.inr ⟨.i64, rfl⟩) ?_); intro v5 hv5) | fail)
            refine (rnumber_calls _ v5 _ hv5.all (by omega) (by omega)).mono ?_
            rintro e w5 ⟨rfl, rfl⟩
            rw [HY.out]
            clear hv4 hv5
            go_wp2_with (first | ((with_reducible refine gate_dst (N := 48) rfl ?_); go_must (refine wp_cut byteT rfl _ _ _ rfl S _ l rfl hv3 10 (10 + s) (by omega) (by omega) (.inr ⟨.i64, rfl⟩) (.inr ⟨.i64, by simp [Act.eval]⟩) ?_); intro v6 hv6; rw [HC.out] at hv6) | fail)
            refine bodyPost_ret (results_tmp4 rfl _ _ _) rfl ?_
            refine ⟨hk3, .inl ⟨E0.out, _, ?_, hv6⟩⟩
            rw [← HS.out, ← HZ.out]
            simp
          · have e0 : openE a n l = 11 := by rw [HO.out, if_neg (fun h => eyz h.2)]
            have E0 := Lib.hid e0
            have t1 : ((x : Int) != (n : Int)) = false := by simp [exn]
            have t2 : ((y : Int) != (z : Int)) = true := by simp; omega
            clear exn eyz e0
            go_wp2_with (first | ((with_reducible refine gate_dst (N := 34) rfl ?_); go_must (refine wp_cut byteT rfl _ _ _ rfl S _ l rfl hv3 2 6 (by omega) (by omega) (.inr ⟨.i64, rfl⟩) (.inr ⟨.i64, rfl⟩) ?_); intro v4 hv4) | fail)
            refine (rnumber_calls _ v4 _ hv4.all (by omega) (by omega)).mono ?_
            rintro e w4 ⟨rfl, rfl⟩
            rw [HX.out]
            go_wp2_with (first | ((with_reducible refine gate_dst (N := 40) rfl ?_); go_must (refine gate_guard (by rfl) ?_; refine wp_cut byteT rfl _ _ _ rfl S _ l rfl hv3 6 10 (by omega) (by omega) (.inr ⟨.i64, rfl⟩) (.inr ⟨.i64, rfl⟩) ?_); intro v5 hv5) | fail)
            refine (rnumber_calls _ v5 _ hv5.all (by omega) (by omega)).mono ?_
            rintro e w5 ⟨rfl, rfl⟩
            rw [HY.out]
            clear hv4 hv5
            go_wp2
            refine bodyPost_ret (results_tmp4 rfl _ _ _) rfl ?_
            exact ⟨hk3, .inr ⟨by rw [E0.out]; decide, by rw [E0.out]; rfl⟩⟩
        · have e0 : openE a n l = 11 := by rw [HO.out, if_neg (fun h => exn h.1)]
          have E0 := Lib.hid e0
          have t1 : ((x : Int) != (n : Int)) = true := by simp; omega
          clear exn e0
          go_wp2_with (first | ((with_reducible refine gate_dst (N := 34) rfl ?_); go_must (refine wp_cut byteT rfl _ _ _ rfl S _ l rfl hv3 2 6 (by omega) (by omega) (.inr ⟨.i64, rfl⟩) (.inr ⟨.i64, rfl⟩) ?_); intro v4 hv4) | fail)
          refine (rnumber_calls _ v4 _ hv4.all (by omega) (by omega)).mono ?_
          rintro e w4 ⟨rfl, rfl⟩
          rw [HX.out]
          clear hv4
          go_wp2
          refine bodyPost_ret (results_tmp4 rfl _ _ _) rfl ?_
          exact ⟨hk3, .inr ⟨by rw [E0.out]; decide, by rw [E0.out]; rfl⟩⟩
end Go.Proofs.YtgjaggnpheoehaaDoor
