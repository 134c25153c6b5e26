/- The walks of frame.Sum, frame.Seal, frame.Open. -/
import Derived.Test.YtgjaggnpheoehaaDoorConcat
set_option linter.unusedVariables false
set_option linter.unusedSimpArgs false
namespace Go.Proofs.YtgjaggnpheoehaaDoor
open Go.RowKit

theorem concat4_calls (l1 l2 l3 l4 : List UInt8) (v1 v2 v3 v4 : Value) (b : Nat) (T : TypeId) (w : World) (hb : w.heap[b]? = some (.cells #[v1, v2, v3, v4] T (0, 0)))
    (h1 : BS AllB w v1 l1) (h2 : BS AllB w v2 l2) (h3 : BS AllB w v3 l3) (h4 : BS AllB w v4 l4) (hl : l1.length + l2.length + l3.length + l4.length ≤ 140737488355328) :
    Calls Tryd.prog 47 #[.slice (some ⟨b, 0, none⟩) 4 4] w fun e w' => ∃ v', e = .returned v' ∧ Own 5 w' w.heap.size v' (l1 ++ l2 ++ l3 ++ l4) ∧ Kp NoB w w' := by
  have h := concat_calls [l1, l2, l3, l4] b 0 4 w (by simp; omega) (by simp) (by simp) (fun j hj => by
    have hc : ∀ j, w.cell? ⟨b, 0 + j, none⟩ = (#[v1, v2, v3, v4] : Array Value)[j]? := fun j => by simp [World.cell?, hb]
    rw [hc]
    match j, hj with
    | 0, _ => exact ⟨v1, rfl, h1⟩
    | 1, _ => exact ⟨v2, rfl, h2⟩
    | 2, _ => exact ⟨v3, rfl, h3⟩
    | 3, _ => exact ⟨v4, rfl, h4⟩)
  have e : [l1, l2, l3, l4].flatten = l1 ++ l2 ++ l3 ++ l4 := by simp
  rw [e] at h
  exact h

set_option maxRecDepth 100000 in
theorem sum_calls (a n : Nat) (p : List UInt8) (vp : Value) (w : World) (hT : TabOk w) (ha : a < 4294967296) (hn : n < 4294967296) (hp : BS AllB w vp p) :
    Calls Tryd.prog 18 #[.int .u32 a, .int .u32 n, vp] w fun e w' => e = .returned (.int .u32 (sumN a n p : Nat)) ∧ Kp NoB w w' := by
  obtain ⟨A, c, rfl⟩ := hp.len
  by_cases hl : 16384 < p.length
  · have hb : decide ((16384 : Int) < (p.length : Int)) = true := by simp; omega
    have e : sumN a n p = 0 := by unfold sumN; rw [if_pos hl]
    rw [e]
    clear e
    go_enter Tryd.func18, Tryd.ntmps18
    go_wp2
    go_ret
    exact ⟨rfl, Kp.refl _ _⟩
  · have hb : decide ((16384 : Int) < (p.length : Int)) = false := by simp; omega
    have e : sumN a n p = crcN (be4 a ++ be4 n ++ be2 p.length ++ p) := by unfold sumN; rw [if_neg hl]
    rw [e]
    have hpl : p.length < 65536 := by omega
    clear e
    go_enter Tryd.func18, Tryd.ntmps18
    go_wp2_with fail
    refine (four_calls a ha _).mono ?_
    rintro e w1 ⟨v1, rfl, ho1, hk1⟩
    obtain ⟨A1, c1, rfl⟩ := ho1.bs.len
    go_wp2_with fail
    refine (four_calls n hn _).mono ?_
    rintro e w2 ⟨v2, rfl, ho2, hk2⟩
    obtain ⟨A2, c2, rfl⟩ := ho2.bs.len
    go_wp2_with fail
    refine (two_calls p.length hpl _).mono ?_
    rintro e w3 ⟨v3, rfl, ho3, hk3⟩
    obtain ⟨A3, c3, rfl⟩ := ho3.bs.len
    go_wp2_with fail
    refine (concat4_calls (be4 a) (be4 n) (be2 p.length) p _ _ _ _ _ 22 _ (heap_alloc_new _ _) ?_ ?_ ?_ ?_ ?_).mono ?_
    · exact (ho1.bs.all.nob ((hk2.trans hk3).alloc _))
    · exact (ho2.bs.all.nob (hk3.alloc _))
    · exact (ho3.bs.all.nob ((Kp.refl _ _).alloc _))
    · exact hp.nob (((hk1.trans hk2).trans hk3).alloc _)
    · simp [be4, be2]; omega
    rintro e w4 ⟨v4, rfl, ho4, hk4⟩
    have hk : Kp NoB w w4 := (((hk1.trans hk2).trans hk3).alloc _).trans hk4
    go_wp2_with fail
    refine (crc_calls _ v4 _ (hT.nob hk) ho4.bs.all).mono ?_
    rintro e w5 ⟨rfl, rfl⟩
    go_wp2
    go_ret
    exact ⟨rfl, hk⟩

set_option maxRecDepth 100000 in
theorem seal_calls (a n : Nat) (p : List UInt8) (vp : Value) (w : World) (hT : TabOk w) (ha : a < 4294967296) (hn : n < 4294967296) (hp : BS AllB w vp p) (hl : p.length ≤ 16384) :
    Calls Tryd.prog 14 #[.int .u32 a, .int .u32 n, vp] w fun e w' => ∃ v, e = .returned (.tuple #[v, .int .i64 0]) ∧ Own 5 w' w.heap.size v (sealN a n p) ∧ Kp NoB w w' := by
  obtain ⟨A, c, rfl⟩ := hp.len
  have hb : decide ((16384 : Int) < (p.length : Int)) = false := by simp; omega
  have hpl : p.length < 65536 := by omega
  have hsl := sumN_lt a n p
  go_enter Tryd.func14, Tryd.ntmps14
  go_wp2_with fail
  refine (two_calls p.length hpl _).mono ?_
  rintro e w1 ⟨v1, rfl, ho1, hk1⟩
  obtain ⟨A1, c1, rfl⟩ := ho1.bs.len
  go_wp2_with fail
  refine (four_calls n hn _).mono ?_
  rintro e w2 ⟨v2, rfl, ho2, hk2⟩
  obtain ⟨A2, c2, rfl⟩ := ho2.bs.len
  go_wp2_with fail
  refine (sum_calls a n p _ _ (hT.nob (hk1.trans hk2)) ha hn (hp.nob (hk1.trans hk2))).mono ?_
  rintro e w3 ⟨rfl, hk3⟩
  go_wp2_with fail
  refine (four_calls (sumN a n p) hsl _).mono ?_
  rintro e w4 ⟨v4, rfl, ho4, hk4⟩
  obtain ⟨A4, c4, rfl⟩ := ho4.bs.len
  go_wp2_with fail
  refine (concat4_calls (be2 p.length) (be4 n) (be4 (sumN a n p)) p _ _ _ _ _ 22 _ (heap_alloc_new _ _) ?_ ?_ ?_ ?_ ?_).mono ?_
  · exact (ho1.bs.all.nob (((hk2.trans hk3).trans hk4).alloc _))
  · exact (ho2.bs.all.nob ((hk3.trans hk4).alloc _))
  · exact (ho4.bs.all.nob ((Kp.refl _ _).alloc _))
  · exact hp.nob ((((hk1.trans hk2).trans hk3).trans hk4).alloc _)
  · simp [be4, be2]; omega
  rintro e w5 ⟨v5, rfl, ho5, hk5⟩
  have hkA := ((hk1.trans hk2).trans hk3).trans hk4
  go_wp2_with fail
  go_ret2
  exact ⟨_, rfl, ho5.low (hkA.alloc _).size, (hkA.alloc _).trans hk5⟩
/-- Seal of more than a payload may hold. -/
theorem seal_long (a n : Nat) (p : List UInt8) (vp : Value) (w : World) (hp : BS AllB w vp p) (hl : 16384 < p.length) :
    Calls Tryd.prog 14 #[.int .u32 a, .int .u32 n, vp] w fun e w' => e = .returned (.tuple #[.slice none 0 0, .int .i64 3]) ∧ w = w' := by
  obtain ⟨A, c, rfl⟩ := hp.len
  have hb : decide ((16384 : Int) < (p.length : Int)) = true := by simp; omega
  go_enter Tryd.func14, Tryd.ntmps14
  go_wp2
  go_ret2
  exact ⟨rfl, rfl⟩

set_option maxRecDepth 100000 in
theorem word_calls (l : List UInt8) (v : Value) (w : World) (hv : BS AllB w v l) (hl : 4 ≤ l.length) :
    Calls Tryd.prog 53 #[v] w fun e w' => e = .returned (.int .u32 (numN (l.take 4) : Nat)) ∧ w = w' := by
  have hm : (l.take 4).length = 4 := by simp; omega
  obtain ⟨A, c, rfl⟩ := hv.len
  go_enter Tryd.func53, Tryd.ntmps53
  go_wp2_with ((with_reducible refine gate_dst (N := 7) rfl ?_); go_must (refine wp_cut0 byteT rfl _ _ rfl AllB _ l rfl hv 4 hl .i64 rfl ?_; intro v' hv'; obtain ⟨b, off, c', rfl, _, hcell⟩ := BS.pos hv' 4 hm (by decide)))
  clear hv hv'
  generalize hmm : l.take 4 = m at *
  have HM := Lib.hid hmm
  clear hmm
  go_loop [3, 9] (fun n i => ∃ k : Nat, k ≤ 4 ∧ i = .int .i64 k ∧ n = .int .u32 (numN (m.take k) : Nat)) (fun _ i => 4 - (intOf i).toNat)
  case atStart => exact ⟨0, Nat.zero_le _, rfl, rfl⟩
  case round =>
    obtain ⟨k, hk, rfl, rfl⟩ := hrel
    by_cases hlt : k < 4
    · have hc := hcell k (by omega)
      have hs := take_snoc m k (by omega)
      have hs2 := congrArg numN hs
      rw [numN_snoc] at hs2
      have hb : numN (m.take k) < 16777216 := by
        have h1 := numN_lt (m.take k)
        have h2 : (m.take k).length ≤ 3 := by simp; omega
        have h3 : 256 ^ (m.take k).length ≤ 256 ^ 3 := Nat.pow_le_pow_right (by decide) h2
        omega
      obtain ⟨ch, hch0⟩ : ∃ ch, ch = m[k]'(by omega) := ⟨_, rfl⟩
      rw [← hch0] at hc hs2
      clear hs hcell hch0
      obtain ⟨y, hy⟩ : ∃ y, y = numN (m.take (k + 1)) := ⟨_, rfl⟩
      rw [← hy] at hs2
      have HY := Lib.hid hy
      have HS := Lib.hid hs2
      clear hs2 hy
      generalize numN (m.take k) = x at *
      unfold bv at hc
      have hch := u8_lt ch
      have e1 : bits .or .u32 ((x : Int) * 256) (ch.toNat : Int) = (y : Int) := by
        have := u32_or_nat (x * 256) ch.toNat (by omega) (by omega)
        rw [or_join hch, ← HS.out] at this
        rw [← this]; rfl
      go_wp2
      go_round
      case rel => exact ⟨k + 1, by omega, by go_num, by rw [← HY.out]⟩
      case measure => simp [intOf]; omega
    · have hkm : k = m.length := by omega
      have e : numN (m.take k) = numN m := by rw [hkm, List.take_length]
      have HE := Lib.hid e
      clear hkm e hcell
      obtain rfl : k = 4 := by omega
      go_wp2
      go_ret
      exact ⟨ret_int (by rw [HM.out, HE.out]), rfl⟩

/-- What Open tells. -/
def OpenPost (a n : Nat) (l : List UInt8) (w : World) (e : Ending) (w' : World) : Prop :=
  Kp NoB w w' ∧ ((openE a n l = 0 ∧ ∃ v', e = .returned (.tuple #[v', .int .i64 ((10 + sizeN l : Nat) : Int), .int .u32 (sumN a n (payN l) : Nat), .int .i64 0]) ∧ Own 5 w' w.heap.size v' (payN l)) ∨
    (openE a n l ≠ 0 ∧ e = .returned (.tuple #[.slice none 0 0, .int .i64 0, .int .u32 0, .int .i64 (openE a n l : Nat)])))

set_option maxRecDepth 100000 in
theorem open_calls (a n : Nat) (l : List UInt8) (v : Value) (w : World) (hT : TabOk w) (ha : a < 4294967296) (hn : n < 4294967296) (hv : BS AllB w v l) :
    Calls Tryd.prog 21 #[.int .u32 a, .int .u32 n, v] w (OpenPost a n l w) := by
  by_cases h10 : l.length < 10
  · obtain ⟨A, c, rfl⟩ := hv.len
    have e : openE a n l = 4 := by unfold openE; rw [if_pos h10]
    go_enter Tryd.func21, Tryd.ntmps21
    go_wp2
    refine bodyPost_ret (results_tmp4 rfl _ _ _) rfl ?_
    exact ⟨Kp.refl _ _, .inr ⟨by rw [e]; decide, by rw [e]; rfl⟩⟩
  · obtain ⟨b, off, c, rfl, hlc, hcell⟩ := hv.pos l.length rfl (by omega)
    have hc0 := hcell 0 (by omega)
    have hc1 := hcell 1 (by omega)
    clear hcell
    have hs := sizeN_two l (by omega)
    rw [Nat.add_zero] at hc0
    obtain ⟨c0, hc0'⟩ : ∃ x, x = l[0]'(by omega) := ⟨_, rfl⟩
    obtain ⟨c1, hc1'⟩ : ∃ x, x = l[1]'(by omega) := ⟨_, rfl⟩
    rw [← hc0'] at hc0 hs
    rw [← hc1'] at hc1 hs
    clear hc0' hc1'
    have hb0 := u8_lt c0
    have hb1 := u8_lt c1
    unfold bv at hc0 hc1
    obtain ⟨s, hs'⟩ : ∃ s, s = sizeN l := ⟨_, rfl⟩
    rw [← hs'] at hs
    have hs16 : s < 65536 := by omega
    have HS := Lib.hid hs'
    have e1 : bits .or .i64 ((c0.toNat : Int) * 256) (c1.toNat : Int) = (s : Int) := by
      have := i64_or_nat (c0.toNat * 256) c1.toNat (by omega) (by omega)
      rw [or_join hb1, ← hs] at this
      rw [← this]; rfl
    clear hs hs'
    by_cases h16 : 16384 < s
    · have e : openE a n l = 3 := by unfold openE; rw [← HS.out, if_neg h10, if_pos h16]
      go_enter Tryd.func21, Tryd.ntmps21
      go_wp2
      go_quiet (fail)
      go_wp2
      refine bodyPost_ret (results_tmp4 rfl _ _ _) rfl ?_
      exact ⟨(Kp.refl _ _).drewN _, .inr ⟨by rw [e]; decide, by rw [e]; rfl⟩⟩
    · by_cases hsh : l.length < 10 + s
      · have e : openE a n l = 4 := by unfold openE; rw [← HS.out, if_neg h10, if_neg h16, if_pos hsh]
        go_enter Tryd.func21, Tryd.ntmps21
        go_wp2
        go_quiet (fail)
        go_wp2
        refine bodyPost_ret (results_tmp4 rfl _ _ _) rfl ?_
        exact ⟨(Kp.refl _ _).drewN _, .inr ⟨by rw [e]; decide, by rw [e]; rfl⟩⟩
      · have hpl : (payN l).length = s := by unfold payN; rw [← HS.out]; simp; omega
        have HP := Lib.hid hpl
        clear hpl
        go_enter Tryd.func21, Tryd.ntmps21
        go_wp2
        go_quiet (fail)
        have hcut : (l.take (10 + s)).drop 10 = payN l := by unfold payN; rw [← HS.out, List.drop_take]; congr 1; omega
        have HC := Lib.hid hcut
        clear hcut
        go_wp2_with (first
          | ((with_reducible refine gate_dst (N := 36) rfl ?_); go_must (refine wp_cut byteT rfl _ _ _ rfl AllB _ l rfl (hv.nob ((Kp.refl _ _).drewN _)) 10 (10 + s) (by omega) (by omega) (.inr ⟨.i64, rfl⟩) (.inr ⟨.i64, by simp [Act.eval]⟩) ?_; intro v1 hv1; rw [HC.out] at hv1))
          | fail)
        refine (clone_calls (payN l) v1 _ hv1 (by rw [HP.out]; omega)).mono ?_
        rintro e w1 ⟨v2, rfl, ho2, hk2⟩
        have hk12 := ((Kp.refl NoB w).drewN _).trans hk2
        have ho2 := ho2.low ((Kp.refl NoB w).drewN _).size
        obtain ⟨A2, c2, rfl⟩ := ho2.bs.len
        go_wp2_with fail
        refine (sum_calls a n (payN l) _ _ (hT.nob hk12) ha hn ho2.bs.all).mono ?_
        rintro e w3 ⟨rfl, hk3⟩
        have hk13 := hk12.trans hk3
        have hv3 := hv.nob hk13
        have ho3 := ho2.nob hk3
        clear hk12 hk2 ho2 hv1 hT
        obtain ⟨x, hx⟩ : ∃ x, x = numN ((l.drop 2).take 4) := ⟨_, rfl⟩
        obtain ⟨y, hy⟩ : ∃ y, y = numN ((l.drop 6).take 4) := ⟨_, rfl⟩
        obtain ⟨z, hz⟩ : ∃ z, z = sumN a n (payN l) := ⟨_, rfl⟩
        have HO : Hid (openE a n l = if x = n ∧ y = z then 0 else 11) := by
          show openE a n l = _
          unfold openE
          rw [hx, hy, hz, ← HS.out, if_neg h10, if_neg h16, if_neg hsh]
          unfold payN
          rw [← HS.out]
        have HX := Lib.hid hx
        have HY := Lib.hid hy
        have HZ := Lib.hid hz
        rw [← hz]
        clear hx hy hz
        by_cases exn : x = n
        · by_cases eyz : y = z
          · have e0 : openE a n l = 0 := by rw [HO.out, if_pos ⟨exn, eyz⟩]
            have EX := Lib.hid exn
            have EY := Lib.hid eyz
            have E0 := Lib.hid e0
            have t1 : ((x : Int) != (n : Int)) = false := by simp [exn]
            have t2 : ((y : Int) != (z : Int)) = false := by simp [eyz]
            clear exn eyz e0
            go_wp2_with (first
              | ((with_reducible refine gate_dst (N := 43) rfl ?_); go_must (refine wp_cutE byteT rfl _ _ rfl AllB _ l rfl hv3 2 (by omega) .i64 rfl ?_; intro v3 hv3'))
              | fail)
            refine (word_calls (l.drop 2) v3 _ hv3' (by simp; omega)).mono ?_
            rintro e w4 ⟨rfl, rfl⟩
            rw [← HX.out]
            go_wp2_with (first
              | ((with_reducible refine gate_dst (N := 49) rfl ?_); go_must (refine gate_guard (by rfl) ?_; refine wp_cutE byteT rfl _ _ rfl AllB _ l rfl hv3 6 (by omega) .i64 rfl ?_; intro v4 hv4'))
              | fail)
            refine (word_calls (l.drop 6) v4 _ hv4' (by simp; omega)).mono ?_
            rintro e w5 ⟨rfl, rfl⟩
            rw [← HY.out]
            go_wp2
            refine bodyPost_ret (results_tmp4 rfl _ _ _) rfl ?_
            refine ⟨hk13, .inl ⟨E0.out, _, ?_, ho3⟩⟩
            rw [← HS.out, ← HZ.out]
            simp
          · have e0 : openE a n l = 11 := by rw [HO.out, if_neg (fun h => eyz h.2)]
            have EX := Lib.hid exn
            have E0 := Lib.hid e0
            have t1 : ((x : Int) != (n : Int)) = false := by simp [exn]
            have t2 : ((y : Int) != (z : Int)) = true := by simp; omega
            clear exn eyz e0
            go_wp2_with (first
              | ((with_reducible refine gate_dst (N := 43) rfl ?_); go_must (refine wp_cutE byteT rfl _ _ rfl AllB _ l rfl hv3 2 (by omega) .i64 rfl ?_; intro v3 hv3'))
              | fail)
            refine (word_calls (l.drop 2) v3 _ hv3' (by simp; omega)).mono ?_
            rintro e w4 ⟨rfl, rfl⟩
            rw [← HX.out]
            go_wp2_with (first
              | ((with_reducible refine gate_dst (N := 49) rfl ?_); go_must (refine gate_guard (by rfl) ?_; refine wp_cutE byteT rfl _ _ rfl AllB _ l rfl hv3 6 (by omega) .i64 rfl ?_; intro v4 hv4'))
              | fail)
            refine (word_calls (l.drop 6) v4 _ hv4' (by simp; omega)).mono ?_
            rintro e w5 ⟨rfl, rfl⟩
            rw [← HY.out]
            go_wp2
            refine bodyPost_ret (results_tmp4 rfl _ _ _) rfl ?_
            exact ⟨hk13, .inr ⟨by rw [E0.out]; decide, by rw [E0.out]; rfl⟩⟩
        · have e0 : openE a n l = 11 := by rw [HO.out, if_neg (fun h => exn h.1)]
          have E0 := Lib.hid e0
          have t1 : ((x : Int) != (n : Int)) = true := by simp; omega
          clear exn e0
          go_wp2_with (first
            | ((with_reducible refine gate_dst (N := 43) rfl ?_); go_must (refine wp_cutE byteT rfl _ _ rfl AllB _ l rfl hv3 2 (by omega) .i64 rfl ?_; intro v3 hv3'))
            | fail)
          refine (word_calls (l.drop 2) v3 _ hv3' (by simp; omega)).mono ?_
          rintro e w4 ⟨rfl, rfl⟩
          rw [← HX.out]
          go_wp2
          refine bodyPost_ret (results_tmp4 rfl _ _ _) rfl ?_
          exact ⟨hk13, .inr ⟨by rw [E0.out]; decide, by rw [E0.out]; rfl⟩⟩
end Go.Proofs.YtgjaggnpheoehaaDoor
