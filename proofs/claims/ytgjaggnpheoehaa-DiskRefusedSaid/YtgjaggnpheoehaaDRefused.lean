/- The walk of the law DiskRefused. -/
import Derived.Test.YtgjaggnpheoehaaDRun
import Derived.Test.YtgjaggnpheoehaaDWakes
set_option linter.unusedVariables false
set_option linter.unusedSimpArgs false
namespace Go.Proofs.Ytgjaggnpheoehaa
open Go.RowKit
attribute [local go_sem ↓] Go.wp_at_zero Go.wp_at_succ

theorem readAll (l : List UInt8) (h : l.length ≤ 1048576) : readL l 0 1048576 = l := by
  unfold readL
  rw [if_neg (by omega)]
  simp
  exact List.take_of_length_le h
theorem DiskIs.caps {w : World} {F R : Nat → Prop} {p : Value} {D : DD} (h : DiskIs w F R p D) : D.cap ≤ 1048576 ∧ D.seen.length ≤ D.cap := by
  obtain ⟨b, _, _, _, _, _, h⟩ := h
  exact ⟨h.c1, h.c3⟩
theorem writeD_cap (D : DD) (a : Int) (b : List UInt8) : (writeD D a b).cap = D.cap := by unfold writeD; split <;> rfl
theorem stepD_cap (D : DD) (x : AR) : (stepD D x).cap = D.cap := by
  unfold stepD
  split
  · exact writeD_cap _ _ _
  · split
    · rfl
    · split <;> rfl
theorem foldD_cap : ∀ (ys : List AR) (D : DD), (ys.foldl stepD D).cap = D.cap
  | [], D => rfl
  | y :: ys, D => (foldD_cap ys (stepD D y)).trans (stepD_cap D y)
theorem runD_cap (xs : List AR) : (runD xs).cap = 400 := foldD_cap _ _
theorem runD_waits (xs : List AR) : (runD xs).waits.length ≤ 30 := by
  refine Nat.le_trans (foldD_waits _ _) ?_
  have := few_length 30 xs
  simp
  omega
/-- What a write that is taken leaves. -/
theorem over_len (s : List UInt8) (a : Nat) (b : List UInt8) (h : a ≤ s.length) : (overL s a b).length = max s.length (a + b.length) := by
  rw [length_overL]
  split <;> omega
theorem ext0 (l m : List UInt8) (hl : l.length = m.length) (h : ∀ k, k < l.length → l.getD k 0 = m.getD k 0) : l = m := by
  refine List.ext_getElem hl fun k h1 h2 => ?_
  have := h k h1
  rwa [List.getD_eq_getElem?_getD, List.getD_eq_getElem?_getD, List.getElem?_eq_getElem h1, List.getElem?_eq_getElem h2] at this
theorem getD_drop0 (l : List UInt8) (a k : Nat) : (l.drop a).getD k 0 = l.getD (a + k) 0 := by
  simp [List.getD_eq_getElem?_getD]
theorem getD_take0 (l : List UInt8) (a k : Nat) (h : k < a) : (l.take a).getD k 0 = l.getD k 0 := by
  simp [List.getD_eq_getElem?_getD, List.getElem?_take, h]
theorem over_mid (s : List UInt8) (a : Nat) (b : List UInt8) (h : a ≤ s.length) : ((overL s a b).drop a).take b.length = b := by
  have hl := over_len s a b h
  refine ext0 _ _ (by simp; omega) fun k hk => ?_
  have hk' : k < b.length := by simp at hk; omega
  rw [getD_take0 _ _ _ hk', getD_drop0, over_get, if_pos (by omega)]
  congr 1
  omega
theorem over_front (s : List UInt8) (a : Nat) (b : List UInt8) (h : a ≤ s.length) : (overL s a b).take a = s.take a := by
  have hl := over_len s a b h
  refine ext0 _ _ (by simp; omega) fun k hk => ?_
  have hk' : k < a := by simp at hk; omega
  rw [getD_take0 _ _ _ hk', getD_take0 _ _ _ hk', over_get, if_neg (by omega)]
theorem over_back (s : List UInt8) (a : Nat) (b : List UInt8) (h : a ≤ s.length) : (overL s a b).drop (a + b.length) = s.drop (min s.length (a + b.length)) := by
  have hl := over_len s a b h
  refine ext0 _ _ (by simp; omega) fun k hk => ?_
  rw [getD_drop0, getD_drop0, over_get, if_neg (by omega)]
  simp at hk
  congr 1
  omega

set_option maxRecDepth 100000 in
set_option maxHeartbeats 8000000 in
theorem diskRefused_walk (xs : List AR) (us : List (Value × Value)) (v vb : Value) (at0 : Int) (b0 : List UInt8) (full : Bool) (w : World) (hv : Acts w v us xs) (hat : inI at0) (hb0 : BS AllB w vb b0) :
    Calls Try.prog 4 #[v, .int .i64 at0, vb, .bool full] w fun e w' => e = .returned (.bool true) ∧ Kp NoB w w' := by
  obtain ⟨kb, vb', hm1, hs1, hb⟩ := BS.clip byteD hb0 500 500 rfl
  have hbl : (b0.take 500).length ≤ 500 := by simp; omega
  obtain ⟨A1, c1, rfl⟩ := hb0.len
  generalize b0.take 500 = b at *
  obtain ⟨a, ha⟩ : ∃ a, a = at0.tmod 500 := ⟨_, rfl⟩
  have ha1 : -500 < a ∧ a < 500 := by
    rw [ha]
    exact ⟨Int.lt_tmod_of_pos _ (by decide), Int.tmod_lt_of_pos _ (by decide)⟩
  have ha' := ha.symm
  clear hb0
  obtain ⟨Av, cv, he, _⟩ := hv.2
  have HV := Lib.hid hv
  subst he
  clear hv ha
  obtain ⟨Ab, cb, rfl⟩ := hb.len
  go_enter Try.func4, Try.ntmps4
  go_wp2_with fail
  refine (run_calls xs us _ w HV.out).mono ?_
  rintro e w1 ⟨p, F1, R1, rfl, d1, m1⟩
  obtain ⟨q, rfl⟩ := d1.ptr
  go_wp2_with fail
  clear hm1 hs1
  refine (fill_calls d1 full).mono ?_
  rintro e w2 ⟨rfl, d2, s2⟩
  have m2 := m1.step s2
  clear d1 m1 s2
  obtain ⟨D, hD⟩ : ∃ D : DD, D = { runD xs with full := full } := ⟨_, rfl⟩
  have d2 : DiskIs w2 F1 R1 (.pointer (some q)) D := by rw [hD]; exact d2
  have hcap : D.cap = 400 := by rw [hD]; exact runD_cap xs
  have hwt : D.waits.length ≤ 30 := by rw [hD]; exact runD_waits xs
  have hfull : D.full = full := by rw [hD]
  have hse : D.seen.length ≤ 400 := by have := d2.caps; omega
  clear hD
  go_wp2_with fail
  refine (read_calls d2 0 1048576 (by decide) (by decide) (by decide)).mono ?_
  rintro e w3 ⟨v3, rfl, o3, k3⟩
  rw [readAll _ (by omega)] at o3
  have d3 := d2.nob k3
  have m3 := m2.nob k3
  have b3 : BS (Out F1 w3) w3 v3 D.seen := o3.bs.mono fun b h1 h2 => d2.fresh w3 b h1 h2.1
  clear d2 m2 k3 o3
  obtain ⟨A3, c3, rfl⟩ := b3.len
  go_wp2_with fail
  refine (waits_calls d3).mono ?_
  rintro e w4 ⟨rfl, rfl⟩
  go_wp2_with fail
  refine (write_calls d3 a b _ ((hb.lt.nob m3.kp).mono fun i _ hi => out_old m3.new m3.kp.size i hi) (by omega) (by omega)).mono ?_
  rintro e w5 ⟨rfl, F5, R5, d5, s5⟩
  have m5 := m3.step s5
  have b5 := b3.step s5
  have hse5 := d5.caps
  rw [writeD_cap, hcap] at hse5
  clear d3 m3 b3 s5
  have hlen5 : (writeD D a b).seen.length ≤ 1048576 := by omega
  go_wp2_with fail
  refine (read_calls d5 0 1048576 (by decide) (by decide) (by decide)).mono ?_
  rintro e w6 ⟨v6, rfl, o6, k6⟩
  rw [readAll _ hlen5] at o6
  have d6 := d5.nob k6
  have m6 := m5.nob k6
  have b6 := b5.all.nob k6
  have x6 := o6.bs.all
  have y6 := (hb.all.nob m5.kp).nob k6
  clear d5 m5 b5 k6 o6
  by_cases hc1 : a < 0 ∨ (D.seen.length : Int) < a
  · have he : writeE D a b = 1 := by unfold writeE; rw [if_pos hc1]
    have hD' : writeD D a b = D := by unfold writeD; rw [he]; rfl
    rw [hD'] at x6 d6
    rw [he]
    obtain ⟨A6, c6, rfl⟩ := x6.len
    clear he hD' hcap hfull
    rcases (by omega : a < 0 ∨ ((0 : Int) ≤ a ∧ (D.seen.length : Int) < a)) with hc1 | ⟨h0, hc1⟩
    all_goals (
      go_wp2_with fail
      refine (equal_calls _ _ _ _ _ b6 x6).mono ?_
      rintro e w7 ⟨rfl, rfl⟩
      rw [show (D.seen == D.seen) = true by simp]
      go_wp2_with fail
      refine (waits_calls d6).mono ?_
      rintro e w8 ⟨rfl, rfl⟩
      go_wp2_with fail
      refine (wakes_calls _).mono ?_
      rintro e w9 ⟨rfl, k9⟩
      go_wp2_with fail
      go_ret
      exact ⟨rfl, m6.kp.trans k9⟩)
  · obtain ⟨n, rfl⟩ : ∃ n : Nat, a = n := ⟨a.toNat, by omega⟩
    have hn : n ≤ D.seen.length := by omega
    have i1 : ¬ ((n : Int) < 0) := by omega
    have i2 : ¬ ((n : Int) > (D.seen.length : Int)) := by omega
    by_cases hc2 : D.full = true ∨ (D.cap : Int) - n < b.length
    · have he : writeE D n b = 7 := by unfold writeE; rw [if_neg hc1, if_pos hc2]
      have hD' : writeD D n b = D := by unfold writeD; rw [he]; rfl
      rw [hD'] at x6 d6
      rw [he]
      obtain ⟨A6, c6, rfl⟩ := x6.len
      rw [hfull, hcap] at hc2
      clear he hD' hcap hfull hc1
      have hc3 : full = true ∨ (full = false ∧ (n : Int) + b.length > 400) := by
        rcases Bool.eq_false_or_eq_true full with h | h
        · exact .inl h
        · exact .inr ⟨h, by rcases hc2 with h2 | h2; · rw [h] at h2; cases h2
                            · omega⟩
      clear hc2
      rcases hc3 with rfl | ⟨rfl, hc3⟩
      all_goals (
        go_wp2_with fail
        refine (equal_calls _ _ _ _ _ b6 x6).mono ?_
        rintro e w7 ⟨rfl, rfl⟩
        rw [show (D.seen == D.seen) = true by simp]
        go_wp2_with fail
        refine (waits_calls d6).mono ?_
        rintro e w8 ⟨rfl, rfl⟩
        go_wp2_with fail
        refine (wakes_calls _).mono ?_
        rintro e w9 ⟨rfl, k9⟩
        go_wp2_with fail
        go_ret
        exact ⟨rfl, m6.kp.trans k9⟩)
    · have he : writeE D n b = 0 := by unfold writeE; rw [if_neg hc1, if_neg hc2]
      have hD' : writeD D n b = { D with seen := overL D.seen n b, waits := D.waits ++ [(n, b)] } := by unfold writeD; rw [he]; rfl
      have hff : full = false := by cases full <;> simp_all
      have hfit : (n : Int) + b.length ≤ 400 := by rw [hcap] at hc2; omega
      subst hff
      rw [he]
      rw [hD'] at x6 d6
      simp only at x6
      have hol := over_len D.seen n b hn
      have hmid := over_mid D.seen n b hn
      have hfr := over_front D.seen n b hn
      have hbk := over_back D.seen n b hn
      have hfit' : n + b.length ≤ 400 := by omega
      obtain ⟨s, hs⟩ : ∃ s, s = overL D.seen n b := ⟨_, rfl⟩
      rw [← hs] at x6 d6 hol hmid hfr hbk
      have hsl : s.length ≤ 1048576 := by omega
      -- the slices and numbers of the last statement
      obtain ⟨mx, hmx⟩ : ∃ mx : Nat, mx = max D.seen.length (n + b.length) := ⟨_, rfl⟩
      obtain ⟨mm, hmm⟩ : ∃ mm : Nat, mm = min D.seen.length (n + b.length) := ⟨_, rfl⟩
      rw [← hmx] at hol
      rw [← hmm] at hbk
      have hmxr : ∀ (W' : World) ts ty, (Builtin.max_ ts ty #[.int .i64 (D.seen.length : Int), .int .i64 ((n : Int) + b.length)]).run Try.prog W' = .ok (.int .i64 (mx : Int)) W' := by
        intro W' ts ty
        rw [run_max_int2]
        have e1 : (if ((n : Int) + b.length) > (D.seen.length : Int) then ((n : Int) + b.length) else (D.seen.length : Int)) = (mx : Int) := by rw [hmx]; split <;> omega
        rw [e1]
      have hmmr : ∀ (W' : World) ts ty, (Builtin.min_ ts ty #[.int .i64 (D.seen.length : Int), .int .i64 ((n : Int) + b.length)]).run Try.prog W' = .ok (.int .i64 (mm : Int)) W' := by
        intro W' ts ty
        rw [run_min_int2]
        have e1 : (if ((n : Int) + b.length) < (D.seen.length : Int) then ((n : Int) + b.length) else (D.seen.length : Int)) = (mm : Int) := by rw [hmm]; split <;> omega
        rw [e1]
      obtain ⟨t1, _, ht1, z1⟩ := run_cut byteD x6 0 n (Nat.zero_le _) (by omega) none (some (.int .i64 (n : Int))) (.inl ⟨rfl, rfl⟩) (.inr ⟨.i64, rfl⟩)
      obtain ⟨t2, _, ht2, z2⟩ := run_cut byteD b6 0 n (Nat.zero_le _) hn none (some (.int .i64 (n : Int))) (.inl ⟨rfl, rfl⟩) (.inr ⟨.i64, rfl⟩)
      obtain ⟨t3, _, ht3, z3⟩ := run_cut byteD x6 (n + b.length) s.length (by omega) (Nat.le_refl _) (some (.int .i64 ((n + b.length : Nat) : Int))) none (.inr ⟨.i64, rfl⟩) (.inl ⟨rfl, rfl⟩)
      obtain ⟨t4, _, ht4, z4⟩ := run_cut byteD b6 mm D.seen.length (by omega) (Nat.le_refl _) (some (.int .i64 (mm : Int))) none (.inr ⟨.i64, rfl⟩) (.inl ⟨rfl, rfl⟩)
      rw [List.drop_zero] at z1 z2
      rw [List.take_length] at z3 z4
      rw [hfr] at z1
      rw [hbk] at z3
      have ht3' : ∀ W', (Instr.slice 28 v6 (some (.int .i64 ((n : Int) + b.length))) none none).run Try.prog W' = .ok t3 W' := fun W' => by have := ht3 W'; simpa using this
      have hrd : readL s n b.length = b := by
        unfold readL
        rw [if_neg (by omega)]
        exact hmid
      have e1 : IntKind.i64.wrap ((n : Int) + b.length) = (n : Int) + b.length := wrap_in (by omega) (by omega)
      have e2 : IntKind.i64.wrap ((D.waits.length : Int) + 1) = (D.waits.length : Int) + 1 := wrap_in (by omega) (by omega)
      have hwl : (D.waits ++ [(n, b)]).length = D.waits.length + 1 := by simp
      generalize D.seen.take n = l1 at *
      generalize D.seen.drop mm = l2 at *
      obtain ⟨A6, c6, rfl⟩ := x6.len
      obtain ⟨B1, f1, rfl⟩ := z1.len
      obtain ⟨B2, f2, rfl⟩ := z2.len
      obtain ⟨B3, f3, rfl⟩ := z3.len
      obtain ⟨B4, f4, rfl⟩ := z4.len
      have HE1 := Lib.hid e1
      have HE2 := Lib.hid e2
      have HOL := Lib.hid hol
      have HRD := Lib.hid hrd
      have HWL := Lib.hid hwl
      have hgt : ¬ ((n : Int) + b.length > 400) := by omega
      clear he hD' hcap hfull hc1 hc2 hmid hfr hbk hs hmx hmm ht3 e1 e2 hol hrd hwl hse5 hlen5
      go_wp2_with fail
      have kd := (Kp.refl NoB w6).drew
      have hread := read_calls (d6.nob kd) (n : Int) (b.length : Int) (by omega) (by omega) (by omega)
      have e1 := HE1.out
      have e2 := HE2.out
      have hol : ((s.length : Int) == (mx : Int)) = true := by rw [HOL.out]; simp
      have u1 := z1.nob kd
      have u2 := z2.nob kd
      have u3 := z3.nob kd
      have u4 := z4.nob kd
      have ub := y6.nob kd
      clear z1 z2 z3 z4 y6 hmxr
      go_region_held3 (fun _ => True) (exact trivial)
        (first
          | (go_at_call 11; refine hread.mono ?_; rintro e wr ⟨vr, rfl, or, kr⟩; rw [HRD.out] at or; obtain ⟨Ar, cr, rfl⟩ := or.bs.len)
          | (go_at_call 17; refine (equal_calls b b (.slice Ar b.length cr) (.slice Ab b.length cb) wr or.bs.all (ub.nob kr)).mono ?_; rintro e w7 ⟨rfl, rfl⟩; rw [show (b == b) = true by simp])
          | (go_at_call 17; refine (equal_calls l1 l1 (.slice B1 l1.length f1) (.slice B2 l1.length f2) wr (u1.nob kr) (u2.nob kr)).mono ?_; rintro e w7 ⟨rfl, rfl⟩; rw [show (l1 == l1) = true by simp])
          | (go_at_call 17; refine (equal_calls l2 l2 (.slice B3 l2.length f3) (.slice B4 l2.length f4) wr (u3.nob kr) (u4.nob kr)).mono ?_; rintro e w7 ⟨rfl, rfl⟩; rw [show (l2 == l2) = true by simp])
          | (go_at_call 14; refine (waits_calls (d6.nob (kd.trans kr))).mono ?_; rintro e w8 ⟨rfl, rfl⟩; rw [HWL.out])
          | (go_at_call 18; refine (wakes_calls wr).mono ?_; rintro e w9 ⟨rfl, k9⟩)
          | fail)
      go_wp2_with fail
      go_ret
      exact ⟨rfl, ((m6.kp.trans kd).trans kr).trans k9⟩
end Go.Proofs.Ytgjaggnpheoehaa
