/- one: a call with both disks. -/
import Derived.Test.YtgjaggnpheoehaaDPair
import Derived.Test.YtgjaggnpheoehaaDRun
set_option linter.unusedVariables false
set_option linter.unusedSimpArgs false
namespace Go.Proofs.Ytgjaggnpheoehaa
open Go.RowKit

set_option maxRecDepth 100000 in
/-- bytes.Clone. -/
theorem cloneB_calls (l : List UInt8) (v : Value) (w : World) (hv : BS AllB w v l) (hl : l.length ≤ 140737488355328) :
    Calls Try.prog 28 #[v] w fun e w' => ∃ v', e = .returned v' ∧ Own 5 w' w.heap.size v' l ∧ Kp NoB w w' := by
  obtain ⟨A, c, he, _, _, hn, _⟩ := id hv
  rcases A with _ | ad
  · have h0 := hn rfl
    subst he
    have hl0 : l = [] := by
      obtain ⟨A', c', he', h1, _, h2, _⟩ := id hv
      injection he' with e1 e2 e3
      have := h2 e1.symm
      exact List.eq_nil_of_length_eq_zero (by omega)
    subst hl0
    subst h0
    clear hv hn hl
    have hnil := fun w : World => Lib.run_eql_slice_nil (P := Try.prog) w 28 5 none 0 0 0 0 Try.underlying28
    go_enter Try.func28, Try.ntmps28
    go_wp2
    go_ret
    exact ⟨_, rfl, Own.nil _ _ _, Kp.refl _ _⟩
  · subst he
    clear hn
    have hne := fun w : World => Lib.run_eql_slice_nil (P := Try.prog) w 28 5 (some ad) l.length c 0 0 Try.underlying28
    have HV := Lib.hid hv
    clear hv
    go_enter Try.func28, Try.ntmps28
    go_wp2_with ((with_reducible refine gate_dst (N := 7) rfl ?_); go_must (refine wp_appK (w0 := w) byteD NoB rfl _ _ rfl _ _ [] l rfl rfl AllB (Own.lit _ _ _ [] 0 rfl rfl (by simp)) ((Kp.refl _ _).alloc _) (HV.out.nob ((Kp.refl _ _).alloc _)) (by simpa using hl) ?_); intro v' w' ho hk)
    go_ret
    exact ⟨_, rfl, by simpa using ho, hk⟩

theorem c2_kp {F : Nat → Prop} {w w' : World} {p1 p2 : Addr} {v1 v2 : Value} (k : Kp F w w') (h : w.cell? p1 = some v1 ∧ w.cell? p2 = some v2) (h1 : ¬ F p1.block) (h2 : ¬ F p2.block) :
    w'.cell? p1 = some v1 ∧ w'.cell? p2 = some v2 := ⟨k.cell h.1 h1, k.cell h.2 h2⟩
def stepP (D : DD) (x : AR) : DD :=
  if 0 ≤ x.what ∧ x.what ≤ 4 then writeD D x.at' x.b
  else if x.what = 5 then { D with sure := D.seen, waits := [] }
  else if x.what = 6 then { D with sure := crashL D.sure D.waits x.keep, seen := crashL D.sure D.waits x.keep, waits := [] }
  else if x.what = 7 then { D with full := x.at'.tmod 2 != 0 } else D

set_option maxRecDepth 100000 in
set_option maxHeartbeats 4000000 in
theorem one_calls {w : World} {F T : Nat → Prop} {p r : Value} {D : DD} (h : Pair w F T p r D D) (x : AR) (u1 u2 : Value) (hb : BS (Out F w) w u1 x.b) (hk : Vals (Out F w) w u2 (x.keep.map (.int .i64))) (hx : x.ok) (hbl : x.b.length ≤ 1000000) (hw : D.waits.length ≤ 1000000) :
    Calls Try.prog 22 #[p, r, .agg #[.int .i64 x.what, .int .i64 x.at', .int .i64 x.many, u1, u2]] w fun e w' => e = .returned (.bool true) ∧ ∃ F' T', Pair w' F' T' p r (stepP D x) (stepP D x) ∧ PStep F T w w' F' T' := by
  obtain ⟨p0, r0, rfl, rfl⟩ := h.ptr
  obtain ⟨wh, at', many, b, keep⟩ := x
  obtain ⟨hi1, hi2, hi3, hi4⟩ := hx
  obtain ⟨B1, d1, rfl⟩ := hb.len
  obtain ⟨B2, d2, rfl⟩ := hk.len
  rw [List.length_map] at *
  simp only at hi1 hi2 hi3 hi4 hb hk hbl ⊢
  have H := Lib.hid h
  have HB := Lib.hid hb
  have HK := Lib.hid hk
  have HKI := Lib.hid hi4
  clear h hb hk hi4
  have hcase : (0 ≤ wh ∧ wh ≤ 4) ∨ wh = 5 ∨ wh = 6 ∨ wh = 7 ∨ wh = 8 ∨ ((wh == 0) = false ∧ (wh == 1) = false ∧ (wh == 2) = false ∧ (wh == 3) = false ∧ (wh == 4) = false ∧ (wh == 5) = false ∧ (wh == 6) = false ∧ (wh == 7) = false ∧ (wh == 8) = false) := by
    simp only [beq_eq_false_iff_ne]; omega
  have kal : Kp NoB w (w.alloc (.cells #[.int .i64 wh, .int .i64 at', .int .i64 many, .slice B1 b.length d1, .slice B2 keep.length d2] 33)) := (Kp.refl _ _).alloc _
  have hh := heap_alloc_new w (.cells #[.int .i64 wh, .int .i64 at', .int .i64 many, .slice B1 b.length d1, .slice B2 keep.length d2] 33)
  have hbx : ∀ i v, (#[.int .i64 wh, .int .i64 at', .int .i64 many, .slice B1 b.length d1, .slice B2 keep.length d2] : Array Value)[i]? = some v → (w.alloc (.cells #[.int .i64 wh, .int .i64 at', .int .i64 many, .slice B1 b.length d1, .slice B2 keep.length d2] 33)).cell? ⟨w.heap.size, i, none⟩ = some v := by
    intro i v hv
    simp only [World.cell?, hh]
    exact hv
  have hbF : ¬ F w.heap.size := fun hf => by have := H.out.lt _ hf; omega
  have KAL := Lib.hid kal
  have HBX := Lib.hid hbx
  clear kal hh hbx
  rcases hcase with hcw | rfl | rfl | rfl | rfl | ⟨j0, j1, j2, j3, j4, j5, j6, j7, j8⟩
  · have hst : stepP D { what := wh, at' := at', many := many, b := b, keep := keep } = writeD D at' b := by unfold stepP; rw [if_pos hcw]
    rw [hst]
    clear hst
    have h5 : wh = 0 ∨ wh = 1 ∨ wh = 2 ∨ wh = 3 ∨ wh = 4 := by omega
    clear hcw
    rcases h5 with rfl | rfl | rfl | rfl | rfl
    all_goals (
      go_enter Try.func22, Try.ntmps22
      go_wp2_with fail
      have x1 : _ = some (Value.int .i64 at') := HBX.out 1 _ rfl
      have x3 : _ = some (Value.slice B1 b.length d1) := HBX.out 3 _ rfl
      have hbw := HB.out.nob KAL.out
      generalize (w.alloc (.cells #[.int .i64 _, .int .i64 at', .int .i64 many, .slice B1 b.length d1, .slice B2 keep.length d2] 33)) = wa at *
      have hlen : b.length ≤ 140737488355328 := by omega
      refine (cloneB_calls b _ wa hbw.all hlen).mono ?_
      rintro e w1 ⟨v1, rfl, ho1, hk1⟩
      obtain ⟨A1, c1, rfl⟩ := ho1.bs.len
      obtain ⟨x1, x3⟩ := c2_kp (F := NoB) (hk1.drew) ⟨x1, x3⟩ id id
      have k1 := KAL.out.trans hk1
      have kd : Kp NoB w w1.drew := k1.drew
      have hp1 := H.out.nob kd
      have z0 := KAL.out.size
      have z1 := hk1.size
      have hlt1 := ho1.lt
      have hbd : BS (Out F w1.drew) w1.drew (.slice B1 b.length d1) b := (HB.out.nob kd).mono fun k h1 h2 => ⟨h1, h2.2⟩
      have od : Own 5 w1.drew wa.heap.size (.slice A1 b.length c1) b := ho1.nob (Kp.refl NoB w1).drew
      have hoF : ∀ k, (Value.slice A1 b.length c1).ownBlock = some k → ¬ F k ∧ ¬ T k := fun k hk => ⟨fun hf => by have := H.out.lt k hf; have := (hlt1 k hk).1; omega, fun hf => by have := H.out.ltT k hf; have := (hlt1 k hk).1; omega⟩
      have zd : w1.drew.heap.size = w1.heap.size := rfl
      have hbx1 : w.heap.size < w1.drew.heap.size := by rw [zd]; have := World.block_lt_of_cell? w1.drew _ x1; exact this
      obtain ⟨A, R, hd, hAF, hn1⟩ := hp1.disk
      have HP1 := Lib.hid hp1
      have HBD := Lib.hid hbd
      have HOD := Lib.hid od
      have KD := Lib.hid kd
      have HOF := Lib.hid hoF
      have HLT1 := Lib.hid hlt1
      have ZD := Lib.hid zd
      clear ho1 hk1 k1 hp1 z0 z1 hlt1 hbd od kd hoF zd hbw hlen
      have x1d := x1
      have x3d := x3
      go_wp2_with fail
      go_region_held3 (fun w' => w'.cell? ⟨w.heap.size, 1, none⟩ = some (.int .i64 at') ∧ w'.cell? ⟨w.heap.size, 3, none⟩ = some (.slice B1 b.length d1))
        (first
          | exact ⟨x1d, x3d⟩
          | exact c2_kp (F := F) (by assumption) (by assumption) hbF hbF
          | exact c2_kp (F := F1) (by assumption) (by assumption) hbF1 hbF1
          | go_keep)
        (first
          | (go_at_call 29; obtain ⟨B, S, hr, hBF, hn2⟩ := p1.ref; refine (refWrite_calls hr at' b _ ((HBD.out.pstep t1).mono fun k h1 h2 => ⟨h1, fun hb => h2.2 (hBF k hb)⟩) hi2 hw (by omega)).mono ?_; rintro e w3 ⟨rfl, F3, R3, hr3, s3⟩; obtain ⟨F2, T2, p2, t2⟩ := hn2 _ _ _ _ hr3 s3; have k2 := t2.kp; clear hn2 hr hr3 s3)
          | (go_at_call 13; refine (write_calls hd at' b _ (HOD.out.bs.mono fun k h1 h2 => ⟨h1, fun hb => (HOF.out k h2.2).1 (hAF k hb)⟩) hi2 hw).mono ?_; rintro e w2 ⟨rfl, F3, R3, hd3, s3⟩; obtain ⟨F1, T1, p1, t1⟩ := hn1 _ _ _ _ hd3 s3; have k1 := t1.kp; have hbF1 : ¬ F1 w.heap.size := (fun hf => (t1.f _ hf).elim hbF fun hge => absurd hbx1 (by omega)); clear hn1 hd hd3 s3)
          | fail)
      have tt := t1.trans t2
      have o3 := HOD.out.kp tt.kp fun k _ hk => (HOF.out k hk).1
      have hoF2 : ∀ k, (Value.slice A1 b.length c1).ownBlock = some k → ¬ F2 k ∧ ¬ T2 k := fun k hk => by
        have hl := (HLT1.out k hk).2
        have zd : w1.drew.heap.size = w1.heap.size := ZD.out
        exact ⟨fun hf => (tt.f k hf).elim (HOF.out k hk).1 fun hge => by omega, fun hf => (tt.t k hf).elim (HOF.out k hk).2 fun hge => by omega⟩
      have TT := Lib.hid ((PStep.of_nob (F := F) (T := T) KD.out).trans tt)
      have HO3 := Lib.hid o3
      have HOF2 := Lib.hid hoF2
      clear t1 t2 tt o3 hoF2 k1 k2 x1 x3 x1d x3d hbF1 p1 hbx1
      have P2 := Lib.hid p2
      clear p2
      go_wp2_with fail
      rename World => w3
      go_loopw [35] (fun i wr => ∃ (k : Nat) (ns : List Int), k ≤ b.length ∧ ns.length = b.length ∧ i = .int .i64 k ∧ wr.ownsRow wa.heap.size 5 1 (.slice A1 b.length c1) b.length (ns.map (.int .u8)) ∧ Kp (fun k => (Value.slice A1 b.length c1).ownBlock = some k) w3 wr) (fun i _ => b.length - (intOf i).toNat)
      case atStart => exact ⟨0, b.map (fun c => (c.toNat : Int)), Nat.zero_le _, by simp, rfl, by have := HO3.out; unfold Own bvs at this; rw [List.map_map]; exact this, Kp.refl _ _⟩
      case round =>
        obtain ⟨k, ns, hk, hns, rfl, ho, hkw⟩ := hrel
        by_cases hlt : k < b.length
        · obtain ⟨g, rfl, hcc⟩ : ∃ g, A1 = some ⟨g, 0, none⟩ ∧ b.length ≤ c1 := by
            rcases ho.2 with ⟨_, h0⟩ | ⟨g, cap, cur, he, _, _, h3, _⟩
            · omega
            · injection he with e1 e2 e3
              subst e3
              exact ⟨g, e1, h3⟩
          have hc := World.ownsRow.cellAt ho k (by omega)
          have hz := World.ownsRow.frozenAt ho k
          have hgk : (ns.map (Value.int .u8))[k]? = some (.int .u8 (ns[k]'(by omega))) := by simp [hns, hlt]
          rw [hgk] at hc
          have hst : ∀ X : Int, (wr.setCell ⟨g, k, none⟩ (.int .u8 X)).ownsRow wa.heap.size 5 1 (.slice (some ⟨g, 0, none⟩) b.length c1) b.length ((ns.set k X).map (.int .u8)) := by
            intro X
            have := (World.ownsRow.stored ho k (.int .u8 X)).1
            rw [List.map_set]
            exact this
          generalize ns[k]'(by omega) = m at *
          have HST := Lib.hid hst
          have HNS := Lib.hid hns
          have HKW := Lib.hid hkw
          clear hst hns hkw ho hgk
          go_wp2_with fail
          go_roundw
          case rel => exact ⟨k + 1, ns.set k _, by omega, by rw [List.length_set]; exact HNS.out, by go_num, HST.out _, HKW.out.trans (kp_set.mono fun i _ hi => by rw [hi]; rfl)⟩
          case measure => simp [intOf]; omega
        · have HKW := Lib.hid hkw
          have HO := Lib.hid ho
          clear hkw ho hns
          go_wp2_with fail
          go_ret
          have hlo := HLT1.out
          have zz := KAL.out.size
          refine ⟨rfl, F2, T2, P2.out.kp HKW.out fun i _ hi => HOF2.out i hi, ⟨TT.out.kp.step HKW.out fun i hi hown => ?_, TT.out.f, TT.out.t⟩⟩
          have := (hlo i hown).1
          omega)
  · have hst : stepP D { what := 5, at' := at', many := many, b := b, keep := keep } = { D with sure := D.seen, waits := [] } := by simp [stepP]
    rw [hst]
    clear hst
    go_enter Try.func22, Try.ntmps22
    go_wp2_with fail
    obtain ⟨B, S, hr, hBF, hnext⟩ := (H.out.nob KAL.out).ref
    refine (refSync_calls hr hw).mono ?_
    rintro e w1 ⟨rfl, S1, hr1, s1⟩
    obtain ⟨F1, T1, p1, t1⟩ := hnext _ _ _ _ hr1 s1
    clear hnext hr hr1 s1
    go_wp2_with fail
    obtain ⟨A, R, hd, hAF, hnext⟩ := p1.disk
    refine (sync_calls hd).mono ?_
    rintro e w2 ⟨rfl, A2, R2, hd2, s2⟩
    obtain ⟨F2, T2, p2, t2⟩ := hnext _ _ _ _ hd2 s2
    clear hnext hd hd2 s2
    go_wp2_with fail
    go_ret
    exact ⟨rfl, F2, T2, p2, (PStep.of_nob KAL.out).trans (t1.trans t2)⟩
  · have hst : stepP D { what := 6, at' := at', many := many, b := b, keep := keep } = { D with sure := crashL D.sure D.waits keep, seen := crashL D.sure D.waits keep, waits := [] } := by simp [stepP]
    rw [hst]
    clear hst
    go_enter Try.func22, Try.ntmps22
    go_wp2_with fail
    have x4 := HBX.out 4 _ rfl
    have hk1 := HK.out.nob KAL.out
    have hkw := KAL.out.size
    have hp1 := H.out.nob KAL.out
    obtain ⟨B, S, hr, hBF, hnext⟩ := hp1.ref
    refine (refCrash_calls hr keep _ (hk1.mono fun k h1 hk => ⟨h1, fun hb => hk.2 (hBF k hb)⟩) HKI.out hw).mono ?_
    rintro e w1 ⟨rfl, S1, hr1, s1⟩
    obtain ⟨F1, T1, p1, t1⟩ := hnext _ _ _ _ hr1 s1
    have y4 := t1.kp.cell x4 hbF
    have hk2 := hk1.kp t1.kp fun k _ hk => hk.2
    have hkf : ∀ k, Out F w k → ¬ F1 k := fun k hk hf => (t1.f k hf).elim hk.2 fun hge => absurd hk.1 (by omega)
    clear hnext hr hr1 s1 x4 hp1 hk1
    go_wp2_with fail
    obtain ⟨A, R, hd, hAF, hnext⟩ := p1.disk
    refine (crash_calls hd keep _ (hk2.mono fun k h1 hk => ⟨h1, fun ha => hkf k hk (hAF k ha)⟩) HKI.out hw).mono ?_
    rintro e w2 ⟨rfl, A2, R2, hd2, s2⟩
    obtain ⟨F2, T2, p2, t2⟩ := hnext _ _ _ _ hd2 s2
    clear hnext hd hd2 s2 y4
    go_wp2_with fail
    go_ret
    exact ⟨rfl, F2, T2, p2, (PStep.of_nob KAL.out).trans (t1.trans t2)⟩
  · have hst : stepP D { what := 7, at' := at', many := many, b := b, keep := keep } = { D with full := at'.tmod 2 != 0 } := by simp [stepP]
    rw [hst]
    clear hst
    have hp1 := H.out.nob KAL.out
    obtain ⟨B, S, hr, hBF, hnext⟩ := hp1.ref
    obtain ⟨q, vw, he, f1, z1, _⟩ := hr.full
    injection he with he
    injection he with he
    subst he
    obtain ⟨hr1, s1⟩ := hr.setFull (at'.tmod 2 != 0)
    obtain ⟨F1, T1, p1, t1⟩ := hnext _ _ _ _ hr1 s1
    obtain ⟨_, _, hr2, _, _⟩ := p1.ref
    obtain ⟨q', vw', he, f1', _⟩ := hr2.full
    injection he with he
    injection he with he
    injection he with he
    subst he
    have P1 := Lib.hid p1
    have HT1 := Lib.hid t1
    have F1' := Lib.hid f1'
    clear hnext hr hr1 s1 hp1 hr2 p1 t1 f1'
    go_enter Try.func22, Try.ntmps22
    go_wp2_with fail
    obtain ⟨A, R, hd, hAF, hnext⟩ := P1.out.disk
    refine (fill_calls hd _).mono ?_
    rintro e w2 ⟨rfl, hd2, s2⟩
    obtain ⟨F2, T2, p2, t2⟩ := hnext _ _ _ _ hd2 s2
    clear hnext hd hd2 s2
    go_wp2_with fail
    go_ret
    exact ⟨rfl, F2, T2, p2, (PStep.of_nob KAL.out).trans (HT1.out.trans t2)⟩
  · have hst : stepP D { what := 8, at' := at', many := many, b := b, keep := keep } = D := by simp [stepP]
    rw [hst]
    clear hst
    go_enter Try.func22, Try.ntmps22
    go_wp2_with fail
    have x1 := HBX.out 1 _ rfl
    have x2 := HBX.out 2 _ rfl
    obtain ⟨A, R, hd, hAF, _⟩ := (H.out.nob KAL.out).disk
    obtain ⟨B, S, hr, hBF, _⟩ := (H.out.nob KAL.out).ref
    generalize (w.alloc (.cells #[.int .i64 8, .int .i64 at', .int .i64 many, .slice B1 b.length d1, .slice B2 keep.length d2] 33)) = wa at *
    have hd := hd.nob (Kp.refl NoB wa).drew
    have hr := hr.nob (Kp.refl NoB wa).drew
    have HD := Lib.hid hd
    have HR := Lib.hid hr
    clear hd hr
    go_region_held3 (fun w' => w'.cell? ⟨w.heap.size, 1, none⟩ = some (.int .i64 at') ∧ w'.cell? ⟨w.heap.size, 2, none⟩ = some (.int .i64 many))
      (first
        | exact c2_kp (F := NoB) (Kp.refl _ _).drew ⟨x1, x2⟩ id id
        | exact c2_kp (F := NoB) (by assumption) (by assumption) id id
        | assumption
        | go_keep)
      (first
        | (go_at_call 17; refine (equal_calls _ _ _ _ w2 (hv1.bs.all.nob hk2) hv2.all).mono ?_; rintro e w3 ⟨rfl, rfl⟩)
        | (go_at_call 32; refine (refRead_calls (HR.out.nob hk1) at' many hi2 hi3 hw).mono ?_; rintro e w2 ⟨v2, rfl, hv2, hk2⟩; obtain ⟨A2, e2, rfl⟩ := hv2.len)
        | (go_at_call 11; refine (read_calls HD.out at' many hi3.2 hi3.1 hi2.2).mono ?_; rintro e w1 ⟨v1, rfl, hv1, hk1⟩; obtain ⟨A1, e1, rfl⟩ := hv1.bs.len)
        | fail)
    have kk := (KAL.out.drew.trans hk1).trans hk2
    clear hv1 hv2 hk1 hk2 x1 x2
    go_wp2_with fail
    go_ret
    exact ⟨rfl, F, T, H.out.nob kk, PStep.of_nob kk⟩
  · have hst : stepP D { what := wh, at' := at', many := many, b := b, keep := keep } = D := by
      simp only [beq_eq_false_iff_ne] at *
      unfold stepP
      rw [if_neg (by show ¬ (0 ≤ wh ∧ wh ≤ 4); omega), if_neg j5, if_neg j6, if_neg j7]
    rw [hst]
    clear hst
    go_enter Try.func22, Try.ntmps22
    go_wp2_with fail
    go_ret
    exact ⟨rfl, F, T, H.out.nob KAL.out, PStep.of_nob KAL.out⟩
end Go.Proofs.Ytgjaggnpheoehaa
