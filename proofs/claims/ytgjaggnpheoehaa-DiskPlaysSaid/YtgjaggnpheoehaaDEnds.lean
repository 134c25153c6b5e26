/- The walk of the law DiskEnds. -/
import Derived.Test.YtgjaggnpheoehaaDRun
import Derived.Test.YtgjaggnpheoehaaDWakes
set_option linter.unusedVariables false
set_option linter.unusedSimpArgs false
namespace Go.Proofs.Ytgjaggnpheoehaa
open Go.RowKit

theorem readL_all (l : List UInt8) (h : l.length ≤ 1048576) : readL l 0 1048576 = l := by
  unfold readL
  rw [if_neg (by omega)]
  simp
  exact List.take_of_length_le h
theorem DiskIs.cap1 {w : World} {F R : Nat → Prop} {p : Value} {D : DD} (h : DiskIs w F R p D) : D.cap ≤ 1048576 ∧ D.sure.length ≤ D.cap ∧ D.seen.length ≤ D.cap ∧ ∀ x ∈ D.waits, x.1 + x.2.length ≤ D.cap := by
  obtain ⟨b, _, _, _, _, _, h⟩ := h
  exact ⟨h.c1, h.c2, h.c3, h.c4⟩
/-- Writes alone. -/
def runW (D : DD) (ys : List AR) : DD := ys.foldl (fun D x => writeD D x.at' x.b) D
theorem runW_waits : ∀ (ys : List AR) (D : DD), (runW D ys).waits.length ≤ D.waits.length + ys.length
  | [], D => by simp [runW]
  | y :: ys, D => by
    have h1 := runW_waits ys (writeD D y.at' y.b)
    have h2 := writeD_waits D y.at' y.b
    simp only [runW, List.foldl_cons, List.length_cons] at *
    omega
theorem runW_snoc (ys : List AR) (D : DD) (k : Nat) (h : k < ys.length) : runW D (ys.take (k + 1)) = writeD (runW D (ys.take k)) ys[k].at' ys[k].b := by
  unfold runW
  rw [List.take_succ_eq_append_getElem h, List.foldl_append]
  rfl
theorem writeD_sure (D : DD) (a : Int) (b : List UInt8) : (writeD D a b).sure = D.sure := by unfold writeD; split <;> rfl
theorem runW_sure : ∀ (ys : List AR) (D : DD), (runW D ys).sure = D.sure
  | [], D => rfl
  | y :: ys, D => (runW_sure ys (writeD D y.at' y.b)).trans (writeD_sure D y.at' y.b)
theorem crash_append : ∀ (ds : List (Nat × List UInt8)) (ks : List Int) (s : List UInt8) (a : Nat) (b : List UInt8) (k : Int), ks.length = ds.length → crashL s (ds ++ [(a, b)]) (ks ++ [k]) = overL (crashL s ds ks) a (b.take k.toNat)
  | [], [], s, a, b, k, _ => by simp [crashL]
  | (x, y) :: ds, z :: ks, s, a, b, k, h => by
    simp only [List.cons_append, crashL]
    exact crash_append ds ks _ a b k (by simpa using h)
  | [], _ :: _, _, _, _, _, h => by simp at h
  | _ :: _, [], _, _, _, _, h => by simp at h
theorem over_nil (s : List UInt8) (a : Nat) : overL s a [] = s := by simp [overL]
theorem crash_zero : ∀ (ds : List (Nat × List UInt8)) (n : Nat) (s : List UInt8), crashL s ds (List.replicate n 0) = s
  | [], n, s => by cases n <;> simp [crashL]
  | (x, y) :: ds, 0, s => by simp [crashL]
  | (x, y) :: ds, n + 1, s => by
    simp only [List.replicate_succ, crashL]
    rw [show y.take (0 : Int).toNat = [] by simp, over_nil]
    exact crash_zero ds n s
theorem crash_all : ∀ (ys : List AR) (D : DD), (∀ y ∈ ys, y.b.length ≤ 40) → crashL D.sure D.waits (List.replicate D.waits.length 40) = D.seen → crashL (runW D ys).sure (runW D ys).waits (List.replicate (runW D ys).waits.length 40) = (runW D ys).seen
  | [], D, _, h => h
  | y :: ys, D, hy, h => by
    refine crash_all ys (writeD D y.at' y.b) (fun z hz => hy z (by simp [hz])) ?_
    unfold writeD
    split
    · simp only [List.length_append, List.length_cons, List.length_nil]
      rw [List.replicate_succ', crash_append _ _ _ _ _ _ (by simp), h]
      congr 1
      exact List.take_of_length_le (by have := hy y (by simp); simpa using this)
    · exact h
theorem few_b (n : Nat) (xs : List AR) : ∀ y ∈ few n xs, y.b.length ≤ 40 := by
  intro y hy
  obtain ⟨x, _, rfl⟩ := List.mem_map.1 hy
  simp [fewA]; omega

theorem make_ints (m : Nat) (hm : m ≤ 1000000) (W : World) :
    (Instr.makeSlice 30 (.int .i64 (m : Int)) (.int .i64 (m : Int))).run Try.prog W = .ok (.slice (some ⟨W.heap.size, 0, none⟩) m m) (W.alloc (.cells (madeCells #[.int .i64 0] m) 3)) :=
  run_make_row' 30 3 (.int .i64 0) 8 intsT.sl intsT.info rfl .i64 .i64 m (by omega) (by omega) W
theorem Vals.made (W : World) (m : Nat) (hm : m ≤ 1000000) : Vals (fun b => W.heap.size ≤ b) (W.alloc (.cells (madeCells #[.int .i64 0] m) 3)) (.slice (some ⟨W.heap.size, 0, none⟩) m m) ((List.replicate m (0 : Int)).map (.int .i64)) := by
  have hl : (madeCells #[Value.int .i64 0] m) = ((List.replicate m (0 : Int)).map (Value.int .i64)).toArray := by
    apply Array.ext'
    rw [toList_madeCells_one]
    simp
  rw [hl]
  exact Vals.lit _ W _ m (by simp) (by simpa using hm) (0, 0)

set_option maxRecDepth 100000 in
set_option maxHeartbeats 8000000 in
theorem diskEnds_walk (xs ys : List AR) (us vs : List (Value × Value)) (v x : Value) (w : World) (hv : Acts w v us xs) (hx : Acts w x vs ys) :
    Calls Try.prog 3 #[v, x] w fun e w' => e = .returned (.bool true) ∧ Kp NoB w w' := by
  obtain ⟨Ax, cx, he, _⟩ := hx.2
  have HX := Lib.hid hx
  subst he
  obtain ⟨Av, cv, he, _⟩ := hv.2
  have HV := Lib.hid hv
  subst he
  clear hv hx
  go_enter Try.func3, Try.ntmps3
  go_wp2_with fail
  refine (run_calls xs us _ w HV.out).mono ?_
  rintro e w1 ⟨p, F1, R1, rfl, d1, m1⟩
  obtain ⟨q, rfl⟩ := d1.ptr
  go_wp2_with fail
  refine (sync_calls d1).mono ?_
  rintro e w2 ⟨rfl, F2, R2, d2, s2⟩
  have m2 := m1.step s2
  clear d1 m1 s2
  go_wp2_with fail
  refine (fill_calls d2 false).mono ?_
  rintro e w3 ⟨rfl, d3, s3⟩
  have m3 := m2.step s3
  clear d2 m2 s3
  go_wp2_with fail
  refine (read_calls d3 0 1048576 (by decide) (by decide) (by decide)).mono ?_
  rintro e w4 ⟨v4, rfl, o4, k4⟩
  obtain ⟨D, hD⟩ : ∃ D : DD, D = { { runD xs with sure := (runD xs).seen, waits := [] } with full := false } := ⟨_, rfl⟩
  have d3 : DiskIs w3 F2 R2 (.pointer (some q)) D := by rw [hD]; exact d3
  have o4 : Own 5 w4 w3.heap.size v4 (readL D.seen 0 1048576) := by rw [hD]; exact o4
  have hc3 := d3.cap1
  have hDs : D.sure = D.seen := by rw [hD]
  have hDw : D.waits = [] := by rw [hD]
  have hlen : D.seen.length ≤ 1048576 := by omega
  rw [readL_all _ hlen] at o4
  have b4 : BS (Out F2 w4) w4 v4 D.seen := o4.bs.mono fun b h1 h2 => d3.fresh w4 b h1 h2.1
  have d4 := d3.nob k4
  have m4 := m3.nob k4
  clear d3 m3 o4 k4 hc3 hD
  obtain ⟨A4, c4, rfl⟩ := b4.len
  go_wp2_with fail
  refine (few_calls ys vs _ 20 w4 (HX.out.nob m4.kp) (by decide) (fun b => b < w.heap.size) ((HX.out.1.mono (T := fun b => b < w.heap.size) fun _ h _ => h).nob m4.kp)).mono ?_
  rintro e w5 ⟨v5, us5, rfl, o5, a5, k5⟩
  have d5 := d4.nob k5
  have m5 := m4.nob k5
  have b5 := (b4.nob k5).mono fun b h1 (h2 : Out F2 w4 b) => (⟨h1, h2.2⟩ : Out F2 w5 b)
  have n5 : ∀ k, v5.ownBlock = some k → ¬ F2 k := fun k hk hf => by have := (World.ownsRow.lt o5 k hk).1; have := d4.lt k hf; omega
  have aw := a5.nob k5
  clear d4 m4 a5 k5 b4
  change w5.ownsRow w4.heap.size _ 5 v5 (few 20 ys).length (arow (few 20 ys) us5) at o5
  change AS _ w5 us5 (few 20 ys) at aw
  have hfl := few_length 20 ys
  have hfb := few_b 20 ys
  have hus : us5.length = (few 20 ys).length := aw.1
  generalize few 20 ys = zs at *
  obtain ⟨A5, c5, rfl⟩ := own5_len o5
  have HL := Lib.hid hus
  have HDS := Lib.hid hDs
  have HDW := Lib.hid hDw
  have HLE := Lib.hid hlen
  clear hus hDs hDw hlen
  go_wp2_with fail
  go_loopw [28] (fun i wr => ∃ (k : Nat) (F R : Nat → Prop), k ≤ zs.length ∧ i = .int .i64 k ∧ DiskIs wr F R (.pointer (some q)) (runW D (zs.take k)) ∧ Made w F wr ∧ wr.ownsRow w4.heap.size 33 5 (.slice A5 zs.length c5) zs.length (arow zs us5) ∧ (∀ k, (Value.slice A5 zs.length c5).ownBlock = some k → ¬ F k) ∧ AS (fun b => b < w.heap.size) wr us5 zs ∧ BS (Out F wr) wr (.slice A4 D.seen.length c4) D.seen) (fun i _ => zs.length - (intOf i).toNat)
  case atStart => exact ⟨0, F2, _, Nat.zero_le _, rfl, d5, m5, o5, n5, aw, b5⟩
  case round =>
    obtain ⟨k, F, R, hk, rfl, hd, hm, ho, hbF, ha, hbe⟩ := hrel
    by_cases hlt : k < zs.length
    · have hku : k < us5.length := by rw [HL.out]; exact hlt
      obtain ⟨g, c, he, hc, x0, x1, x2, x3, x4⟩ := own5_at ho HL.out rfl k hlt hku
      injection he with e1 e2 e3
      subst e1 e3
      have hx := ha.2 k hku hlt
      have hfs := runW_snoc zs D k hlt
      have hwt : (runW D (zs.take k)).waits.length ≤ 1000000 := by
        refine Nat.le_trans (runW_waits _ _) ?_
        rw [HDW.out]
        simp; omega
      generalize runW D (zs.take k) = E at *
      generalize zs[k] = y at *
      generalize us5[k] = u at *
      obtain ⟨u1, u2⟩ := u
      obtain ⟨wh, at', many, b, keep⟩ := y
      obtain ⟨hb1, hb2, ⟨hi1, hi2, hi3, hi4⟩⟩ := hx
      obtain ⟨B1, d1, rfl⟩ := hb1.len
      obtain ⟨B2, d2, rfl⟩ := hb2.len
      simp only at x0 x1 x2 x3 x4 hfs hb1 hb2 hi1 hi2
      have kal : Kp NoB wr (wr.alloc (.cells #[.int .i64 wh, .int .i64 at', .int .i64 many, .slice B1 b.length d1, .slice B2 (keep.map (Value.int .i64)).length d2] 33)) := (Kp.refl _ _).alloc _
      have FIN : Hid (∀ w' F' R', Step F R wr w' F' R' → Made w F' w' ∧ w'.ownsRow w4.heap.size 33 5 (.slice (some ⟨g, 0, none⟩) zs.length c5) zs.length (arow zs us5) ∧ (∀ k, (Value.slice (some ⟨g, 0, none⟩) zs.length c5).ownBlock = some k → ¬ F' k) ∧ AS (fun b => b < w.heap.size) w' us5 zs ∧ BS (Out F' w') w' (.slice A4 D.seen.length c4) D.seen) := by
        intro w' F' R' hs
        exact ⟨hm.step hs, own_kp ho hs.kp hbF, fun k hk hf => (hs.f k hf).elim (hbF k hk) (fun hge => absurd (World.ownsRow.lt ho k hk).2 (by omega)), ha.kp hs.kp fun i _ hi hf => by have := hm.new i hf; omega, hbe.step hs⟩
      have bo : BS (Out F (wr.alloc (.cells #[.int .i64 wh, .int .i64 at', .int .i64 many, .slice B1 b.length d1, .slice B2 (keep.map (Value.int .i64)).length d2] 33))) (wr.alloc (.cells #[.int .i64 wh, .int .i64 at', .int .i64 many, .slice B1 b.length d1, .slice B2 (keep.map (Value.int .i64)).length d2] 33)) (.slice B1 b.length d1) b :=
        (hb1.nob kal).mono fun i _ hi => out_old hm.new (Nat.le_trans hm.kp.size kal.size) i hi
      rw [List.length_map] at *
      have HFS := Lib.hid hfs
      have HD := Lib.hid hd
      have HBO := Lib.hid bo
      have KAL := Lib.hid kal
      clear hfs hd bo kal hm ho hbF ha hb1 hb2 hbe
      go_wp2_with fail
      refine (write_calls (HD.out.nob KAL.out) at' b _ HBO.out hi2 hwt).mono ?_
      rintro e w6 ⟨rfl, F6, R6, d6, s6⟩
      obtain ⟨e1, e2, e3, e4, e5⟩ := FIN.out w6 F6 R6 ((Step.of_nob KAL.out).trans s6)
      rw [← HFS.out] at d6
      clear x0 x1 x2 x3 x4 s6
      go_wp2_with fail
      go_roundw
      case rel => exact ⟨k + 1, F6, R6, by omega, by go_num, d6, e1, e2, e3, e4, e5⟩
      case measure => simp [intOf]; omega
    · have hkn : k = zs.length := by omega
      rw [hkn, List.take_length] at hd
      have hall := crash_all zs D hfb (by rw [HDW.out, HDS.out]; rfl)
      have hsu := (runW_sure zs D).trans HDS.out
      have hwt : (runW D zs).waits.length ≤ 20 := by
        refine Nat.le_trans (runW_waits _ _) ?_
        rw [HDW.out]
        simp; omega
      have hc := hd.cap1
      generalize runW D zs = E at *
      have HAL := Lib.hid hall
      have HSU := Lib.hid hsu
      have HC := Lib.hid hc
      clear hall hsu ho ha hbF hc d5 m5 o5 n5 aw b5
      go_wp2_with fail
      refine (waits_calls hd).mono ?_
      rintro e w6 ⟨rfl, rfl⟩
      go_wp2_with fail
      obtain ⟨n, hn⟩ : ∃ n, n = E.waits.length := ⟨_, rfl⟩
      rw [← hn] at hwt ⊢
      have HN := Lib.hid hn
      clear hn
      have HD := Lib.hid hd
      have HM := Lib.hid hm
      have HBE := Lib.hid hbe
      clear hd hm hbe
      rename World => wl
      go_loopw [7, 41] (fun a i wq => ∃ j : Nat, j ≤ n ∧ i = .int .i64 j ∧ Own1 3 wq wl.heap.size a (List.replicate j (.int .i64 40)) ∧ Kp NoB wl wq) (fun _ i _ => n - (intOf i).toNat)
      case atStart => exact ⟨0, Nat.zero_le _, rfl, Own1.nil _ _ _, Kp.refl _ _⟩
      case round =>
        obtain ⟨j, hj, rfl, ho, hk⟩ := hrel
        by_cases hlt : j < n
        · obtain ⟨Ax, cx, rfl⟩ := (Own1.vals ho).len
          have HO := Lib.hid ho
          have HK := Lib.hid hk
          have hlr : (List.replicate j (Value.int .i64 40)).length ≤ 100 := by simp; omega
          clear ho hk
          go_wp2_with (first
            | ((with_reducible refine gate_dst (N := 45) rfl ?_); go_must (refine wp_pushK (w0 := wl) intsT NoB rfl _ _ rfl _ (.int .i64 40) (List.replicate j (.int .i64 40)) _ 0 _ rfl rfl (HO.out.nob ((Kp.refl _ _).alloc _)) (HK.out.alloc _) (cell_new1 _ _ _ _) rfl (by omega) ?_); intro v2 w2 ho2 hk2 hkd2)
            | fail)
          have e1 : List.replicate j (Value.int .i64 40) ++ [Value.int .i64 40] = List.replicate (j + 1) (.int .i64 40) := by rw [List.replicate_succ']
          rw [e1] at ho2
          have HO2 := Lib.hid ho2
          clear ho2 hkd2
          go_wp2
          go_roundw
          case rel => exact ⟨j + 1, by omega, by go_num, HO2.out, hk2⟩
          case measure => simp [intOf]; omega
        · obtain rfl : j = n := by omega
          have va := Own1.vals ho
          have d7 := HD.out.nob hk
          have m7 := HM.out.nob hk
          have b7 := (HBE.out.nob hk).mono (T := Out F wr) fun b h1 h2 => ⟨h1, h2.2⟩
          have hlF := HD.out.lt
          have va7 : Vals (Out F wr) wr _ _ := va.mono fun b h1 h2 => ⟨h1, fun hf => by have := hlF b hf; have := h2.1; omega⟩
          rw [show List.replicate j (Value.int .i64 40) = (List.replicate j (40 : Int)).map (.int .i64) by simp] at va7
          clear ho hk va hlF
          obtain ⟨Aa, ca, rfl⟩ := va7.len
          have hln : ((List.replicate j (40 : Int)).map (Value.int .i64)).length = j := by simp
          rw [hln] at va7 ⊢
          clear hln
          have HN2 := HN
          go_wp2_with fail
          refine (copy_calls d7 (by rw [← HN.out]; omega)).mono ?_
          rintro e w8 ⟨p8, rfl, c8, k8⟩
          obtain ⟨q8, rfl⟩ := c8.ptr
          have hall : crashL E.sure E.waits (List.replicate j 40) = E.seen := by have := HAL.out; rwa [← HN.out] at this
          have hel : E.seen.length ≤ 1048576 := by have := HC.out; omega
          have hsl : E.sure.length ≤ 1048576 := by have := HC.out; omega
          have hwj : E.waits.length ≤ 1000000 := by have := HN.out; omega
          have hdl : D.seen.length ≤ 1048576 := HLE.out
          have hsu : E.sure = D.seen := HSU.out
          have d8 := d7.nob k8
          have lt7 := d7.lt
          have hr7 := d7.hR
          have m8 := m7.nob k8
          have b8 := b7.nob k8
          have va8 := va7.nob k8
          have z8 := k8.size
          generalize hFc : (fun k => wr.heap.size ≤ k ∧ k < w8.heap.size) = Fc at *
          have hFc2 : ∀ k, Fc k → wr.heap.size ≤ k ∧ k < w8.heap.size := by rw [← hFc]; exact fun k h => h
          have zw : w.heap.size ≤ wr.heap.size := m7.kp.size
          clear d7 m7 b7 va7 k8 hFc
          go_wp2_with fail
          refine (read_calls d8 0 1048576 (by decide) (by decide) (by decide)).mono ?_
          rintro e w9 ⟨v9, rfl, o9, k9⟩
          rw [readL_all _ hel] at o9
          have s9 : BS (fun b => w8.heap.size ≤ b) w9 v9 E.seen := o9.bs.mono fun _ _ h => h.1
          have d9 := d8.nob k9
          have c9 := c8.nob k9
          have m9 := m8.nob k9
          have b9 := b8.nob k9
          have va9 := va8.nob k9
          have z9 := k9.size
          clear d8 c8 m8 b8 va8 k9 o9
          obtain ⟨A9, e9, rfl⟩ := s9.len
          go_wp2_with fail
          refine (crash_calls d9 (List.replicate j 40) _ (va9.mono fun b h1 h2 => ⟨h1, h2.2⟩) (by simp) hwj).mono ?_
          rintro e w10 ⟨rfl, F10, R10, d10, s10⟩
          rw [hall] at d10
          have m10 := m9.step s10
          have c10 := c9.kp s10.kp fun i _ hf => ⟨fun h => by have := lt7 i hf; have := hFc2 i h; omega, fun h => (hr7 i h).2 hf⟩
          have b10 := b9.kp s10.kp fun i _ hi => hi.2
          have s10' := s9.kp s10.kp fun i _ hi hf => by have := lt7 i hf; omega
          have f10 := s10.f
          have r10 := s10.r
          have z10 := s10.kp.size
          have hmk := make_ints j (by omega)
          clear d9 c9 m9 b9 va9 s9 s10
          go_wp2_with fail
          have kA : Kp NoB w10 (w10.alloc (.cells (madeCells #[.int .i64 0] j) 3)) := (Kp.refl _ _).alloc _
          refine (crash_calls (c10.nob kA) (List.replicate j 0) _ ((Vals.made w10 j (by omega)).mono (c10.fresh _)) (by simp) hwj).mono ?_
          rintro e w11 ⟨rfl, F11, R11, c11, s11⟩
          rw [crash_zero, hsu] at c11
          have s11' := (Step.of_nob kA (F := Fc) (R := R)).trans s11
          have m11 : Kp NoB w w11 := m10.kp.step s11'.kp fun i hi hf => by have := hFc2 i hf; omega
          have d11 := d10.kp s11'.kp fun i _ hf => ⟨fun h => (f10 i h).elim (fun h => by have := lt7 i h; have := hFc2 i hf; omega) (fun h => by have := hFc2 i hf; omega), fun h => (r10 i h).elim (fun h => by have := (hr7 i h).1; have := hFc2 i hf; omega) (fun h => by have := hFc2 i hf; omega)⟩
          have b11 := (b10.kp s11'.kp fun i _ hi hf => by have := hFc2 i hf; have := hi.1; omega).all
          have t11 := (s10'.kp s11'.kp fun i _ hi hf => by have := hFc2 i hf; omega).all
          clear d10 c10 m10 b10 s10' s11 s11' f10 r10 hmk kA lt7 hr7
          go_wp2_with fail
          refine (read_calls d11 0 1048576 (by decide) (by decide) (by decide)).mono ?_
          rintro e w12 ⟨v12, rfl, o12, k12⟩
          rw [readL_all _ hel] at o12
          have x12 := o12.bs.all
          have c12 := c11.nob k12
          have m12 := m11.trans k12
          have b12 := b11.nob k12
          have t12 := t11.nob k12
          clear d11 c11 m11 b11 t11 k12 o12
          obtain ⟨A12, e12, rfl⟩ := x12.len
          go_wp2_with fail
          refine (equal_calls _ _ _ _ _ x12 t12).mono ?_
          rintro e w13 ⟨rfl, rfl⟩
          rw [show (E.seen == E.seen) = true by simp]
          clear x12 t12
          go_wp2_with fail
          refine (read_calls c12 0 1048576 (by decide) (by decide) (by decide)).mono ?_
          rintro e w14 ⟨v14, rfl, o14, k14⟩
          rw [readL_all _ hdl] at o14
          have x14 := o14.bs.all
          have m14 := m12.trans k14
          have b14 := b12.nob k14
          clear c12 m12 b12 k14 o14
          obtain ⟨A14, e14, rfl⟩ := x14.len
          go_wp2_with fail
          refine (equal_calls _ _ _ _ _ x14 b14).mono ?_
          rintro e w15 ⟨rfl, rfl⟩
          rw [show (D.seen == D.seen) = true by simp]
          clear x14 b14
          go_wp2_with fail
          refine (wakes_calls _).mono ?_
          rintro e w16 ⟨rfl, k16⟩
          go_wp2_with fail
          go_ret
          exact ⟨rfl, m14.trans k16⟩
end Go.Proofs.Ytgjaggnpheoehaa
