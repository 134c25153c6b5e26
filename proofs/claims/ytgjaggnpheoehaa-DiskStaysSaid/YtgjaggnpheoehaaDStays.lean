/- The walk of the law DiskStays. -/
import Derived.Test.YtgjaggnpheoehaaDMap
set_option linter.unusedVariables false
set_option linter.unusedSimpArgs false
namespace Go.Proofs.Ytgjaggnpheoehaa
open Go.RowKit

/-- What is outside a disk and older than b0. -/
theorem BS.old {F R F' R' : Nat → Prop} {w w' : World} {v : Value} {l : List UInt8} {b0 : Nat} (h : BS (fun b => b < b0 ∧ ¬ F b) w v l) (hb : b0 ≤ w.heap.size) (k : Step F R w w' F' R') : BS (fun b => b < b0 ∧ ¬ F' b) w' v l :=
  (h.kp k.kp fun i _ hi => hi.2).mono fun i _ hi => ⟨hi.1, fun hf => (k.f i hf).elim hi.2 fun hge => absurd hi.1 (by omega)⟩

theorem BS.at_ {S : Nat → Prop} {w : World} {A : Option Addr} {n c : Nat} {l : List UInt8} (h : BS S w (.slice A n c) l) (j : Nat) (hj : j < l.length) :
    ∃ b off, A = some ⟨b, off, none⟩ ∧ w.cell? ⟨b, off + j, none⟩ = some (.int .u8 ((l.getD j 0).toNat : Int)) := by
  obtain ⟨A', c', he, hc, _, _, hr⟩ := h
  injection he with e1 e2 e3
  subst e1
  obtain ⟨b, off, hA, _, hcell⟩ := hr (by omega)
  refine ⟨b, off, hA, ?_⟩
  rw [hcell j hj, List.getD_eq_getElem?_getD, List.getElem?_eq_getElem hj]
  rfl

set_option maxRecDepth 100000 in
set_option maxHeartbeats 8000000 in
theorem diskStays_walk (xs ys : List AR) (us vs : List (Value × Value)) (v x vk : Value) (ks : List Int) (w : World) (hv : Acts w v us xs) (hx : Acts w x vs ys) (hk : Vals AllB w vk (ks.map (.int .i64))) (hki : ∀ k ∈ ks, inI k) :
    Calls Try.prog 5 #[v, x, vk] w fun e w' => e = .returned (.bool true) ∧ Kp NoB w w' := by
  obtain ⟨Ax, cx, he, _⟩ := hx.2
  have HX := Lib.hid hx
  subst he
  obtain ⟨Av, cv, he, _⟩ := hv.2
  have HV := Lib.hid hv
  subst he
  obtain ⟨Ak, ck, rfl⟩ := hk.len
  rw [List.length_map] at *
  have HK := Lib.hid hk
  have HKI := Lib.hid hki
  clear hv hx hk hki
  go_enter Try.func5, Try.ntmps5
  go_wp2_with fail
  refine (run_calls xs us _ w HV.out).mono ?_
  rintro e w1 ⟨p, F1, R1, rfl, d1, m1⟩
  obtain ⟨q, rfl⟩ := d1.ptr
  go_wp2_with fail
  refine (sync_calls d1).mono ?_
  rintro e w2 ⟨rfl, F2, R2, d2, s2⟩
  have m2 := m1.step s2
  clear d1 m1 s2
  go_wp2_with fail
  refine (fill_calls d2 false).mono ?_
  rintro e w3 ⟨rfl, d3, s3⟩
  have m3 := m2.step s3
  clear d2 m2 s3
  go_wp2_with fail
  refine (read_calls d3 0 1048576 (by decide) (by decide) (by decide)).mono ?_
  rintro e w4 ⟨v4, rfl, o4, k4⟩
  obtain ⟨D, hD⟩ : ∃ D : DD, D = { { runD xs with sure := (runD xs).seen, waits := [] } with full := false } := ⟨_, rfl⟩
  have d3 : DiskIs w3 F2 R2 (.pointer (some q)) D := by rw [hD]; exact d3
  have o4 : Own 5 w4 w3.heap.size v4 (readL D.seen 0 1048576) := by rw [hD]; exact o4
  have hc3 := d3.cap1
  have hDs : D.sure = D.seen := by rw [hD]
  have hDw : D.waits = [] := by rw [hD]
  have hlen : D.seen.length ≤ 1048576 := by omega
  rw [readL_all _ hlen] at o4
  have b4 : BS (fun b => b < w4.heap.size ∧ ¬ F2 b) w4 v4 D.seen := o4.bs.mono fun b h1 h2 => d3.fresh w4 b h1 h2.1
  have d4 := d3.nob k4
  have m4 := m3.nob k4
  have lt4 := d4.lt
  have r4 := d4.hR
  have zw0 : w.heap.size ≤ w4.heap.size := m4.kp.size
  clear d3 m3 o4 k4 hD
  obtain ⟨A4, c4, rfl⟩ := b4.len
  have kmap : Kp NoB w4 (w4.alloc (.map #[] 0)) := (Kp.refl _ _).alloc _
  have mp := MapI.made w4
  have MP := Lib.hid mp
  have KM := Lib.hid kmap
  clear mp kmap
  have hmm : (Instr.makeMap 42 none).run Try.prog w4 = .ok (.map (some w4.heap.size)) (w4.alloc (.map #[] 0)) := rfl
  go_wp2_with fail
  clear hmm
  have d5 := d4.nob KM.out
  have m5 := m4.nob KM.out
  have b5 := b4.nob KM.out
  refine (few_calls ys vs _ 20 _ (HX.out.nob m5.kp) (by decide) (fun b => b < w.heap.size) ((HX.out.1.mono (T := fun b => b < w.heap.size) fun _ h _ => h).nob m5.kp)).mono ?_
  rintro e w5 ⟨v5, us5, rfl, o5, a5, k5⟩
  have d6 := d5.nob k5
  have m6 := m5.nob k5
  have b6 := b5.nob k5
  have p6 := MP.out.kp k5 id
  have sz4 : (w4.alloc (.map #[] 0)).heap.size = w4.heap.size + 1 := by simp
  have z56 := k5.size
  have n6 : ∀ k, v5.ownBlock = some k → ¬ F2 k ∧ k ≠ w4.heap.size := fun k hk => ⟨fun hf => by have := (World.ownsRow.lt o5 k hk).1; have := lt4 k hf; omega, by have := (World.ownsRow.lt o5 k hk).1; omega⟩
  have q6 : ¬ F2 w4.heap.size ∧ ¬ R2 w4.heap.size := ⟨fun h => by have := lt4 _ h; omega, fun h => by have := (r4 _ h).1; omega⟩
  have aw := a5.nob k5
  clear d4 m4 b4 d5 m5 b5 a5 k5 lt4 r4
  change w5.ownsRow _ _ 5 v5 (few 20 ys).length (arow (few 20 ys) us5) at o5
  change AS _ w5 us5 (few 20 ys) at aw
  have hfl := few_length 20 ys
  have hfb := few_b 20 ys
  have hus : us5.length = (few 20 ys).length := aw.1
  generalize few 20 ys = zs at *
  obtain ⟨A5, c5, rfl⟩ := own5_len o5
  have HL := Lib.hid hus
  have HDS := Lib.hid hDs
  have HDW := Lib.hid hDw
  have HLE := Lib.hid hlen
  have HC3 := Lib.hid hc3
  have hse : D.seen.length ≤ 1048576 := hlen
  clear hus hDs hDw hlen hc3
  have zb : w4.heap.size ≤ w5.heap.size := by omega
  have HDW0 : (runW D (zs.take 0)).waits = [] := HDW.out
  generalize hbm : w4.heap.size = bm at *
  have HBM := Lib.hid hbm
  clear hbm
  go_wp2_with fail
  go_loopw [10, 35] (fun n i wr => ∃ (k N : Nat) (T : Int → Bool) (F R : Nat → Prop), k ≤ zs.length ∧ i = .int .i64 k ∧ n = .int .i64 ((runW D (zs.take k)).waits.length : Nat) ∧ DiskIs wr F R (.pointer (some q)) (runW D (zs.take k)) ∧ Made w F wr ∧ wr.ownsRow 0 33 5 (.slice A5 zs.length c5) zs.length (arow zs us5) ∧ (∀ k, (Value.slice A5 zs.length c5).ownBlock = some k → ¬ F k ∧ k ≠ bm) ∧ AS (fun b => b < w.heap.size) wr us5 zs ∧ BS (fun b => b < bm ∧ ¬ F b) wr (.slice A4 D.seen.length c4) D.seen ∧ MapI wr bm T N ∧ N ≤ 40 * k ∧ (∀ z, T z = (runW D (zs.take k)).waits.any (covers z)) ∧ (¬ F bm ∧ ¬ R bm) ∧ bm ≤ wr.heap.size) (fun _ i _ => zs.length - (intOf i).toNat)
  case atStart => exact ⟨0, 0, _, F2, _, Nat.zero_le _, rfl, by rw [HDW0]; rfl, d6, m6, own_low o5 (Nat.zero_le _), n6, aw, b6, p6, Nat.zero_le _, fun z => by rw [HDW0]; rfl, q6, zb⟩
  case round =>
    obtain ⟨k, N, T, F, R, hk, rfl, rfl, hd, hm, ho, hbF, ha, hbe, hmp, hN, hT, hq, hbz⟩ := hrel
    by_cases hlt : k < zs.length
    · have hku : k < us5.length := by rw [HL.out]; exact hlt
      obtain ⟨g, c, he, hc, x0, x1, x2, x3, x4⟩ := own5_at ho HL.out rfl k hlt hku
      injection he with e1 e2 e3
      subst e1 e3
      have hx := ha.2 k hku hlt
      have hfs := runW_snoc zs D k hlt
      have hy40 := hfb zs[k] (List.getElem_mem hlt)
      have hwt : (runW D (zs.take k)).waits.length ≤ 20 := by
        refine Nat.le_trans (runW_waits _ _) ?_
        rw [HDW.out]
        simp; omega
      have hcp := hd.cap1
      generalize runW D (zs.take k) = E at *
      generalize zs[k] = y at *
      generalize us5[k] = u at *
      obtain ⟨u1, u2⟩ := u
      obtain ⟨wh, at', many, b, keep⟩ := y
      obtain ⟨hb1, hb2, ⟨hi1, hi2, hi3, hi4⟩⟩ := hx
      obtain ⟨B1, d1, rfl⟩ := hb1.len
      obtain ⟨B2, d2, rfl⟩ := hb2.len
      simp only at x0 x1 x2 x3 x4 hfs hb1 hb2 hi1 hi2 hy40
      have hbl := hmp.lt
      have FIN : Hid (∀ w' F' R', Step F R wr w' F' R' → Made w F' w' ∧ w'.ownsRow 0 33 5 (.slice (some ⟨g, 0, none⟩) zs.length c5) zs.length (arow zs us5) ∧ (∀ k, (Value.slice (some ⟨g, 0, none⟩) zs.length c5).ownBlock = some k → ¬ F' k ∧ k ≠ bm) ∧ AS (fun b => b < w.heap.size) w' us5 zs ∧ BS (fun b => b < bm ∧ ¬ F' b) w' (.slice A4 D.seen.length c4) D.seen ∧ MapI w' bm T N ∧ (¬ F' bm ∧ ¬ R' bm) ∧ bm ≤ w'.heap.size) := by
        intro w' F' R' hs
        exact ⟨hm.step hs, own_kp ho hs.kp fun k hk => (hbF k hk).1, fun k hk => ⟨fun hf => (hs.f k hf).elim (hbF k hk).1 (fun hge => absurd (World.ownsRow.lt ho k hk).2 (by omega)), (hbF k hk).2⟩, ha.kp hs.kp fun i _ hi hf => by have := hm.new i hf; omega, hbe.old hbz hs, hmp.kp hs.kp hq.1,
          ⟨fun hf => (hs.f bm hf).elim hq.1 (fun hge => by omega), fun hf => (hs.r bm hf).elim hq.2 (fun hge => by omega)⟩, Nat.le_trans hbz hs.kp.size⟩
      obtain ⟨wa, hwa⟩ : ∃ wa, wa = wr.alloc (.cells #[.int .i64 wh, .int .i64 at', .int .i64 many, .slice B1 b.length d1, .slice B2 (keep.map (Value.int .i64)).length d2] 33) := ⟨_, rfl⟩
      have kal : Kp NoB wr wa := by rw [hwa]; exact (Kp.refl _ _).alloc _
      have bo : BS (Out F wa) wa (.slice B1 b.length d1) b := (hb1.nob kal).mono fun i _ hi => out_old hm.new (Nat.le_trans hm.kp.size kal.size) i hi
      have hh : wa.heap[wr.heap.size]? = some (.cells #[.int .i64 wh, .int .i64 at', .int .i64 many, .slice B1 b.length d1, .slice B2 (keep.map (Value.int .i64)).length d2] 33) := by rw [hwa]; exact heap_alloc_new _ _
      have y1 : wa.cell? ⟨wr.heap.size, 1, none⟩ = some (.int .i64 at') := by simp only [World.cell?, hh]; rfl
      have y3 : wa.cell? ⟨wr.heap.size, 3, none⟩ = some (.slice B1 b.length d1) := by simp only [World.cell?, hh]; rfl
      have hgF : ¬ F wr.heap.size := fun hf => by have := hd.lt _ hf; omega
      rw [List.length_map] at *
      have HFS := Lib.hid hfs
      have HD := Lib.hid hd
      have HBO := Lib.hid bo
      have KAL := Lib.hid kal
      have HT := Lib.hid hT
      have HWA := Lib.hid hwa
      have Y1 := Lib.hid y1
      have Y3 := Lib.hid y3
      have HCP := Lib.hid hcp
      clear hfs hd bo kal hm ho hbF ha hb1 hb2 hbe hmp hT hq hh hwa y1 y3 hcp
      go_wp2_with fail
      rw [← HWA.out]
      refine (write_calls (HD.out.nob KAL.out) at' b _ HBO.out hi2 (by omega)).mono ?_
      rintro e w6 ⟨rfl, F6, R6, d6', s6⟩
      obtain ⟨e1, e2, e3, e4, e5, e6, e7, e8⟩ := FIN.out w6 F6 R6 ((Step.of_nob KAL.out).trans s6)
      have y1 := s6.kp.cell Y1.out hgF
      have y3 := s6.kp.cell Y3.out hgF
      clear x0 x1 x2 x3 x4
      by_cases hok : writeE E at' b = 0
      · have hge : 0 ≤ at' ∧ at' ≤ E.seen.length := by
          unfold writeE at hok
          by_cases h : at' < 0 ∨ (E.seen.length : Int) < at'
          · rw [if_pos h] at hok; omega
          · omega
        obtain ⟨n, rfl⟩ : ∃ n : Nat, at' = n := ⟨at'.toNat, by omega⟩
        have hE : writeD E n b = { E with seen := overL E.seen n b, waits := E.waits ++ [(n, b)] } := by unfold writeD; rw [if_pos hok]; rfl
        have hn : n ≤ 1048576 := by have := HCP.out; omega
        have hwl : (runW D (zs.take (k + 1))).waits = E.waits ++ [(n, b)] := by rw [HFS.out, hE]
        rw [hok]
        rw [← HFS.out] at d6'
        have HW := Lib.hid hwl
        have D6 := Lib.hid d6'
        have S6 := Lib.hid s6
        have hgb : ¬ wr.heap.size = bm := by omega
        generalize wr.heap.size = gx at *
        clear hok hge hE hwl d6' s6
        go_wp2_with fail
        rename World => w6
        go_loopw [51] (fun i wq => ∃ (j N2 : Nat) (T2 : Int → Bool), j ≤ b.length ∧ i = .int .i64 j ∧ MapI wq bm T2 N2 ∧ N2 ≤ 40 * k + j ∧ (∀ z, T2 z = (T z || decide ((n : Int) ≤ z ∧ z < (n : Int) + j))) ∧ Kp (fun i => i = bm) w6 wq) (fun i _ => b.length - (intOf i).toNat)
        case atStart => exact ⟨0, N, T, Nat.zero_le _, rfl, e6, by omega, fun z => by rw [decide_eq_false (by omega), Bool.or_false], Kp.refl _ _⟩
        case round =>
          obtain ⟨j, N2, T2, hj, rfl, hm2, hN2, hT2, hk2⟩ := hrel
          by_cases hlj : j < b.length
          · have z1 := hk2.cell y1 hgb
            have HM2 := Lib.hid hm2
            have HT2 := Lib.hid hT2
            have HK2 := Lib.hid hk2
            clear hm2 hT2 hk2
            go_wp2_with (first
              | (at_mapUpdate; refine wp_mapput rfl _ _ _ rfl bm N2 T2 rfl HM2.out (by omega) ((n : Int) + j) rfl (by unfold inI; omega) rfl ?_; intro w7 hm7 hk7)
              | fail)
            have HM7 := Lib.hid hm7
            have HK7 := Lib.hid (HK2.out.trans hk7)
            clear hm7 hk7
            go_roundw
            case rel =>
              refine ⟨j + 1, N2 + 1, _, by omega, by go_num, HM7.out, by omega, fun z => ?_, HK7.out⟩
              rw [HT2.out z]
              by_cases h1 : z = (n : Int) + j
              · subst h1
                rw [decide_eq_true (show (n : Int) ≤ (n : Int) + j ∧ (n : Int) + j < (n : Int) + ((j + 1 : Nat) : Int) by omega)]
                simp
              · have e1 : decide ((n : Int) ≤ z ∧ z < (n : Int) + ((j + 1 : Nat) : Int)) = decide ((n : Int) ≤ z ∧ z < (n : Int) + (j : Int)) := by
                  apply decide_eq_decide.2
                  omega
                rw [e1, decide_eq_false h1, Bool.false_or]
            case measure => simp [intOf]; omega
          · have hjb : j = b.length := by omega
            subst hjb
            have hT3 : ∀ z, T2 z = (runW D (zs.take (k + 1))).waits.any (covers z) := by
              intro z
              rw [hT2 z, HT.out z, HW.out, List.any_append]
              simp [covers]
            have hW3 : E.waits.length + 1 = (runW D (zs.take (k + 1))).waits.length := by rw [HW.out]; simp
            have D7 := D6.out.kp hk2 fun i _ hi => by subst hi; exact e7
            have M7 : Made w F6 wr := ⟨e1.kp.step hk2 fun i hi h => by subst h; have := zw0; omega, e1.new⟩
            have o7 := own_kp e2 hk2 fun i hi h => (e3 i hi).2 h
            have a7 := e4.kp hk2 fun i _ hi h => by subst h; have := zw0; omega
            have b7 := e5.kp hk2 fun i _ hi h => by subst h; have := hi.1; omega
            have z7 := hk2.size
            have HT3 := Lib.hid hT3
            have HW3 := Lib.hid hW3
            have HM2 := Lib.hid hm2
            have D7h := Lib.hid D7
            have M7h := Lib.hid M7
            have o7h := Lib.hid o7
            have a7h := Lib.hid a7
            have b7h := Lib.hid b7
            clear hT2 hm2 hk2 D7 M7 o7 a7 b7 hT3 hW3 e1 e2 e4 e5 e6
            go_wp2_with fail
            go_roundw
            case rel => exact ⟨k + 1, N2, T2, F6, R6, by omega, by go_num, by rw [← HW3.out]; go_num, D7h.out, M7h.out, o7h.out, e3, a7h.out, b7h.out, HM2.out, by omega, HT3.out, e7, by omega⟩
            case measure => simp [intOf]; omega
      · have hE : writeD E at' b = E := by unfold writeD; rw [if_neg hok]
        rw [hE] at d6' HFS
        have hbne : (((writeE E at' b : Nat) : Int) == 0) = false := beq_eq_false_iff_ne.2 (by omega)
        generalize writeE E at' b = we at *
        rw [← HFS.out] at d6'
        have HT2 : Hid (∀ z, T z = (runW D (zs.take (k + 1))).waits.any (covers z)) := Lib.hid (by rw [HFS.out]; exact HT.out)
        have HW2 : Hid (E.waits.length = (runW D (zs.take (k + 1))).waits.length) := Lib.hid (by rw [HFS.out])
        have D6 := Lib.hid d6'
        clear d6' hok hE s6
        go_wp2_with fail
        go_roundw
        case rel => exact ⟨k + 1, N, T, F6, R6, by omega, by go_num, by rw [HW2.out], D6.out, e1, e2, e3, e4, e5, e6, by omega, HT2.out, e7, e8⟩
        case measure => simp [intOf]; omega
    · obtain rfl : k = zs.length := by omega
      simp only [List.take_length] at hd hT ⊢
      have hsu := (runW_sure zs D).trans HDS.out
      have hwt : (runW D zs).waits.length ≤ 20 := by
        refine Nat.le_trans (runW_waits _ _) ?_
        rw [HDW.out]
        simp; omega
      generalize runW D zs = E at *
      have HT := Lib.hid hT
      have HSU := Lib.hid hsu
      clear hT hsu ho ha hbF d6 m6 o5 n6 aw b6 p6
      go_wp2_with fail
      refine (waits_calls hd).mono ?_
      rintro e wz ⟨rfl, rfl⟩
      go_wp2_with fail
      refine (crash_calls hd ks _ (hm.oldV HK.out) HKI.out (by omega)).mono ?_
      rintro e w7 ⟨rfl, F7, R7, d7, s7⟩
      rw [HSU.out] at d7
      have m7 := hm.step s7
      have b7 := hbe.old hbz s7
      have p7 := hmp.kp s7.kp hq.1
      have hcp := d7.cap1
      obtain ⟨S, hS⟩ : ∃ S, S = crashL D.seen E.waits ks := ⟨_, rfl⟩
      rw [← hS] at d7 hcp
      have hge : D.seen.length ≤ S.length := by rw [hS]; exact crash_ge _ _ _
      have hgt : ∀ j : Nat, T j = false → S.getD j 0 = D.seen.getD j 0 := fun j h => by rw [hS]; exact crash_get _ _ _ _ (by rw [← HT.out]; exact h)
      have hSl : S.length ≤ 1048576 := by simp at hcp; omega
      have HGT := Lib.hid hgt
      clear hd hm hbe hmp s7 hS hgt hcp
      go_wp2_with fail
      refine (waits_calls d7).mono ?_
      rintro e wz ⟨rfl, rfl⟩
      go_wp2_with fail
      refine (read_calls d7 0 1048576 (by decide) (by decide) (by decide)).mono ?_
      rintro e w8 ⟨v8, rfl, o8, k8⟩
      rw [readL_all _ hSl] at o8
      have d8 := d7.nob k8
      have m8 := m7.nob k8
      have b8 := b7.nob k8
      have p8 := p7.kp k8 id
      have x8 : BS (fun b => w7.heap.size ≤ b) w8 v8 S := o8.bs.mono fun _ _ h => h.1
      have lt7 := d7.lt
      clear d7 m7 b7 p7 o8 k8
      obtain ⟨A8, c8, rfl⟩ := x8.len
      have HX8 := Lib.hid x8
      have HB8 := Lib.hid b8
      have HP8 := Lib.hid p8
      have HM8 := Lib.hid m8
      clear x8 b8 p8 m8
      have hdec : decide ((S.length : Int) < (D.seen.length : Int)) = false := decide_eq_false (by omega)
      go_wp2_with fail
      refine (end_calls d8).mono ?_
      rintro e wz ⟨rfl, rfl⟩
      have HD8 := Lib.hid d8
      clear d8
      go_wp2_with fail
      have hdec2 : decide (S.length < D.seen.length) = false := decide_eq_false (by omega)
      try rw [hdec]
      try rw [hdec2]
      rename World => w8
      go_loopw [92] (fun i wq => ∃ j : Nat, j ≤ D.seen.length ∧ i = .int .i64 j ∧ Kp NoB w8 wq) (fun i _ => D.seen.length - (intOf i).toNat)
      case atStart => exact ⟨0, Nat.zero_le _, rfl, Kp.refl _ _⟩
      case round =>
        obtain ⟨j, hj, rfl, hkq⟩ := hrel
        by_cases hlt : j < D.seen.length
        · obtain ⟨b1, f1, rfl, x1⟩ := (HB8.out.nob hkq).at_ j hlt
          obtain ⟨b2, f2, rfl, x2⟩ := (HX8.out.nob hkq).at_ j (by omega)
          cases hTj : T j with
          | true =>
            go_wp2_with (first
              | ((with_reducible refine gate_dst (N := 99) rfl ?_); go_must (refine wp_maplook rfl _ _ rfl bm N T rfl (HP8.out.kp hkq id) (j : Int) rfl (by unfold inI; omega) ?_); rw [hTj, if_pos rfl])
              | fail)
            go_roundw
            case rel => exact ⟨j + 1, by omega, by go_num, hkq⟩
            case measure => simp [intOf]; omega
          | false =>
            rw [HGT.out j hTj] at x2
            generalize (D.seen.getD j 0).toNat = bj at *
            go_wp2_with (first
              | ((with_reducible refine gate_dst (N := 99) rfl ?_); go_must (refine wp_maplook rfl _ _ rfl bm N T rfl (HP8.out.kp hkq id) (j : Int) rfl (by unfold inI; omega) ?_); rw [hTj, if_neg (by decide)])
              | fail)
            go_roundw
            case rel => exact ⟨j + 1, by omega, by go_num, hkq⟩
            case measure => simp [intOf]; omega
        · obtain rfl : j = D.seen.length := by omega
          go_wp2_with fail
          rename World => w9
          have HKQ := Lib.hid hkq
          clear hkq
          go_loopw [17] (fun i wq => ∃ j : Nat, D.seen.length ≤ j ∧ j ≤ S.length ∧ i = .int .i64 j ∧ Kp NoB w8 wq) (fun i _ => S.length - (intOf i).toNat)
          case atStart => exact ⟨_, Nat.le_refl _, hge, rfl, HKQ.out⟩
          case round =>
            obtain ⟨j, hj0, hj, rfl, hkq⟩ := hrel
            by_cases hlt : j < S.length
            · obtain ⟨b2, f2, rfl, x2⟩ := (HX8.out.nob hkq).at_ j hlt
              cases hTj : T j with
              | true =>
                go_wp2_with (first
                  | ((with_reducible refine gate_dst (N := 120) rfl ?_); go_must (refine wp_maplook rfl _ _ rfl bm N T rfl (HP8.out.kp hkq id) (j : Int) rfl (by unfold inI; omega) ?_); rw [hTj, if_pos rfl])
                  | fail)
                go_roundw
                case rel => exact ⟨j + 1, by omega, by omega, by go_num, hkq⟩
                case measure => simp [intOf]; omega
              | false =>
                have hz : D.seen.getD j 0 = 0 := by rw [List.getD_eq_getElem?_getD, List.getElem?_eq_none hj0]; rfl
                rw [HGT.out j hTj, hz] at x2
                go_wp2_with (first
                  | ((with_reducible refine gate_dst (N := 120) rfl ?_); go_must (refine wp_maplook rfl _ _ rfl bm N T rfl (HP8.out.kp hkq id) (j : Int) rfl (by unfold inI; omega) ?_); rw [hTj, if_neg (by decide)])
                  | fail)
                go_roundw
                case rel => exact ⟨j + 1, by omega, by omega, by go_num, hkq⟩
                case measure => simp [intOf]; omega
            · have d9 := HD8.out.nob hkq
              have m9 := HM8.out.nob hkq
              have x9 := HX8.out.nob hkq
              clear hkq
              go_wp2_with fail
              refine (crashL_calls d9 [9, 9] 2 _ rfl rfl (by decide) (by decide) (Nat.zero_le _)).mono ?_
              rintro e w10 ⟨rfl, F10, R10, d10, s10⟩
              rw [show crashL S [] [9, 9] = S by simp [crashL]] at d10
              have m10 := m9.step s10
              have x10 := (x9.kp s10.kp fun i _ hi hf => by have := lt7 i hf; omega).all
              clear d9 m9 x9 s10
              go_wp2_with fail
              refine (read_calls d10 0 1048576 (by decide) (by decide) (by decide)).mono ?_
              rintro e w11 ⟨v11, rfl, o11, k11⟩
              rw [readL_all _ hSl] at o11
              have y11 := o11.bs.all
              have x11 := x10.nob k11
              have m11 := m10.kp.trans k11
              clear d10 m10 x10 k11 o11
              obtain ⟨A11, e11, rfl⟩ := y11.len
              go_wp2_with fail
              refine (equal_calls _ _ _ _ _ y11 x11).mono ?_
              rintro e w12 ⟨rfl, rfl⟩
              rw [show (S == S) = true by simp]
              go_wp2_with fail
              refine (wakes_calls _).mono ?_
              rintro e w13 ⟨rfl, k13⟩
              go_wp2_with fail
              go_ret
              exact ⟨rfl, m11.trans k13⟩
end Go.Proofs.Ytgjaggnpheoehaa
