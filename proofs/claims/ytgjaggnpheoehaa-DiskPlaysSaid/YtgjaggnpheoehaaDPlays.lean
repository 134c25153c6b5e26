/- The walk of the law DiskPlays. -/
import Derived.Test.YtgjaggnpheoehaaDOne
import Derived.Test.YtgjaggnpheoehaaDNone
import Derived.Test.YtgjaggnpheoehaaDEnds
set_option linter.unusedVariables false
set_option linter.unusedSimpArgs false
namespace Go.Proofs.Ytgjaggnpheoehaa
open Go.RowKit

theorem Pair.twin {w : World} {F T : Nat → Prop} {p r : Value} {D E : DD} (h : Pair w F T p r D E) : ∃ A R, DiskIs w A R p D ∧ (∀ k, F k → ¬ R k) := by
  obtain ⟨A, R, B, S, h1, h2, h3, h4, h5, h6⟩ := h
  exact ⟨A, R, h1, fun k hk hr => ((h5 k).1 hk).elim (h1.hR k hr).2 fun hb => h4 k hb hr⟩
/-- The twin: none, or a disk apart and what was read of it. -/
def Twin (w : World) (F : Nat → Prop) (tw kp : Value) : Prop :=
  (tw = .pointer none ∧ kp = .slice none 0 0) ∨ ∃ A R K Dt q, tw = .pointer (some q) ∧ DiskIs w A R tw Dt ∧ BS K w kp Dt.seen ∧ Dt.seen.length ≤ 1048576 ∧ (∀ k, K k → k < w.heap.size) ∧ ∀ k, F k → ¬ A k ∧ ¬ R k ∧ ¬ K k
theorem Twin.step {w w' : World} {F T F' T' : Nat → Prop} {tw kp : Value} (h : Twin w F tw kp) (s : PStep F T w w' F' T') : Twin w' F' tw kp := by
  rcases h with h | ⟨A, R, K, Dt, q, e, hd, hb, hl, hk, hx⟩
  · exact .inl h
  · refine .inr ⟨A, R, K, Dt, q, e, hd.kp s.kp fun i _ hf => ⟨(hx i hf).1, (hx i hf).2.1⟩, hb.kp s.kp fun i _ hi hf => (hx i hf).2.2 hi, hl, fun k h => Nat.lt_of_lt_of_le (hk k h) s.kp.size, fun k hf => ?_⟩
    rcases s.f k hf with h | h
    · exact hx k h
    · exact ⟨fun ha => by have := hd.lt k ha; omega, fun hr => by have := (hd.hR k hr).1; omega, fun ha => by have := hk k ha; omega⟩
theorem Twin.nob {w w' : World} {F : Nat → Prop} {tw kp : Value} (h : Twin w F tw kp) (k : Kp NoB w w') : Twin w' F tw kp := h.step (T := NoB) (T' := NoB) (PStep.of_nob k)

theorem stepP_waits (D : DD) (x : AR) : (stepP D x).waits.length ≤ D.waits.length + 1 := by
  unfold stepP
  have := writeD_waits D x.at' x.b
  split
  · exact this
  · split
    · simp
    · split
      · simp
      · split <;> simp
theorem foldP_waits : ∀ (ys : List AR) (D : DD), (ys.foldl stepP D).waits.length ≤ D.waits.length + ys.length
  | [], D => by simp
  | y :: ys, D => by
    have h1 := foldP_waits ys (stepP D y)
    have h2 := stepP_waits D y
    simp only [List.foldl_cons, List.length_cons]
    omega

theorem BS.lt' {S : Nat → Prop} {w : World} {v : Value} {l : List UInt8} (h : BS S w v l) : BS (fun b => S b ∧ b < w.heap.size) w v l := h.mono fun _ h1 h2 => ⟨h2, h1⟩
set_option maxRecDepth 100000 in
set_option maxHeartbeats 8000000 in
theorem diskPlays_walk (c : Int) (xs : List AR) (us : List (Value × Value)) (v : Value) (w : World) (hv : Acts w v us xs) :
    Calls Try.prog 7 #[.int .i64 c, v] w fun e w' => e = .returned (.bool true) ∧ Kp NoB w w' := by
  obtain ⟨Av, cv, he, _⟩ := hv.2
  have HV := Lib.hid hv
  subst he
  clear hv
  by_cases hc : c < 0 ∨ 1048576 < c
  · go_enter Try.func7, Try.ntmps7
    go_wp2_with fail
    refine (newN_calls c hc w).mono ?_
    rintro e w1 ⟨rfl, rfl⟩
    go_wp2_with fail
    refine (refNewN_calls c hc w).mono ?_
    rintro e w1 ⟨rfl, rfl⟩
    go_wp2_with fail
    refine (wakes_calls _).mono ?_
    rintro e w1 ⟨rfl, k1⟩
    go_wp2_with fail
    go_ret
    exact ⟨rfl, k1⟩
  · obtain ⟨n, rfl⟩ : ∃ n : Nat, c = n := ⟨c.toNat, by omega⟩
    have hn : n ≤ 1048576 := by omega
    clear hc
    go_enter Try.func7, Try.ntmps7
    go_wp2_with fail
    refine (new_calls n hn w).mono ?_
    rintro e w1 ⟨p, rfl, d1, k1⟩
    obtain ⟨p0, rfl⟩ := d1.ptr
    go_wp2_with fail
    refine (refNew_calls n hn w1).mono ?_
    rintro e w2 ⟨r, rfl, d2, k2⟩
    obtain ⟨r0, rfl⟩ := d2.ptr
    have z1 := k1.size
    have zl := d1.lt _ rfl
    have z2 := k2.size
    have hp : Pair w2 (fun k => k = w.heap.size ∨ k = w1.heap.size) (fun _ => False ∨ False) (.pointer (some p0)) (.pointer (some r0)) ⟨n, false, [], [], []⟩ ⟨n, false, [], [], []⟩ :=
      ⟨_, _, _, _, d1.nob k2, d2, fun k hk => ⟨by omega, id⟩, fun k hk => id, fun k => Iff.rfl, fun k => Iff.rfl⟩
    have hF : ∀ k, (k = w.heap.size ∨ k = w1.heap.size) → w.heap.size ≤ k := fun k hk => by omega
    replace hp : ∃ F1 T1, Pair w2 F1 T1 (.pointer (some p0)) (.pointer (some r0)) ⟨n, false, [], [], []⟩ ⟨n, false, [], [], []⟩ ∧ (∀ k, F1 k → w.heap.size ≤ k) := ⟨_, _, hp, hF⟩
    clear hF
    obtain ⟨F1, T1, hp, hF⟩ := hp
    have k12 := k1.trans k2
    clear d1 d2 k1 k2 z1 zl z2
    go_wp2_with fail
    refine (few_calls xs us _ 40 w2 (HV.out.nob k12) (by decide) (fun b => b < w.heap.size) ((HV.out.1.mono (T := fun b => b < w.heap.size) fun _ h _ => h).nob k12)).mono ?_
    rintro e w3 ⟨v3, us3, rfl, o3, a3, k3⟩
    have hp3 := hp.nob k3
    have k13 := k12.trans k3
    have hb3 : ∀ k, v3.ownBlock = some k → ¬ F1 k := fun k hk hf => by have := (World.ownsRow.lt o3 k hk).1; have := hp.lt k hf; omega
    have aw := a3.nob k3
    clear hp k12 a3 k3
    change w3.ownsRow w2.heap.size _ 5 v3 (few 40 xs).length (arow (few 40 xs) us3) at o3
    change AS _ w3 us3 (few 40 xs) at aw
    have hfl := few_length 40 xs
    have hfb := few_b 40 xs
    have hlen : us3.length = (few 40 xs).length := aw.1
    generalize few 40 xs = ys at *
    obtain ⟨A3, c3, rfl⟩ := own5_len o3
    have HL := Lib.hid hlen
    clear hlen
    go_wp2_with fail
    go_loopw [9, 10, 37] (fun tw kp i wr => ∃ (k : Nat) (F T : Nat → Prop), k ≤ ys.length ∧ i = .int .i64 k ∧ Pair wr F T (.pointer (some p0)) (.pointer (some r0)) ((ys.take k).foldl stepP ⟨n, false, [], [], []⟩) ((ys.take k).foldl stepP ⟨n, false, [], [], []⟩) ∧ (∀ k, F k → w.heap.size ≤ k) ∧ Kp NoB w wr ∧ wr.ownsRow w2.heap.size 33 5 (.slice A3 ys.length c3) ys.length (arow ys us3) ∧ (∀ k, (Value.slice A3 ys.length c3).ownBlock = some k → ¬ F k) ∧ AS (fun b => b < w.heap.size) wr us3 ys ∧ Twin wr F tw kp) (fun _ _ i _ => ys.length - (intOf i).toNat)
    case atStart => exact ⟨0, F1, T1, Nat.zero_le _, rfl, hp3, hF, k13, o3, hb3, aw, .inl ⟨rfl, rfl⟩⟩
    case round =>
      obtain ⟨k, F, T, hk, rfl, hp, hF, hkw, ho, hbF, ha, htw⟩ := hrel
      by_cases hlt : k < ys.length
      · have hku : k < us3.length := by rw [HL.out]; exact hlt
        obtain ⟨g, c, he, hc, x0, x1, x2, x3, x4⟩ := own5_at ho HL.out rfl k hlt hku
        injection he with e1 e2 e3
        subst e1 e3
        have hx := ha.2 k hku hlt
        have hyb := hfb ys[k] (List.getElem_mem hlt)
        have hfs : (ys.take (k + 1)).foldl stepP ⟨n, false, [], [], []⟩ = stepP ((ys.take k).foldl stepP ⟨n, false, [], [], []⟩) ys[k] := by
          rw [List.take_succ_eq_append_getElem hlt, List.foldl_append]
          rfl
        have hwt : ((ys.take k).foldl stepP ⟨n, false, [], [], []⟩).waits.length ≤ 40 := by
          refine Nat.le_trans (foldP_waits _ _) ?_
          simp; omega
        generalize (ys.take k).foldl stepP ⟨n, false, [], [], []⟩ = D at *
        generalize ys[k] = x at *
        generalize us3[k] = u at *
        obtain ⟨u1, u2⟩ := u
        obtain ⟨hb1, hb2, hxo⟩ := hx
        simp only at x0 x1 x2 x3 x4 hfs hb1 hb2 hyb
        obtain ⟨wh, at', many, b, keep⟩ := x
        obtain ⟨B1, d1, rfl⟩ := hb1.len
        obtain ⟨B2, d2, rfl⟩ := hb2.len
        simp only at x0 x1 x2 x3 x4 hb1 hb2 hyb
        rw [List.length_map] at *
        have kal : Kp NoB wr (wr.alloc (.cells #[.int .i64 wh, .int .i64 at', .int .i64 many, .slice B1 b.length d1, .slice B2 keep.length d2] 33)) := (Kp.refl _ _).alloc _
        have hh := heap_alloc_new wr (.cells #[.int .i64 wh, .int .i64 at', .int .i64 many, .slice B1 b.length d1, .slice B2 keep.length d2] 33)
        have hbx : ∀ i v, (#[.int .i64 wh, .int .i64 at', .int .i64 many, .slice B1 b.length d1, .slice B2 keep.length d2] : Array Value)[i]? = some v → (wr.alloc (.cells #[.int .i64 wh, .int .i64 at', .int .i64 many, .slice B1 b.length d1, .slice B2 keep.length d2] 33)).cell? ⟨wr.heap.size, i, none⟩ = some v := by
          intro i v hv
          simp only [World.cell?, hh]
          exact hv
        have KAL := Lib.hid kal
        have HBX := Lib.hid hbx
        have HP := Lib.hid hp
        have HKW := Lib.hid hkw
        have HO := Lib.hid ho
        have HA := Lib.hid ha
        have HB1 := Lib.hid hb1
        have HB2 := Lib.hid hb2
        have HTW := Lib.hid htw
        have HFS := Lib.hid hfs
        have HBF := Lib.hid hbF
        clear kal hh hbx hp hkw ho ha hb1 hb2 htw hfs hbF
        by_cases hq : k = xs.length / 2
        · have hqi : ((k : Int) == (xs.length : Int) / 2) = true := by simp; omega
          clear hq
          go_wp2_with fail
          generalize (wr.alloc (.cells #[.int .i64 wh, .int .i64 at', .int .i64 many, .slice B1 b.length d1, .slice B2 keep.length d2] 33)) = wa at *
          have hp1 := HP.out.nob KAL.out
          obtain ⟨A, R, hd, hFR⟩ := hp1.twin
          have hcap := hd.cap1
          refine (copy_calls hd (by omega)).mono ?_
          rintro e wc ⟨pc, rfl, dc, kc⟩
          obtain ⟨qc, rfl⟩ := dc.ptr
          have hel : D.seen.length ≤ 1048576 := by omega
          have hFl := hp1.lt
          clear hp1 hd hcap
          go_wp2_with fail
          refine (read_calls dc 0 1048576 (by decide) (by decide) (by decide)).mono ?_
          rintro e wz ⟨vk, rfl, ok, kk⟩
          rw [readL_all _ hel] at ok
          obtain ⟨Ak, ck, rfl⟩ := ok.bs.len
          have htw : Twin wz F (.pointer (some qc)) (.slice Ak D.seen.length ck) := .inr ⟨_, _, _, D, qc, rfl, dc.nob kk, ok.bs.lt', hel, fun k h => h.2, fun k hf => ⟨fun h => by have := hFl k hf; omega, hFR k hf, fun h => by have := hFl k hf; have := h.1.1; have := kc.size; omega⟩⟩
          have kcz := kc.trans kk
          have kz := KAL.out.trans kcz
          have y0 : wz.cell? ⟨wr.heap.size, 0, none⟩ = some (.int .i64 wh) := kcz.cell (HBX.out 0 _ rfl) id
          have y1 : wz.cell? ⟨wr.heap.size, 1, none⟩ = some (.int .i64 at') := kcz.cell (HBX.out 1 _ rfl) id
          have y2 : wz.cell? ⟨wr.heap.size, 2, none⟩ = some (.int .i64 many) := kcz.cell (HBX.out 2 _ rfl) id
          have y3 : wz.cell? ⟨wr.heap.size, 3, none⟩ = some (.slice B1 b.length d1) := kcz.cell (HBX.out 3 _ rfl) id
          have y4 : wz.cell? ⟨wr.heap.size, 4, none⟩ = some (.slice B2 keep.length d2) := kcz.cell (HBX.out 4 _ rfl) id
          have HZ := Lib.hid kz
          have HTZ := Lib.hid htw
          clear kz htw kcz dc ok kc kk hFl hqi
          go_wp2_with fail
          clear y0 y1 y2 y3 y4
          have hp2 := HP.out.nob HZ.out
          have hbz : BS (Out F wz) wz (.slice B1 b.length d1) b := (HB1.out.nob HZ.out).mono fun i h1 h2 => ⟨h1, fun hf => by have := hF i hf; omega⟩
          have hkz : Vals (Out F wz) wz (.slice B2 keep.length d2) (keep.map (.int .i64)) := (HB2.out.nob HZ.out).mono fun i h1 h2 => ⟨h1, fun hf => by have := hF i hf; omega⟩
          refine (one_calls hp2 ⟨wh, at', many, b, keep⟩ _ _ hbz hkz hxo (by show b.length ≤ 1000000; omega) (by omega)).mono ?_
          rintro e w4 ⟨rfl, F4, T4, p4, t4⟩
          rw [← HFS.out] at p4
          have hw4 : ((ys.take (k + 1)).foldl stepP ⟨n, false, [], [], []⟩).waits.length ≤ 1000000 := by
            refine Nat.le_trans (foldP_waits _ _) ?_
            simp; omega
          obtain ⟨D4, hD4⟩ : ∃ D4 : DD, D4 = (ys.take (k + 1)).foldl stepP ⟨n, false, [], [], []⟩ := ⟨_, rfl⟩
          rw [← hD4] at p4 hw4
          have HDE := Lib.hid hD4
          clear hD4
          have t34 := (PStep.of_nob (F := F) (T := T) HZ.out).trans t4
          have tw4 := HTZ.out.step t4
          have hF4 : ∀ i, F4 i → w.heap.size ≤ i := fun i hf => (t34.f i hf).elim (hF i) fun hge => Nat.le_trans HKW.out.size hge
          have kw4 : Kp NoB w w4 := HKW.out.step t34.kp fun i hi hf => by have := hF i hf; omega
          have o4 := own_kp HO.out t34.kp HBF.out
          have hbF4 : ∀ i, (Value.slice (some ⟨g, 0, none⟩) ys.length c3).ownBlock = some i → ¬ F4 i := fun i hi hf => (t34.f i hf).elim (HBF.out i hi) fun hge => by have := (World.ownsRow.lt HO.out i hi).2; omega
          have a4 := HA.out.kp t34.kp fun i _ hi hf => by have := hF i hf; omega
          obtain ⟨B, S, hr, _, _⟩ := p4.ref
          obtain ⟨q', vw', hpe, _, _, hq3, Aw', cw', hvw⟩ := hr.full
          injection hpe with hpe
          injection hpe with hpe
          subst hpe hvw
          obtain ⟨A', R', hd4, _⟩ := p4.twin
          have hcap4 := hd4.cap1
          have hel4 : D4.seen.length ≤ 1048576 := by omega
          have P4 := Lib.hid p4
          have HT4 := Lib.hid tw4
          have HF4 := Lib.hid hF4
          have HK4 := Lib.hid kw4
          have HO4 := Lib.hid o4
          have HBF4 := Lib.hid hbF4
          have HA4 := Lib.hid a4
          have HD4 := Lib.hid hd4
          clear hp2 hbz hkz p4 t4 t34 tw4 hF4 kw4 o4 hbF4 a4 hd4 hcap4
          go_wp2_with fail
          refine (refSeen_calls hr hw4).mono ?_
          rintro e w5 ⟨v5, rfl, hv5, k5⟩
          obtain ⟨A5, c5, rfl⟩ := hv5.len
          have hq35 := k5.drew.cell hq3 id
          have HV5 := Lib.hid (hv5.all.nob (Kp.refl NoB w5).drew)
          have HD5 := Lib.hid (HD4.out.nob k5.drew)
          have HK5 := Lib.hid (k5.drew)
          clear hr hq3 hv5 k5
          go_wp2_with fail
          go_region_held3 (fun w' => w'.cell? ⟨q', 3, none⟩ = some (.slice Aw' D4.waits.length cw'))
            (first
              | exact hq35
              | assumption
              | exact k6.cell (by assumption) id
              | go_keep)
            (first
              | (go_at_call 17; refine (equal_calls _ _ _ _ w6 hv6.bs.all (HV5.out.nob k6)).mono ?_; rintro e w7 ⟨rfl, rfl⟩)
              | (go_at_call 11; refine (read_calls HD5.out 0 1048576 (by decide) (by decide) (by decide)).mono ?_; rintro e w6 ⟨v6, rfl, hv6, k6⟩; rw [readL_all _ hel4] at hv6; obtain ⟨A6, c6, rfl⟩ := hv6.bs.len)
              | (go_at_call 14; refine (waits_calls HD5.out).mono ?_; rintro e w8 ⟨rfl, rfl⟩)
              | (go_at_call 19; refine (end_calls HD5.out).mono ?_; rintro e w8 ⟨rfl, rfl⟩)
              | fail)
          have kT := HK5.out.trans k6
          clear hq35 hv6 k6
          go_wp2_with fail
          go_roundw
          case rel => exact ⟨k + 1, F4, T4, by omega, by go_num, (by have := P4.out.nob kT; rw [HDE.out] at this; exact this), HF4.out, HK4.out.trans kT, own_nob HO4.out kT, HBF4.out, HA4.out.nob kT, HT4.out.nob kT⟩
          case measure => simp [intOf]; omega
        · have hqi : ((k : Int) == (xs.length : Int) / 2) = false := by simp; omega
          clear hq
          go_wp2_with fail
          have HZ := KAL
          have HTZ := Lib.hid (HTW.out.nob KAL.out)
          generalize (wr.alloc (.cells #[.int .i64 wh, .int .i64 at', .int .i64 many, .slice B1 b.length d1, .slice B2 keep.length d2] 33)) = wz at *
          clear hqi
          have hp2 := HP.out.nob HZ.out
          have hbz : BS (Out F wz) wz (.slice B1 b.length d1) b := (HB1.out.nob HZ.out).mono fun i h1 h2 => ⟨h1, fun hf => by have := hF i hf; omega⟩
          have hkz : Vals (Out F wz) wz (.slice B2 keep.length d2) (keep.map (.int .i64)) := (HB2.out.nob HZ.out).mono fun i h1 h2 => ⟨h1, fun hf => by have := hF i hf; omega⟩
          refine (one_calls hp2 ⟨wh, at', many, b, keep⟩ _ _ hbz hkz hxo (by show b.length ≤ 1000000; omega) (by omega)).mono ?_
          rintro e w4 ⟨rfl, F4, T4, p4, t4⟩
          rw [← HFS.out] at p4
          have hw4 : ((ys.take (k + 1)).foldl stepP ⟨n, false, [], [], []⟩).waits.length ≤ 1000000 := by
            refine Nat.le_trans (foldP_waits _ _) ?_
            simp; omega
          obtain ⟨D4, hD4⟩ : ∃ D4 : DD, D4 = (ys.take (k + 1)).foldl stepP ⟨n, false, [], [], []⟩ := ⟨_, rfl⟩
          rw [← hD4] at p4 hw4
          have HDE := Lib.hid hD4
          clear hD4
          have t34 := (PStep.of_nob (F := F) (T := T) HZ.out).trans t4
          have tw4 := HTZ.out.step t4
          have hF4 : ∀ i, F4 i → w.heap.size ≤ i := fun i hf => (t34.f i hf).elim (hF i) fun hge => Nat.le_trans HKW.out.size hge
          have kw4 : Kp NoB w w4 := HKW.out.step t34.kp fun i hi hf => by have := hF i hf; omega
          have o4 := own_kp HO.out t34.kp HBF.out
          have hbF4 : ∀ i, (Value.slice (some ⟨g, 0, none⟩) ys.length c3).ownBlock = some i → ¬ F4 i := fun i hi hf => (t34.f i hf).elim (HBF.out i hi) fun hge => by have := (World.ownsRow.lt HO.out i hi).2; omega
          have a4 := HA.out.kp t34.kp fun i _ hi hf => by have := hF i hf; omega
          obtain ⟨B, S, hr, _, _⟩ := p4.ref
          obtain ⟨q', vw', hpe, _, _, hq3, Aw', cw', hvw⟩ := hr.full
          injection hpe with hpe
          injection hpe with hpe
          subst hpe hvw
          obtain ⟨A', R', hd4, _⟩ := p4.twin
          have hcap4 := hd4.cap1
          have hel4 : D4.seen.length ≤ 1048576 := by omega
          have P4 := Lib.hid p4
          have HT4 := Lib.hid tw4
          have HF4 := Lib.hid hF4
          have HK4 := Lib.hid kw4
          have HO4 := Lib.hid o4
          have HBF4 := Lib.hid hbF4
          have HA4 := Lib.hid a4
          have HD4 := Lib.hid hd4
          clear hp2 hbz hkz p4 t4 t34 tw4 hF4 kw4 o4 hbF4 a4 hd4 hcap4
          go_wp2_with fail
          refine (refSeen_calls hr hw4).mono ?_
          rintro e w5 ⟨v5, rfl, hv5, k5⟩
          obtain ⟨A5, c5, rfl⟩ := hv5.len
          have hq35 := k5.drew.cell hq3 id
          have HV5 := Lib.hid (hv5.all.nob (Kp.refl NoB w5).drew)
          have HD5 := Lib.hid (HD4.out.nob k5.drew)
          have HK5 := Lib.hid (k5.drew)
          clear hr hq3 hv5 k5
          go_wp2_with fail
          go_region_held3 (fun w' => w'.cell? ⟨q', 3, none⟩ = some (.slice Aw' D4.waits.length cw'))
            (first
              | exact hq35
              | assumption
              | exact k6.cell (by assumption) id
              | go_keep)
            (first
              | (go_at_call 17; refine (equal_calls _ _ _ _ w6 hv6.bs.all (HV5.out.nob k6)).mono ?_; rintro e w7 ⟨rfl, rfl⟩)
              | (go_at_call 11; refine (read_calls HD5.out 0 1048576 (by decide) (by decide) (by decide)).mono ?_; rintro e w6 ⟨v6, rfl, hv6, k6⟩; rw [readL_all _ hel4] at hv6; obtain ⟨A6, c6, rfl⟩ := hv6.bs.len)
              | (go_at_call 14; refine (waits_calls HD5.out).mono ?_; rintro e w8 ⟨rfl, rfl⟩)
              | (go_at_call 19; refine (end_calls HD5.out).mono ?_; rintro e w8 ⟨rfl, rfl⟩)
              | fail)
          have kT := HK5.out.trans k6
          clear hq35 hv6 k6
          go_wp2_with fail
          go_roundw
          case rel => exact ⟨k + 1, F4, T4, by omega, by go_num, (by have := P4.out.nob kT; rw [HDE.out] at this; exact this), HF4.out, HK4.out.trans kT, own_nob HO4.out kT, HBF4.out, HA4.out.nob kT, HT4.out.nob kT⟩
          case measure => simp [intOf]; omega
      · have hkn : k = ys.length := by omega
        have HKW := Lib.hid hkw
        clear hp ho ha hbF hkn hp3 o3 hb3 aw
        rcases htw with ⟨rfl, rfl⟩ | ⟨A, R, K, Dt, q, rfl, hd, hb, hl, _, _⟩
        · go_wp2_with fail
          refine (wakes_calls _).mono ?_
          rintro e w7 ⟨rfl, k7⟩
          go_wp2_with fail
          go_ret
          exact ⟨rfl, HKW.out.trans k7⟩
        · obtain ⟨Ak, ck, rfl⟩ := hb.len
          have HB := Lib.hid hb
          clear hb
          go_wp2_with fail
          refine (read_calls hd 0 1048576 (by decide) (by decide) (by decide)).mono ?_
          rintro e w6 ⟨v6, rfl, hv6, k6⟩
          rw [readL_all _ hl] at hv6
          obtain ⟨A6, c6, rfl⟩ := hv6.bs.len
          have hb6 := HB.out.all.nob k6
          have hv6b := hv6.bs.all
          have HK6 := Lib.hid (HKW.out.trans k6)
          clear hv6 k6 hd
          go_wp2_with fail
          refine (equal_calls _ _ _ _ w6 hv6b hb6).mono ?_
          rintro e w7 ⟨rfl, rfl⟩
          rw [show (Dt.seen == Dt.seen) = true by simp]
          clear hv6b hb6
          go_wp2_with fail
          refine (wakes_calls _).mono ?_
          rintro e w7 ⟨rfl, k7⟩
          go_wp2_with fail
          go_ret
          exact ⟨rfl, HK6.out.trans k7⟩
end Go.Proofs.Ytgjaggnpheoehaa
