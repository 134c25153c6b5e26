/- run: a disk behind calls, but crashes. -/
import Derived.Test.YtgjaggnpheoehaaDFew
set_option linter.unusedVariables false
set_option linter.unusedSimpArgs false
namespace Go.Proofs.Ytgjaggnpheoehaa
open Go.RowKit

def stepD (D : DD) (x : AR) : DD :=
  if 0 ≤ x.what ∧ x.what ≤ 4 then writeD D x.at' x.b
  else if x.what = 5 then { D with sure := D.seen, waits := [] }
  else if x.what = 7 then { D with full := x.at'.tmod 2 != 0 } else D
theorem writeD_waits (D : DD) (a : Int) (b : List UInt8) : (writeD D a b).waits.length ≤ D.waits.length + 1 := by
  unfold writeD
  split <;> simp
theorem stepD_waits (D : DD) (x : AR) : (stepD D x).waits.length ≤ D.waits.length + 1 := by
  unfold stepD
  have := writeD_waits D x.at' x.b
  split
  · exact this
  · split
    · simp
    · split <;> simp
theorem foldD_waits : ∀ (ys : List AR) (D : DD), (ys.foldl stepD D).waits.length ≤ D.waits.length + ys.length
  | [], D => by simp
  | y :: ys, D => by
    have h1 := foldD_waits ys (stepD D y)
    have h2 := stepD_waits D y
    simp only [List.foldl_cons, List.length_cons]
    omega
def few (n : Nat) (xs : List AR) : List AR := (xs.take n).map fewA
def runD (xs : List AR) : DD := (few 30 xs).foldl stepD ⟨400, false, [], [], []⟩
theorem few_length (n : Nat) (xs : List AR) : (few n xs).length ≤ n := by simp [few]; omega

theorem own5_at {w : World} {base n : Nat} {e : TypeId} {v : Value} {ys : List AR} {us : List (Value × Value)} (h : w.ownsRow base e 5 v n (arow ys us)) (hl : us.length = ys.length) (hn : n = ys.length) (j : Nat) (hj : j < ys.length) (hj' : j < us.length) :
    ∃ g c, v = .slice (some ⟨g, 0, none⟩) n c ∧ n ≤ c ∧ w.cell? ⟨g, j * 5, none⟩ = some (.int .i64 ys[j].what) ∧ w.cell? ⟨g, j * 5 + 1, none⟩ = some (.int .i64 ys[j].at') ∧ w.cell? ⟨g, j * 5 + 2, none⟩ = some (.int .i64 ys[j].many) ∧ w.cell? ⟨g, j * 5 + 3, none⟩ = some us[j].1 ∧ w.cell? ⟨g, j * 5 + 4, none⟩ = some us[j].2 := by
  rcases h.2 with ⟨_, h0⟩ | ⟨g, cap, cur, rfl, _, _, hc, _⟩
  · omega
  · have hc' : ∀ i, i < 5 → w.cell? ⟨g, j * 5 + i, none⟩ = (acell ys[j] us[j])[i]? := fun i hi => (World.ownsRow.cellAt h (j * 5 + i) (by omega)).trans (arow_at ys us hl j hj hj' i hi)
    exact ⟨g, cap, rfl, hc, hc' 0 (by omega), hc' 1 (by omega), hc' 2 (by omega), hc' 3 (by omega), hc' 4 (by omega)⟩
theorem own5_len {w : World} {base n : Nat} {e : TypeId} {v : Value} {xs : List Value} (h : w.ownsRow base e 5 v n xs) : ∃ A c, v = .slice A n c := by
  rcases h.2 with ⟨rfl, h0⟩ | ⟨g, cap, cur, rfl, _⟩
  · exact ⟨none, 0, by rw [h0]⟩
  · exact ⟨_, _, rfl⟩

set_option maxRecDepth 100000 in
set_option maxHeartbeats 8000000 in
theorem run_calls (xs : List AR) (us : List (Value × Value)) (v : Value) (w : World) (hv : Acts w v us xs) :
    Calls Try.prog 8 #[v] w fun e w' => ∃ p F R, e = .returned p ∧ DiskIs w' F R p (runD xs) ∧ Made w F w' := by
  obtain ⟨Av, cv, he, _⟩ := hv.2
  have HV := Lib.hid hv
  have hrd : runD xs = (few 30 xs).foldl stepD ⟨400, false, [], [], []⟩ := rfl
  rw [hrd]
  clear hrd
  generalize hys : few 30 xs = ys
  have HYS := Lib.hid hys
  clear hys
  subst he
  clear hv
  go_enter Try.func8, Try.ntmps8
  go_wp2_with fail
  refine (new_calls 400 (by decide) w).mono ?_
  rintro e w1 ⟨p, rfl, d1, k1⟩
  obtain ⟨q, rfl⟩ := d1.ptr
  have m1 : Made w (fun k => k = w.heap.size) w1 := ⟨k1, fun k h => by omega⟩
  go_wp2_with fail
  refine (few_calls xs us _ 30 w1 (HV.out.nob k1) (by decide) (fun b => b < w.heap.size) ((HV.out.1.mono (T := fun b => b < w.heap.size) fun _ h _ => h).nob k1)).mono ?_
  rintro e w2 ⟨v2, us2, rfl, o2, a2, k2⟩
  have d2 := d1.nob k2
  have m2 := m1.nob k2
  have hb2 : ∀ k, v2.ownBlock = some k → ¬ (k = w.heap.size) := fun k hk => by have := (World.ownsRow.lt o2 k hk).1; have := d1.lt w.heap.size rfl; omega
  have aw := a2.nob k2
  clear d1 m1 k1 a2 k2
  generalize hF : (fun k => k = w.heap.size) = F1 at *
  have hb2' : ∀ k, v2.ownBlock = some k → ¬ F1 k := by rw [← hF]; exact hb2
  clear hb2 hF
  change w2.ownsRow w1.heap.size _ 5 v2 (few 30 xs).length (arow (few 30 xs) us2) at o2
  change AS _ w2 us2 (few 30 xs) at aw
  have hfl := few_length 30 xs
  have hlen : us2.length = (few 30 xs).length := aw.1
  rw [HYS.out] at o2 aw hfl hlen
  obtain ⟨A2, c2, rfl⟩ := own5_len o2
  have HL := Lib.hid hlen
  clear hlen
  go_wp2_with fail
  go_loopw [16] (fun i wr => ∃ (k : Nat) (F R : Nat → Prop), k ≤ ys.length ∧ i = .int .i64 k ∧ DiskIs wr F R (.pointer (some q)) ((ys.take k).foldl stepD ⟨400, false, [], [], []⟩) ∧ Made w F wr ∧ wr.ownsRow w1.heap.size 33 5 (.slice A2 ys.length c2) ys.length (arow ys us2) ∧ (∀ k, (Value.slice A2 ys.length c2).ownBlock = some k → ¬ F k) ∧ AS (fun b => b < w.heap.size) wr us2 ys) (fun i _ => ys.length - (intOf i).toNat)
  case atStart => exact ⟨0, F1, _, Nat.zero_le _, rfl, d2, m2, o2, hb2', aw⟩
  case round =>
    obtain ⟨k, F, R, hk, rfl, hd, hm, ho, hbF, ha⟩ := hrel
    by_cases hlt : k < ys.length
    · have hku : k < us2.length := by rw [HL.out]; exact hlt
      obtain ⟨g, c, he, hc, x0, x1, x2, x3, x4⟩ := own5_at ho HL.out rfl k hlt hku
      injection he with e1 e2 e3
      subst e1 e3
      have hx := ha.2 k hku hlt
      have hfs : (ys.take (k + 1)).foldl stepD ⟨400, false, [], [], []⟩ = stepD ((ys.take k).foldl stepD ⟨400, false, [], [], []⟩) ys[k] := by
        rw [List.take_succ_eq_append_getElem hlt, List.foldl_append]
        rfl
      have hwt : ((ys.take k).foldl stepD ⟨400, false, [], [], []⟩).waits.length ≤ 30 := by
        refine Nat.le_trans (foldD_waits _ _) ?_
        simp; omega
      generalize (ys.take k).foldl stepD ⟨400, false, [], [], []⟩ = D at *
      generalize ys[k] = x at *
      generalize us2[k] = u at *
      obtain ⟨u1, u2⟩ := u
      obtain ⟨wh, at', many, b, keep⟩ := x
      obtain ⟨hb1, hb2, ⟨hi1, hi2, hi3, hi4⟩⟩ := hx
      obtain ⟨B1, d1, rfl⟩ := hb1.len
      obtain ⟨B2, d2, rfl⟩ := hb2.len
      simp only at x0 x1 x2 x3 x4 hfs hb1 hb2 hi1 hi2
      have kal : Kp NoB wr (wr.alloc (.cells #[.int .i64 wh, .int .i64 at', .int .i64 many, .slice B1 b.length d1, .slice B2 (keep.map (Value.int .i64)).length d2] 33)) := (Kp.refl _ _).alloc _
      have FIN : Hid (∀ w' F' R', Step F R wr w' F' R' → Made w F' w' ∧ w'.ownsRow w1.heap.size 33 5 (.slice (some ⟨g, 0, none⟩) ys.length c2) ys.length (arow ys us2) ∧ (∀ k, (Value.slice (some ⟨g, 0, none⟩) ys.length c2).ownBlock = some k → ¬ F' k) ∧ AS (fun b => b < w.heap.size) w' us2 ys) := by
        intro w' F' R' hs
        exact ⟨hm.step hs, own_kp ho hs.kp hbF, fun k hk hf => (hs.f k hf).elim (hbF k hk) (fun hge => absurd (World.ownsRow.lt ho k hk).2 (by omega)), ha.kp hs.kp fun i _ hi hf => by have := hm.new i hf; omega⟩
      have bo : BS (Out F (wr.alloc (.cells #[.int .i64 wh, .int .i64 at', .int .i64 many, .slice B1 b.length d1, .slice B2 (keep.map (Value.int .i64)).length d2] 33))) (wr.alloc (.cells #[.int .i64 wh, .int .i64 at', .int .i64 many, .slice B1 b.length d1, .slice B2 (keep.map (Value.int .i64)).length d2] 33)) (.slice B1 b.length d1) b :=
        (hb1.nob kal).mono fun i _ hi => out_old hm.new (Nat.le_trans hm.kp.size kal.size) i hi
      rw [List.length_map] at *
      have HFS := Lib.hid hfs
      have HD := Lib.hid hd
      have HBO := Lib.hid bo
      have KAL := Lib.hid kal
      have hwt2 : D.waits.length ≤ 1000000 := by omega
      clear hfs hd bo kal hm ho hbF ha hb1 hb2
      have hcase : (0 ≤ wh ∧ wh ≤ 4) ∨ wh = 5 ∨ wh = 7 ∨ ((wh == 0) = false ∧ (wh == 1) = false ∧ (wh == 2) = false ∧ (wh == 3) = false ∧ (wh == 4) = false ∧ (wh == 5) = false ∧ (wh == 7) = false) := by
        simp only [beq_eq_false_iff_ne]; omega
      rcases hcase with hcw | rfl | rfl | ⟨j0, j1, j2, j3, j4, j5, j7⟩
      · have hst : stepD D { what := wh, at' := at', many := many, b := b, keep := keep } = writeD D at' b := by unfold stepD; rw [if_pos hcw]
        rw [hst] at HFS
        clear hst
        have h5 : wh = 0 ∨ wh = 1 ∨ wh = 2 ∨ wh = 3 ∨ wh = 4 := by omega
        clear hcw
        rcases h5 with rfl | rfl | rfl | rfl | rfl
        all_goals (
          go_wp2_with fail
          refine (write_calls (HD.out.nob KAL.out) at' b _ HBO.out hi2 hwt2).mono ?_
          rintro e w3 ⟨rfl, F3, R3, d3, s3⟩
          obtain ⟨e1, e2, e3, e4⟩ := FIN.out w3 F3 R3 ((Step.of_nob KAL.out).trans s3)
          rw [← HFS.out] at d3
          clear x0 x1 x2 x3 x4 s3
          go_wp2_with fail
          go_roundw
          case rel => exact ⟨k + 1, F3, R3, by omega, by go_num, d3, e1, e2, e3, e4⟩
          case measure => simp [intOf]; omega)
      · have hst : stepD D { what := 5, at' := at', many := many, b := b, keep := keep } = { D with sure := D.seen, waits := [] } := by simp [stepD]
        rw [hst] at HFS
        clear hst
        go_wp2_with fail
        refine (sync_calls (HD.out.nob KAL.out)).mono ?_
        rintro e w3 ⟨rfl, F3, R3, d3, s3⟩
        obtain ⟨e1, e2, e3, e4⟩ := FIN.out w3 F3 R3 ((Step.of_nob KAL.out).trans s3)
        rw [← HFS.out] at d3
        clear x0 x1 x2 x3 x4 s3
        go_wp2_with fail
        go_roundw
        case rel => exact ⟨k + 1, F3, R3, by omega, by go_num, d3, e1, e2, e3, e4⟩
        case measure => simp [intOf]; omega
      · have hst : stepD D { what := 7, at' := at', many := many, b := b, keep := keep } = { D with full := at'.tmod 2 != 0 } := by simp [stepD]
        rw [hst] at HFS
        clear hst
        go_wp2_with fail
        refine (fill_calls (HD.out.nob KAL.out) _).mono ?_
        rintro e w3 ⟨rfl, d3, s3⟩
        obtain ⟨e1, e2, e3, e4⟩ := FIN.out w3 F R ((Step.of_nob KAL.out).trans s3)
        rw [← HFS.out] at d3
        clear x0 x1 x2 x3 x4 s3
        go_wp2_with fail
        go_roundw
        case rel => exact ⟨k + 1, F, R, by omega, by go_num, d3, e1, e2, e3, e4⟩
        case measure => simp [intOf]; omega
      · have hst : stepD D { what := wh, at' := at', many := many, b := b, keep := keep } = D := by
          simp only [beq_eq_false_iff_ne] at *
          unfold stepD
          rw [if_neg (by show ¬ (0 ≤ wh ∧ wh ≤ 4); omega), if_neg j5, if_neg j7]
        rw [hst] at HFS
        clear hst
        obtain ⟨e1, e2, e3, e4⟩ := FIN.out _ F R (Step.of_nob KAL.out)
        have d3 := HD.out.nob KAL.out
        rw [← HFS.out] at d3
        have HD3 := Lib.hid d3
        have E1 := Lib.hid e1
        have E2 := Lib.hid e2
        have E4 := Lib.hid e4
        clear d3 e1 e2 e4
        go_wp2_with fail
        go_roundw
        case rel => exact ⟨k + 1, F, R, by omega, by go_num, HD3.out, E1.out, E2.out, e3, E4.out⟩
        case measure => simp [intOf]; omega
    · have hkn : k = ys.length := by omega
      rw [hkn, List.take_length] at hd
      have HD := Lib.hid hd
      clear hd ho ha
      go_wp2_with fail
      go_ret
      exact ⟨_, F, R, rfl, HD.out, hm⟩
end Go.Proofs.Ytgjaggnpheoehaa
