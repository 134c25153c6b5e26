/- Crash of a disk. -/
import Derived.Test.YtgjaggnpheoehaaDoorDisk3
set_option linter.unusedVariables false
set_option linter.unusedSimpArgs false
namespace Go.Proofs.YtgjaggnpheoehaaDoor
open Go.RowKit

def crashL : List UInt8 → List (Nat × List UInt8) → List Int → List UInt8
  | s, (a, b) :: ds, k :: ks => crashL (overL s a (b.take k.toNat)) ds ks
  | s, _, _ => s
theorem crash_snoc : ∀ (ds : List (Nat × List UInt8)) (ks : List Int) (s : List UInt8) (j : Nat) (h : j < ds.length) (h' : j < ks.length),
    crashL s (ds.take (j + 1)) (ks.take (j + 1)) = overL (crashL s (ds.take j) (ks.take j)) ds[j].1 (ds[j].2.take ks[j].toNat)
  | (a, b) :: ds, k :: ks, s, 0, h, h' => by simp [crashL]
  | (a, b) :: ds, k :: ks, s, j + 1, h, h' => by
    have := crash_snoc ds ks (overL s a (b.take k.toNat)) j (by simpa using h) (by simpa using h')
    simpa [crashL] using this
theorem crash_min : ∀ (ds : List (Nat × List UInt8)) (ks : List Int) (s : List UInt8), crashL s (ds.take (min ds.length ks.length)) (ks.take (min ds.length ks.length)) = crashL s ds ks
  | [], ks, s => by cases ks <;> simp [crashL]
  | (a, b) :: ds, [], s => by simp [crashL]
  | (a, b) :: ds, k :: ks, s => by
    have := crash_min ds ks (overL s a (b.take k.toNat))
    simp only [List.length_cons, Nat.add_min_add_right, List.take_succ_cons, crashL]
    exact this
theorem crash_length : ∀ (ds : List (Nat × List UInt8)) (ks : List Int) (s : List UInt8) (c : Nat), s.length ≤ c → (∀ x ∈ ds, x.1 + x.2.length ≤ c) → (crashL s ds ks).length ≤ c
  | [], ks, s, c, h, _ => by cases ks <;> simpa [crashL] using h
  | (a, b) :: ds, [], s, c, h, _ => by simpa [crashL] using h
  | (a, b) :: ds, k :: ks, s, c, h, hd => by
    refine crash_length ds ks _ c ?_ fun x hx => hd x (by simp [hx])
    have := hd (a, b) (by simp)
    rw [length_overL]
    have : (b.take k.toNat).length ≤ b.length := by simp; omega
    split <;> simp at * <;> omega

theorem Vals.atS {S : Nat → Prop} {w : World} {A : Option Addr} {n c : Nat} {us : List Value} (h : Vals S w (.slice A n c) us) (j : Nat) (hj : j < us.length) :
    ∃ b off, A = some ⟨b, off, none⟩ ∧ S b ∧ w.cell? ⟨b, off + j, none⟩ = some us[j] := by
  obtain ⟨A', c', he, hc, _, _, hr⟩ := h
  injection he with e1 e2 e3
  subst e1
  obtain ⟨b, off, hA, hS, hcell⟩ := hr (by omega)
  exact ⟨b, off, hA, hS, hcell j hj⟩
theorem c3_kp {F : Nat → Prop} {w w' : World} {p1 p2 p3 : Addr} {v1 v2 v3 : Value} (k : Kp F w w') (h : w.cell? p1 = some v1 ∧ w.cell? p2 = some v2 ∧ w.cell? p3 = some v3) (h1 : ¬ F p1.block) (h2 : ¬ F p2.block) (h3 : ¬ F p3.block) :
    w'.cell? p1 = some v1 ∧ w'.cell? p2 = some v2 ∧ w'.cell? p3 = some v3 := ⟨k.cell h.1 h1, k.cell h.2.1 h2, k.cell h.2.2 h3⟩
attribute [local go_sem ↓] Go.wp_at_zero Go.wp_at_succ

set_option maxRecDepth 100000 in
set_option maxHeartbeats 4000000 in
theorem crash_calls {w : World} {F R : Nat → Prop} {p : Value} {D : DD} (h : DiskIs w F R p D) (ks : List Int) (vk : Value) (hk : Vals (Out F w) w vk (ks.map (.int .i64))) (hki : ∀ k ∈ ks, -9223372036854775808 ≤ k ∧ k ≤ 9223372036854775807) (hw : D.waits.length ≤ 1000000) :
    Calls Tryd.prog 31 #[p, vk] w fun e w' => e = .returned (.int .i64 0) ∧ ∃ F' R', DiskIs w' F' R' p { D with sure := crashL D.sure D.waits ks, seen := crashL D.sure D.waits ks, waits := [] } ∧ Step F R w w' F' R' := by
  have hn := none_calls h
  obtain ⟨q, vs, ve, vw, ws, rfl, h⟩ := h
  have h2 := h.f2
  obtain ⟨Aw, cw, rfl⟩ : ∃ A c, vw = .slice A D.waits.length c := by
    rcases h.ow.2 with ⟨rfl, h0⟩ | ⟨g, cap, cur, rfl, _⟩
    · exact ⟨none, 0, by rw [h0]⟩
    · exact ⟨_, _, rfl⟩
  obtain ⟨Ak, ck, rfl⟩ := hk.len
  rw [List.length_map] at *
  have hkl : ks.length ≤ 9223372036854775807 := by
    obtain ⟨_, _, he, h1, h2, _⟩ := id hk
    simp at h1; omega
  obtain ⟨m, hm⟩ : ∃ m, m = min D.waits.length ks.length := ⟨_, rfl⟩
  have hmin : ∀ (W' : World) ts ty, (Builtin.min_ ts ty #[.int .i64 (D.waits.length : Int), .int .i64 (ks.length : Int)]).run Tryd.prog W' = .ok (.int .i64 (m : Int)) W' := by
    intro W' ts ty
    rw [run_min_int2]
    have e1 : (if (ks.length : Int) < (D.waits.length : Int) then (ks.length : Int) else (D.waits.length : Int)) = (m : Int) := by split <;> omega
    rw [e1]
  have H := Lib.hid h
  have HM := Lib.hid hm
  have HK := Lib.hid hk
  have hmw : m ≤ 1000000 := by omega
  clear h hm hk
  go_enter Tryd.func31, Tryd.ntmps31
  go_wp2_with (go_at_call 58; refine hn.mono ?_; rintro e w1 ⟨rfl, rfl⟩)
  clear hn hmin h2
  go_loopw [17] (fun i wr => ∃ (j : Nat) (F' : Nat → Prop) (vs' : Value), j ≤ m ∧ i = .int .i64 j ∧ DiskAt wr F' R q vs' ve (.slice Aw D.waits.length cw) ws { D with sure := crashL D.sure (D.waits.take j) (ks.take j) } ∧ Step F R w wr F' R) (fun i _ => m - (intOf i).toNat)
  case atStart => exact ⟨0, F, vs, Nat.zero_le _, rfl, by simpa [crashL] using H.out, Step.of_nob (Kp.refl _ _)⟩
  case round =>
    obtain ⟨j, F', vs', hj, rfl, hd, hst⟩ := hrel
    by_cases hlt : j < m
    · have hjw : j < D.waits.length := by have := HM.out; omega
      have hjk : j < ks.length := by have := HM.out; omega
      have h2 := hd.f2
      obtain ⟨g, rfl, hg0⟩ : ∃ g, Aw = some ⟨g, 0, none⟩ ∧ wr.ownsRow 0 103 2 (.slice (some ⟨g, 0, none⟩) D.waits.length cw) D.waits.length (wrow D.waits ws) := by
        rcases hd.ow.2 with ⟨_, h0⟩ | ⟨g, cap, cur, he, _⟩
        · exact absurd (show D.waits.length = 0 from h0) (by omega)
        · injection he with e1
          subst e1
          exact ⟨g, rfl, hd.ow⟩
      obtain ⟨r1, r2⟩ := wrow_at D.waits ws (by simpa using hd.rs.1) j hjw (by have := hd.rs.1; simp at this; omega)
      have x1 := (World.ownsRow.cellAt hg0 (2 * j) (by omega)).trans r1
      have x2 := (World.ownsRow.cellAt hg0 (2 * j + 1) (by omega)).trans r2
      have hcwl : D.waits.length ≤ cw := by
        rcases hg0.2 with ⟨he, _⟩ | ⟨g', cap', cur', he, _, _, h3, _⟩
        · cases he
        · injection he with _ _ e3
          omega
      have hbj := hd.rs.2 j (by have := hd.rs.1; simp at this; omega) (by simpa using hjw)
      generalize ws[j]'(by have := hd.rs.1; simp at this; omega) = wj at *
      obtain ⟨Aj, cj, rfl⟩ := hbj.len
      simp only [List.getElem_map] at hbj x1 x2
      generalize hdj : D.waits[j] = dj at *
      have HD := Lib.hid hd
      have HST := Lib.hid hst
      have HBJ := Lib.hid hbj
      clear hd hst hbj r1 r2 hg0
      rw [Nat.mul_comm] at x1 x2
      go_wp2_with fail
      obtain ⟨bk, offk, rfl, hbk, hkc⟩ := ((HK.out.kp HST.out.kp fun k _ hk => hk.2).nob ((Kp.refl _ _).alloc (.cells #[.int .i64 ((dj.1 : Nat) : Int), .slice Aj dj.2.length cj] 103))).atS j (by simpa using hjk)
      have hjl : (List.map (Value.int IntKind.i64) ks)[j]'(by simpa using hjk) = .int .i64 ks[j] := by simp
      rw [hjl] at hkc
      obtain ⟨kj, hkj⟩ : ∃ kj, kj = ks[j] := ⟨_, rfl⟩
      rw [← hkj] at hkc
      have hd := HD.out
      have hdcap : dj.1 + dj.2.length ≤ D.cap := hd.c4 dj (by rw [← hdj]; exact List.getElem_mem hjw)
      have hc1 : D.cap ≤ 1048576 := hd.c1
      have hc2 : (crashL D.sure (D.waits.take j) (ks.take j)).length ≤ D.cap := hd.c2
      obtain ⟨mn, hmn⟩ : ∃ mn : Int, mn = (if (dj.2.length : Int) < kj then (dj.2.length : Int) else kj) := ⟨_, rfl⟩
      obtain ⟨kk, hkk⟩ : ∃ kk : Nat, kk = min kj.toNat dj.2.length := ⟨_, rfl⟩
      have hmin : ∀ (W' : World) ts ty, (Builtin.min_ ts ty #[.int .i64 kj, .int .i64 (dj.2.length : Int)]).run Tryd.prog W' = .ok (.int .i64 mn) W' := by
        intro W' ts ty
        rw [run_min_int2, ← hmn]
      have hmax : ∀ (W' : World) ts ty, (Builtin.max_ ts ty #[.int .i64 mn, .int .i64 0]).run Tryd.prog W' = .ok (.int .i64 (kk : Int)) W' := by
        intro W' ts ty
        rw [run_max_int2]
        have e1 : (if (0 : Int) > mn then (0 : Int) else mn) = (kk : Int) := by
          rw [hmn, hkk]
          split <;> split at * <;> omega
        rw [e1]
      have kal : Kp NoB wr (wr.alloc (.cells #[.int .i64 ((dj.1 : Nat) : Int), .slice Aj dj.2.length cj] 103)) := (Kp.refl _ _).alloc _
      obtain ⟨n1, n2⟩ := cell_new2 wr (.int .i64 ((dj.1 : Nat) : Int)) (.slice Aj dj.2.length cj) 103 (0, 0)
      obtain ⟨f0, f0z⟩ := fc_kp kal ⟨hd.f0, hd.fz 0 (by decide)⟩ id
      have hda := hd.kp kal fun _ _ h => h.elim
      obtain ⟨As, cs, rfl⟩ := hda.os.bs.len
      obtain ⟨vt, _, hs, hvt⟩ := run_cut byteD (HBJ.out.nob kal) 0 kk (Nat.zero_le _) (by omega) none (some (.int .i64 (kk : Int))) (.inl ⟨rfl, rfl⟩) (.inr ⟨.i64, rfl⟩)
      have htk : (dj.2.take kk).drop 0 = dj.2.take kj.toNat := by
        rw [List.drop_zero, hkk]
        rcases Nat.le_total kj.toNat dj.2.length with h | h
        · rw [Nat.min_eq_left h]
        · rw [Nat.min_eq_right h, List.take_length, List.take_of_length_le h]
      rw [htk] at hvt
      have hsn := crash_snoc D.waits ks D.sure j hjw hjk
      rw [hdj, ← hkj] at hsn
      have hlen : (crashL D.sure (D.waits.take j) (ks.take j)).length ≤ 1048576 := by omega
      have hlt' : (dj.2.take kj.toNat).length ≤ dj.2.length := by simp; omega
      generalize hwa : wr.alloc (.cells #[.int .i64 ((dj.1 : Nat) : Int), .slice Aj dj.2.length cj] 103) = wa at *
      have hov := over_calls (crashL D.sure (D.waits.take j) (ks.take j)) (dj.2.take kj.toNat) dj.1 _ vt wa.drew R (hda.os.nob ((Kp.refl _ _).drew)) (hvt.nob ((Kp.refl _ _).drew)) (fun k hk he => (hda.hR k hk).2 (hda.hF k (.inl he))) (by omega) (by omega) hlen
      have hsz : wa.heap.size = wr.heap.size + 1 := by rw [← hwa]; simp
      have hne1 : ¬ (Value.slice As (crashL D.sure (D.waits.take j) (ks.take j)).length cs).ownBlock = some wr.heap.size := fun he => by
        have := hd.lt _ (hd.hF _ (.inl he)); omega
      have hq := hd.lt q hd.hb
      have hqn : ¬ wr.heap.size = q := by omega
      have hbF : ¬ F' bk := fun hf => (HST.out.f bk hf).elim hbk.2 fun hge => absurd hbk.1 (by omega)
      have hne2 : ¬ (Value.slice As (crashL D.sure (D.waits.take j) (ks.take j)).length cs).ownBlock = some bk := fun he => hbF (hd.hF _ (.inl he))
      have hne3 : ¬ bk = q := fun he => hbF (he ▸ hd.hb)
      have hne4 : ¬ (Value.slice As (crashL D.sure (D.waits.take j) (ks.take j)).length cs).ownBlock = some q := fun he => hd.nb q (.inl he) rfl
      generalize hcl : crashL D.sure (D.waits.take j) (ks.take j) = cl at *
      have hx0 := fc_kp (F := NoB) (Kp.refl _ wa).drew ⟨f0, f0z⟩ id
      have HSN := Lib.hid hsn
      have HDA := Lib.hid hda
      have HSZ := Lib.hid hsz
      have KAL := Lib.hid kal
      have HD2 := Lib.hid hd
      have HDJ := Lib.hid hdj
      have HCL := Lib.hid hcl
      have HQ := Lib.hid hq
      have f0d := hx0.1
      clear hwa hmn hkk hkj hjl htk hsn hda hsz kal hd hvt hlen hlt' hdj h2 x1 x2 hdcap hcl hbk hbF hq
      refine wp_region_held_drew (S := (fun w' => w'.cell? ⟨wr.heap.size, 0, none⟩ = some (.int .i64 ((dj.1 : Nat) : Int)) ∧ w'.cell? ⟨wr.heap.size, 0 + 1, none⟩ = some (.slice Aj dj.2.length cj) ∧ w'.cell? ⟨bk, offk + j, none⟩ = some (.int .i64 kj))) (by kernel_rfl) (c3_kp (F := NoB) (Kp.refl _ _).drew ⟨n1, n2, hkc⟩ id id id) (fun hHeld => ?_)
      refine wpAnyH_take (i := 0) (v := ?_) rfl (by kernel_rfl) (by kernel_rfl) (by kernel_rfl) (fun _ _ _ h => h) (Or.inl ⟨by rfl, ?_⟩) (by assumption) ?_
      rotate_left
      · intro w hSw
        (try dsimp only at hSw)
        go_simp
        all_goals (with_reducible rfl)
      (try simp only [Act.put, List.setIfInBounds_toArray, List.set_cons_zero, List.set_cons_succ])
      refine wpAnyH_take (i := 1) (v := ?_) rfl (by kernel_rfl) (by kernel_rfl) (by kernel_rfl) (fun _ _ _ h => h) (Or.inl ⟨by rfl, ?_⟩) (by assumption) ?_
      rotate_left
      · intro w hSw
        (try dsimp only at hSw)
        go_simp
        all_goals (with_reducible rfl)
      (try simp only [Act.put, List.setIfInBounds_toArray, List.set_cons_zero, List.set_cons_succ])
      refine wpAnyH_take (i := 2) (v := ?_) rfl (by kernel_rfl) (by kernel_rfl) (by kernel_rfl) (fun _ _ _ h => h) (Or.inl ⟨by rfl, ?_⟩) (by assumption) ?_
      rotate_left
      · intro w hSw
        (try dsimp only at hSw)
        go_simp
        all_goals (with_reducible rfl)
      (try simp only [Act.put, List.setIfInBounds_toArray, List.set_cons_zero, List.set_cons_succ])
      refine wpAnyH_take (i := 3) (v := ?_) rfl (by kernel_rfl) (by kernel_rfl) (by kernel_rfl) (fun _ _ _ h => h) (Or.inl ⟨by rfl, ?_⟩) (by assumption) ?_
      rotate_left
      · intro w hSw
        (try dsimp only at hSw)
        go_simp
        all_goals (with_reducible rfl)
      (try simp only [Act.put, List.setIfInBounds_toArray, List.set_cons_zero, List.set_cons_succ])
      refine wpAnyH_take (i := 5) (v := ?_) rfl (by kernel_rfl) (by kernel_rfl) (by kernel_rfl) (fun _ _ _ h => h) (Or.inl ⟨by rfl, ?_⟩) (by assumption) ?_
      rotate_left
      · intro w hSw
        (try dsimp only at hSw)
        go_simp
        all_goals (with_reducible rfl)
      (try simp only [Act.put, List.setIfInBounds_toArray, List.set_cons_zero, List.set_cons_succ])
      refine wpAnyH_take (i := 6) (v := ?_) rfl (by kernel_rfl) (by kernel_rfl) (by kernel_rfl) (fun _ _ _ h => h) (Or.inl ⟨by rfl, ?_⟩) (by assumption) ?_
      rotate_left
      · intro w hSw
        (try dsimp only at hSw)
        go_simp
        all_goals (with_reducible rfl)
      (try simp only [Act.put, List.setIfInBounds_toArray, List.set_cons_zero, List.set_cons_succ])
      refine wpAnyH_take (i := 7) (v := ?_) rfl (by kernel_rfl) (by kernel_rfl) (by kernel_rfl) (fun _ _ _ h => h) (Or.inl ⟨by rfl, ?_⟩) (by assumption) ?_
      rotate_left
      · intro w hSw
        (try dsimp only at hSw)
        go_simp
        all_goals (with_reducible rfl)
      (try simp only [Act.put, List.setIfInBounds_toArray, List.set_cons_zero, List.set_cons_succ])
      refine wpAnyH_take (i := 8) (v := ?_) rfl (by kernel_rfl) (by kernel_rfl) (by kernel_rfl) (fun _ _ _ h => h) (Or.inl ⟨by rfl, ?_⟩) (by assumption) ?_
      rotate_left
      · intro w hSw
        (try dsimp only at hSw)
        go_simp
        all_goals (with_reducible rfl)
      (try simp only [Act.put, List.setIfInBounds_toArray, List.set_cons_zero, List.set_cons_succ])
      refine wpAnyH_take (i := 9) (v := ?_) rfl (by kernel_rfl) (by kernel_rfl) (by kernel_rfl) (fun _ _ _ h => h) (Or.inl ⟨by rfl, ?_⟩) (by assumption) ?_
      rotate_left
      · intro w hSw
        (try dsimp only at hSw)
        go_simp
        all_goals (with_reducible rfl)
      (try simp only [Act.put, List.setIfInBounds_toArray, List.set_cons_zero, List.set_cons_succ])
      refine wpAnyH_take (i := 10) (v := ?_) rfl (by kernel_rfl) (by kernel_rfl) (by kernel_rfl) (fun _ _ _ h => h) (Or.inl ⟨by rfl, ?_⟩) (by assumption) ?_
      rotate_left
      · intro w hSw
        (try dsimp only at hSw)
        go_simp
        all_goals (with_reducible rfl)
      (try simp only [Act.put, List.setIfInBounds_toArray, List.set_cons_zero, List.set_cons_succ])
      refine wpAnyH_take (i := 11) (v := ?_) rfl (by kernel_rfl) (by kernel_rfl) (by kernel_rfl) (fun _ _ _ h => h) (Or.inl ⟨by rfl, ?_⟩) (by assumption) ?_
      rotate_left
      · intro w hSw
        (try dsimp only at hSw)
        go_simp
        all_goals (with_reducible rfl)
      (try simp only [Act.put, List.setIfInBounds_toArray, List.set_cons_zero, List.set_cons_succ])
      refine wpAnyH_take (i := 12) (v := ?_) rfl (by kernel_rfl) (by kernel_rfl) (by kernel_rfl) (fun _ _ _ h => h) (Or.inl ⟨by rfl, ?_⟩) (by assumption) ?_
      rotate_left
      · intro w hSw
        (try dsimp only at hSw)
        go_simp
        all_goals (with_reducible rfl)
      (try simp only [Act.put, List.setIfInBounds_toArray, List.set_cons_zero, List.set_cons_succ])
      refine wpAnyH_take (i := 13) (v := ?_) rfl (by kernel_rfl) (by kernel_rfl) (by kernel_rfl) (fun _ _ _ h => h) (Or.inl ⟨by rfl, ?_⟩) (by assumption) ?_
      rotate_left
      · intro w hSw
        (try dsimp only at hSw)
        go_simp
        all_goals (with_reducible rfl)
      (try simp only [Act.put, List.setIfInBounds_toArray, List.set_cons_zero, List.set_cons_succ])
      refine wpAnyH_take (i := 14) (v := ?_) rfl (by kernel_rfl) (by kernel_rfl) (by kernel_rfl) (fun _ _ _ h => h) (Or.inl ⟨by rfl, ?_⟩) (by assumption) ?_
      rotate_left
      · intro w hSw
        (try dsimp only at hSw)
        go_simp
        all_goals (with_reducible rfl)
      (try simp only [Act.put, List.setIfInBounds_toArray, List.set_cons_zero, List.set_cons_succ])
      refine wpAnyH_take (i := 15) (v := ?_) rfl (by kernel_rfl) (by kernel_rfl) (by kernel_rfl) (fun _ _ _ h => h) (Or.inl ⟨by rfl, ?_⟩) (by assumption) ?_
      rotate_left
      · intro w hSw
        (try dsimp only at hSw)
        go_simp
        all_goals (with_reducible rfl)
      (try simp only [Act.put, List.setIfInBounds_toArray, List.set_cons_zero, List.set_cons_succ])
      refine wpAnyH_take (i := 16) (v := ?_) rfl (by kernel_rfl) (by kernel_rfl) (by kernel_rfl) (fun _ _ _ h => h) (Or.inl ⟨by rfl, ?_⟩) (by assumption) ?_
      rotate_left
      · intro w hSw
        (try dsimp only at hSw)
        go_simp
        all_goals (with_reducible rfl)
      (try simp only [Act.put, List.setIfInBounds_toArray, List.set_cons_zero, List.set_cons_succ])
      refine wpAnyH_take (i := 17) (v := ?_) rfl (by kernel_rfl) (by kernel_rfl) (by kernel_rfl) (fun _ _ _ h => h) (Or.inl ⟨by rfl, ?_⟩) (by assumption) ?_
      rotate_left
      · intro w hSw
        (try dsimp only at hSw)
        go_simp
        all_goals (with_reducible rfl)
      (try simp only [Act.put, List.setIfInBounds_toArray, List.set_cons_zero, List.set_cons_succ])
      refine wpAnyH_take (i := 18) (v := ?_) rfl (by kernel_rfl) (by kernel_rfl) (by kernel_rfl) (fun _ _ _ h => h) (Or.inl ⟨by rfl, ?_⟩) (by assumption) ?_
      rotate_left
      · intro w hSw
        (try dsimp only at hSw)
        go_simp
        all_goals (with_reducible rfl)
      (try simp only [Act.put, List.setIfInBounds_toArray, List.set_cons_zero, List.set_cons_succ])
      refine wpAnyH_ready (rs := [4]) (by kernel_rfl) (by simp) ?_
      refine AllReadyH.cons rfl (fun K hK => ?_) AllReadyH.nil
      go_simp
      refine hK.out _ _ ?_ (fun hHeld => ?_)
      · exact hHeld
      clear hK K
      (try simp only [Act.put, List.setIfInBounds_toArray, List.set_cons_zero, List.set_cons_succ])
      refine wpAnyH_ready (rs := [19]) (by kernel_rfl) (by simp) ?_
      refine AllReadyH.cons rfl (fun K hK => ?_) AllReadyH.nil
      go_simp
      refine hov.mono ?_
      rintro e w5 ⟨v5, rfl, ho5, hk5, hb5⟩
      obtain ⟨A5, c5, rfl⟩ := ho5.bs.len
      obtain ⟨f5, f5z⟩ := fc_kp hk5 hx0 hne4
      refine hK.out _ _ ?_ (fun hHeld => ?_)
      · exact c3_kp (F := fun k => (Value.slice As cl.length cs).ownBlock = some k) hk5 hHeld hne1 hne1 hne2
      clear hK K
      (try simp only [Act.put, List.setIfInBounds_toArray, List.set_cons_zero, List.set_cons_succ])
      refine wpAnyH_take (i := 20) (v := ?_) rfl (by kernel_rfl) (by kernel_rfl) (by kernel_rfl) (fun _ _ _ h => h) (Or.inl ⟨by rfl, ?_⟩) (by assumption) ?_
      rotate_left
      · intro w hSw
        (try dsimp only at hSw)
        go_simp
        all_goals (with_reducible rfl)
      (try simp only [Act.put, List.setIfInBounds_toArray, List.set_cons_zero, List.set_cons_succ])
      refine wpAnyH_take (i := 21) (v := ?_) rfl (by kernel_rfl) (by kernel_rfl) (by kernel_rfl) (fun _ _ _ h => h) (Or.inl ⟨by rfl, ?_⟩) (by assumption) ?_
      rotate_left
      · intro w hSw
        (try dsimp only at hSw)
        go_simp
        all_goals (with_reducible rfl)
      (try simp only [Act.put, List.setIfInBounds_toArray, List.set_cons_zero, List.set_cons_succ])
      refine wpAnyH_ready (rs := [22]) (by kernel_rfl) (by simp) ?_
      refine AllReadyH.cons rfl (fun K hK => ?_) AllReadyH.nil
      go_simp
      refine hK.out _ _ ?_ (fun hHeld => ?_)
      · exact c3_kp (F := fun k => k = q) kp_set hHeld hqn hqn hne3
      clear hK K
      (try simp only [Act.put, List.setIfInBounds_toArray, List.set_cons_zero, List.set_cons_succ])
      refine wpAnyH_done (by kernel_rfl) ?_ _
      have HOV5 := Lib.hid ho5
      have HK5 := Lib.hid hk5
      have HB5 := Lib.hid hb5
      clear ho5 hk5 hb5 hov f5 f5z hx0 f0d f0 f0z n1 n2 hkc hHeld hs hmin hmax
      go_wp2
      go_roundw
      case measure => simp [intOf]; omega
      case rel =>
        have hd := HD2.out
        have hk5 := HK5.out
        have hsz : wa.heap.size = wr.heap.size + 1 := HSZ.out
        have hszd : wa.drew.heap.size = wa.heap.size := rfl
        have hsz5 := hk5.size
        rw [hszd] at hsz5
        have kq : Kp (fun k => k = q) w5 (w5.setCell ⟨q, 0, none⟩ (.slice A5 (overL cl dj.1 (dj.2.take kj.toNat)).length c5)) := kp_set
        have hsz6 := kq.size
        have hFs : ∀ k, (Value.slice As cl.length cs).ownBlock = some k → F' k := fun k hk => hd.hF k (.inl hk)
        have hFe : ∀ k, ve.ownBlock = some k → F' k := fun k hk => hd.hF k (.inr (.inl hk))
        have hFw : ∀ k, (Value.slice (some ⟨g, 0, none⟩) D.waits.length cw).ownBlock = some k → F' k := fun k hk => hd.hF k (.inr (.inr hk))
        have hb5 : ∀ k, (Value.slice A5 (overL cl dj.1 (dj.2.take kj.toNat)).length c5).ownBlock = some k → (Value.slice As cl.length cs).ownBlock = some k ∨ wr.heap.size ≤ k := by
          intro k hk
          rcases HB5.out k hk with h | h
          · exact .inl h
          · rw [hszd] at h; exact .inr (by omega)
        have kA : Kp (fun k => (Value.slice As cl.length cs).ownBlock = some k) wr w5 := (KAL.out.drew.weak).trans hk5
        have kT : Kp F' wr (w5.setCell ⟨q, 0, none⟩ (.slice A5 (overL cl dj.1 (dj.2.take kj.toNat)).length c5)) := (kA.mono fun k _ hk => hFs k hk).step kq fun k _ hk => hk ▸ hd.hb
        have hdd := (hd.head.kp kA hne4).set0 (.slice A5 (overL cl dj.1 (dj.2.take kj.toNat)).length c5)
        have hv5q : ∀ k, (Value.slice A5 (overL cl dj.1 (dj.2.take kj.toNat)).length c5).ownBlock = some k → ¬ k = q := by
          rintro k hk rfl
          rcases hb5 k hk with h | h
          · exact hne4 h
          · have := HQ.out; omega
        have hcl2 : cl.length ≤ D.cap := hd.c2
        have hlt5 := HOV5.out.lt
        have hq := HQ.out
        have hdcap : dj.1 + dj.2.length ≤ D.cap := hd.c4 dj (by have := List.getElem_mem hjw; rwa [HDJ.out] at this)
        refine ⟨j + 1, fun k => F' k ∨ (wr.heap.size ≤ k ∧ k < w5.heap.size), .slice A5 (overL cl dj.1 (dj.2.take kj.toNat)).length c5, by omega, by go_num, ?_, HST.out.trans ⟨kT, fun k hk => hk.imp id And.left, fun k hk => .inl hk⟩⟩
        rw [HSN.out]
        exact { f0 := hdd.f0, f1 := hdd.f1, f2 := hdd.f2, f3 := hdd.f3, f4 := hdd.f4, f5 := hdd.f5, fz := hdd.fz,
                os := HOV5.out.kp kq fun k _ hk => hv5q k hk
                oe := (hd.oe.kp kA fun k _ hk hk2 => hd.nse k hk2 hk).kp kq fun k _ hk => hd.nb k (.inr (.inl hk))
                ow := own_kp (own_kp hd.ow kA fun k hk hk2 => rows_ne hd.os hd.ow (by decide) k hk2 hk) kq fun k hk => hd.nb k (.inr (.inr hk))
                rs := hd.rs.kp kT fun k _ hk hf => (hd.hR k hk).2 hf
                nb := fun k hk => by
                  rcases hk with hk | hk | hk
                  · exact hv5q k hk
                  · exact hd.nb k (.inr (.inl hk))
                  · exact hd.nb k (.inr (.inr hk))
                nse := fun k hk hk' => by
                  rcases hb5 k hk with h1 | h1
                  · exact hd.nse k h1 hk'
                  · have := hd.lt k (hFe k hk'); omega
                hb := .inl hd.hb
                hF := fun k hk => by
                  rcases hk with hk | hk | hk
                  · rcases hb5 k hk with h1 | h1
                    · exact .inl (hFs k h1)
                    · exact .inr ⟨h1, (hlt5 k hk).2⟩
                  · exact .inl (hFe k hk)
                  · exact .inl (hFw k hk)
                lt := fun k hk => by
                  rcases hk with hk | hk
                  · have := hd.lt k hk; omega
                  · omega
                hR := fun k hk => ⟨by have := (hd.hR k hk).1; omega, fun hf => by
                    rcases hf with hf | hf
                    · exact (hd.hR k hk).2 hf
                    · have := (hd.hR k hk).1; omega⟩
                c1 := hd.c1
                c2 := by
                  show (overL cl dj.1 (dj.2.take kj.toNat)).length ≤ D.cap
                  have hlt2 : (dj.2.take kj.toNat).length ≤ dj.2.length := by simp; omega
                  rw [length_overL]
                  split <;> omega
                c3 := hd.c3
                c4 := hd.c4 }
    · obtain rfl : j = m := by omega
      have hfin : crashL D.sure (D.waits.take j) (ks.take j) = crashL D.sure D.waits ks := by
        rw [HM.out]; exact crash_min _ _ _
      rw [hfin] at hd
      have h0 := hd.f0
      have h1 := hd.f1
      have h2 := hd.f2
      have z1 := hd.fz 1 (by decide)
      have z2 := hd.fz 2 (by decide)
      have hq := hd.lt q hd.hb
      obtain ⟨As, cs, rfl⟩ := hd.os.bs.len
      have hln : (crashL D.sure D.waits ks).length ≤ 140737488355328 := by have := hd.c1; have := hd.c2; simp at *; omega
      have hcl := cloneD_calls _ _ wr hd.os.bs.all hln
      have HD := Lib.hid hd
      have HST := Lib.hid hst
      clear hd hst hfin
      go_wp2_with fail
      refine hcl.mono ?_
      rintro e w1 ⟨v1, rfl, ho1, hk1⟩
      have g1 := hk1.cell h1 id
      have g2 := hk1.cell h2 id
      have y1 := (hk1.frozen (p := ⟨q, 1, none⟩) hq id).trans z1
      have y2 := (hk1.frozen (p := ⟨q, 2, none⟩) hq id).trans z2
      obtain ⟨A1, c1, rfl⟩ := ho1.bs.len
      have HO := Lib.hid ho1
      have HK1 := Lib.hid hk1
      clear hcl h0 h1 h2 z1 z2 ho1 hk1
      go_wp2_with fail
      go_ret
      have h := HD.out
      have ho1 := HO.out
      have hk1 := HK1.out
      generalize Value.slice A1 (crashL D.sure D.waits ks).length c1 = v1 at *
      have hk : Kp (fun k => k = q) w1 ((w1.setCell ⟨q, 1, none⟩ v1).setCell ⟨q, 2, none⟩ (.slice none 0 0)) := kp_set.trans kp_set
      have hd := ((h.head.kp hk1 id).set1 v1).set2 (.slice none 0 0)
      have hx : ∀ i, (Value.slice As (crashL D.sure D.waits ks).length cs).ownBlock = some i ∨ ve.ownBlock = some i ∨ (Value.slice Aw D.waits.length cw).ownBlock = some i → ¬ i = q := h.nb
      have hv1 := ho1.lt
      have hk02 : Kp (fun k => k = q) wr ((w1.setCell ⟨q, 1, none⟩ v1).setCell ⟨q, 2, none⟩ (.slice none 0 0)) := hk1.weak.trans hk
      have hsz := hk.size
      have hsz1 := hk1.size
      refine ⟨rfl, fun k => F' k ∨ (wr.heap.size ≤ k ∧ k < w1.heap.size), R, ⟨q, .slice As (crashL D.sure D.waits ks).length cs, v1, .slice none 0 0, [], rfl, ?_⟩, HST.out.trans ⟨hk02.mono fun i _ hi => hi ▸ h.hb, fun k h => h.imp id And.left, fun _ h => .inl h⟩⟩
      exact { f0 := hd.f0, f1 := hd.f1, f2 := hd.f2, f3 := hd.f3, f4 := hd.f4, f5 := hd.f5, fz := hd.fz,
              os := (h.os.nob hk1).kp hk fun i _ hi => hx i (.inl hi), oe := (ho1.low (Nat.zero_le _)).kp hk fun i _ hi => by have := hv1 i hi; omega, ow := World.ownsRow_nil _ _ _ _,
              rs := RS.nil _ _,
              nb := fun k hk => by
                rcases hk with hk | hk | hk
                · exact hx k (.inl hk)
                · have := hv1 k hk; omega
                · simp [Value.ownBlock] at hk
              nse := fun k hk hk' => by have := hv1 k hk'; have := h.lt k (h.hF k (.inl hk)); omega
              hb := .inl h.hb
              hF := fun k hk => by
                rcases hk with hk | hk | hk
                · exact .inl (h.hF k (.inl hk))
                · exact .inr (hv1 k hk)
                · simp [Value.ownBlock] at hk
              lt := fun i hi => by
                rcases hi with hi | hi
                · have := h.lt i hi; omega
                · omega
              hR := fun i hi => ⟨by have := (h.hR i hi).1; omega, fun hf => by
                rcases hf with hf | hf
                · exact (h.hR i hi).2 hf
                · have := (h.hR i hi).1; omega⟩
              c1 := h.c1, c2 := h.c2, c3 := h.c2, c4 := fun x hx => by cases hx }
end Go.Proofs.YtgjaggnpheoehaaDoor
