/- The reference's disk: Sync, Crash, Read. -/
import Derived.Test.YtgjaggnpheoehaaDoorDRef
set_option linter.unusedVariables false
set_option linter.unusedSimpArgs false
namespace Go.Proofs.YtgjaggnpheoehaaDoor
open Go.RowKit

set_option maxRecDepth 100000 in
theorem refSync_calls {w : World} {F R : Nat → Prop} {p : Value} {D : DD} (h : RefIs w F R p D) (hw : D.waits.length ≤ 1000000) :
    Calls Tryd.prog 71 #[p] w fun e w' => e = .returned (.tuple #[]) ∧ ∃ R', RefIs w' F R' p { D with sure := D.seen, waits := [] } ∧ Step F R w w' F R' := by
  have hsn := refSeen_calls h hw
  have hcap := h.cap
  obtain ⟨q, vs, vw, ws, rfl, h⟩ := h
  have h2 := h.f2
  have h3 := h.f3
  have z2 := h.fz 2 (by decide)
  have z3 := h.fz 3 (by decide)
  have hq := h.lt q h.hb
  have H := Lib.hid h
  have HQ := Lib.hid hq
  clear h hq
  go_enter Tryd.func71, Tryd.ntmps71
  go_wp2_with fail
  refine hsn.mono ?_
  rintro e w1 ⟨v1, rfl, hv1, hk1⟩
  obtain ⟨g2, y2⟩ := fc_kp hk1 ⟨h2, z2⟩ id
  obtain ⟨g3, y3⟩ := fc_kp hk1 ⟨h3, z3⟩ id
  obtain ⟨A1, c1, rfl⟩ := hv1.len
  have HV1 := Lib.hid hv1
  have HK1 := Lib.hid hk1
  clear hsn h2 h3 z2 z3 hv1 hk1
  go_wp2_with fail
  go_end0
  have h := H.out
  have hv1 := HV1.out
  have hk1 := HK1.out
  have hq := HQ.out
  have s1 := hk1.size
  have cz : ∀ i, i < 4 → w1.frozen? ⟨q, i, none⟩ = false := fun i hi => (hk1.frozen (p := ⟨q, i, none⟩) hq id).trans (h.fz i hi)
  have c0 := hk1.cell h.f0 id
  have c1' := hk1.cell h.f1 id
  have c2 := hk1.cell h.f2 id
  have c3 := hk1.cell h.f3 id
  generalize Value.slice A1 D.seen.length c1 = v1 at *
  have kq : Kp (fun k => k = q) w1 ((w1.setCell ⟨q, 2, none⟩ v1).setCell ⟨q, 3, none⟩ (.slice none 0 0)) := kp_set.trans kp_set
  have kT : Kp F w ((w1.setCell ⟨q, 2, none⟩ v1).setCell ⟨q, 3, none⟩ (.slice none 0 0)) := hk1.weak.trans (kq.mono fun k _ hk => hk ▸ h.hb)
  have s2 := kq.size
  refine ⟨rfl, fun k => R k ∨ (w.heap.size ≤ k ∧ k < w1.heap.size), ⟨q, v1, .slice none 0 0, [], rfl, ?_⟩, ⟨kT, fun k hk => .inl hk, fun k hk => hk.imp id And.left⟩⟩
  have ne : ∀ k, (R k ∨ w.heap.size ≤ k) → k ≠ q := fun k hk he => by
    subst he
    rcases hk with hk | hk
    · exact (h.hR k hk).2 h.hb
    · omega
  exact { f0 := set_far (set_far c0 (by decide)) (by decide), f1 := set_far (set_far c1' (by decide)) (by decide), f2 := set_far (set_same c2) (by decide), f3 := set_same (set_far c3 (by decide)),
          fz := fun i hi => by rw [World.frozen?_setCell, World.frozen?_setCell]; exact cz i hi,
          os := (hv1.mono (T := fun k => R k ∨ (w.heap.size ≤ k ∧ k < w1.heap.size)) fun k hk hk2 => hk2.imp id fun h => ⟨h, hk⟩).kp kq fun k _ hk he => ne k (hk.imp id And.left) he
          ow := World.ownsRow_nil _ _ _ _
          rs := RS.nil _ _
          nb := fun k hk => by simp [Value.ownBlock] at hk
          hb := h.hb
          hF := fun k hk => by simp [Value.ownBlock] at hk
          lt := fun k hk => by have := h.lt k hk; omega
          hR := fun k hk => ⟨by
            rcases hk with hk | hk
            · have := (h.hR k hk).1; omega
            · omega, fun hf => by
            rcases hk with hk | hk
            · exact (h.hR k hk).2 hf
            · have := h.lt k hf; omega⟩
          c1 := h.c1
          c2 := hcap.1
          c4 := fun y hy => (by cases hy)
          hs := rfl }

theorem c4_kp {F : Nat → Prop} {w w' : World} {p1 p2 p3 p4 : Addr} {v1 v2 v3 v4 : Value} (k : Kp F w w') (h : w.cell? p1 = some v1 ∧ w.cell? p2 = some v2 ∧ w.cell? p3 = some v3 ∧ w.cell? p4 = some v4) (h1 : ¬ F p1.block) (h2 : ¬ F p2.block) (h3 : ¬ F p3.block) (h4 : ¬ F p4.block) :
    w'.cell? p1 = some v1 ∧ w'.cell? p2 = some v2 ∧ w'.cell? p3 = some v3 ∧ w'.cell? p4 = some v4 := ⟨k.cell h.1 h1, k.cell h.2.1 h2, k.cell h.2.2.1 h3, k.cell h.2.2.2 h4⟩
theorem c4_set {w : World} {p p1 p2 p3 p4 : Addr} {v v1 v2 v3 v4 : Value} (h : w.cell? p1 = some v1 ∧ w.cell? p2 = some v2 ∧ w.cell? p3 = some v3 ∧ w.cell? p4 = some v4) (h1 : p1 ≠ p) (h2 : p2 ≠ p) (h3 : p3 ≠ p) (h4 : p4 ≠ p) :
    (w.setCell p v).cell? p1 = some v1 ∧ (w.setCell p v).cell? p2 = some v2 ∧ (w.setCell p v).cell? p3 = some v3 ∧ (w.setCell p v).cell? p4 = some v4 :=
  ⟨(World.cell?_setCell_other w p p1 v h1.symm).trans h.1, (World.cell?_setCell_other w p p2 v h2.symm).trans h.2.1, (World.cell?_setCell_other w p p3 v h3.symm).trans h.2.2.1, (World.cell?_setCell_other w p p4 v h4.symm).trans h.2.2.2⟩

set_option maxRecDepth 100000 in
set_option maxHeartbeats 4000000 in
theorem refCrash_calls {w : World} {F R : Nat → Prop} {p : Value} {D : DD} (h : RefIs w F R p D) (ks : List Int) (vk : Value) (hk : Vals (Out F w) w vk (ks.map (.int .i64))) (hki : ∀ k ∈ ks, -9223372036854775808 ≤ k ∧ k ≤ 9223372036854775807) (hw : D.waits.length ≤ 1000000) :
    Calls Tryd.prog 65 #[p, vk] w fun e w' => e = .returned (.tuple #[]) ∧ ∃ R', RefIs w' F R' p { D with sure := crashL D.sure D.waits ks, seen := crashL D.sure D.waits ks, waits := [] } ∧ Step F R w w' F R' := by
  obtain ⟨q, vs, vw, ws, rfl, h⟩ := h
  obtain ⟨Aw, cw, rfl⟩ : ∃ A c, vw = .slice A D.waits.length c := by
    rcases h.ow.2 with ⟨rfl, h0⟩ | ⟨g, cap, cur, rfl, _⟩
    · exact ⟨none, 0, by rw [h0]⟩
    · exact ⟨_, _, rfl⟩
  obtain ⟨Ak, ck, rfl⟩ := hk.len
  rw [List.length_map] at *
  have hkl : ks.length ≤ 9223372036854775807 := by
    obtain ⟨_, _, he, h1, h2, _⟩ := id hk
    simp at h1; omega
  obtain ⟨m, hm⟩ : ∃ m, m = min D.waits.length ks.length := ⟨_, rfl⟩
  have H := Lib.hid h
  have HM := Lib.hid hm
  have HK := Lib.hid hk
  have HKI := Lib.hid hki
  have hmw : m ≤ 1000000 := by omega
  clear h hm hk hki
  go_enter Tryd.func65, Tryd.ntmps65
  go_wp2_with fail
  go_loopw [4] (fun i wr => ∃ (j : Nat) (R' : Nat → Prop) (vs' : Value), j ≤ m ∧ i = .int .i64 j ∧ RefAt wr F R' q vs' (.slice Aw D.waits.length cw) ws { D with sure := crashL D.sure (D.waits.take j) (ks.take j), seen := laidL (crashL D.sure (D.waits.take j) (ks.take j)) D.waits } ∧ Step F R w wr F R') (fun i _ => m - (intOf i).toNat)
  case atStart => exact ⟨0, R, vs, Nat.zero_le _, rfl, by have := H.out; exact { this with hs := rfl }, Step.of_nob (Kp.refl _ _)⟩
  case round =>
    obtain ⟨j, R', vs', hj, rfl, hd, hst⟩ := hrel
    have h3 := hd.f3
    by_cases hlt : j < m
    · have hjw : j < D.waits.length := by have := HM.out; omega
      have hjk : j < ks.length := by have := HM.out; omega
      obtain ⟨g, c, A, cj, he, hc, hFg, x1, x2, hbj⟩ := rs_at hd j hjw
      simp only at he hc x1 x2 hbj
      injection he with e1 e2 e3
      subst e1 e3
      obtain ⟨bk, offk, rfl, hbk, hkc⟩ := (HK.out.kp hst.kp fun k _ hk => hk.2).atS j (by simpa using hjk)
      have hjl : (List.map (Value.int IntKind.i64) ks)[j]'(by simpa using hjk) = .int .i64 ks[j] := by simp
      rw [hjl] at hkc
      have hkj := HKI.out ks[j] (List.getElem_mem hjk)
      have hsn := crash_snoc D.waits ks D.sure j hjw hjk
      have hdcap := hd.c4 D.waits[j] (List.getElem_mem hjw)
      have hc1 : D.cap ≤ 1048576 := hd.c1
      have hc2 : (crashL D.sure (D.waits.take j) (ks.take j)).length ≤ D.cap := hd.c2
      have h2 := hd.f2
      have z2 := hd.fz 2 (by decide)
      have hos := hd.os
      simp only at hos h2 hdcap
      have hq := hd.lt q hd.hb
      have hgq : g ≠ q := hd.nb g rfl
      have hbkq : bk ≠ q := fun he => (hst.f bk (by rw [he]; exact hd.hb)).elim (fun hf => hbk.2 hf) fun hge => absurd hbk.1 (by omega)
      generalize hdj : D.waits[j] = dj at *
      generalize hkk : ks[j] = kj at *
      obtain ⟨at', bj⟩ := dj
      simp only at *
      obtain ⟨As, cs, rfl⟩ := hos.len
      have hlay := lay_calls (crashL D.sure (D.waits.take j) (ks.take j)) bj at' kj _ _ wr.drew (hos.all.nob (Kp.refl _ _).drew) (hbj.all.nob (Kp.refl _ _).drew) (by omega) (by omega) (by omega) hkj
      have hcl : (crashL D.sure (D.waits.take (j + 1)) (ks.take (j + 1))).length ≤ D.cap := by
        have hlt' : (bj.take kj.toNat).length ≤ bj.length := by simp; omega
        rw [hsn, length_overL]
        split <;> omega
      rw [← hsn] at hlay
      have HCL := Lib.hid hcl
      generalize hce : crashL D.sure (D.waits.take j) (ks.take j) = cl at *
      have hx2 := fc_kp (F := NoB) (Kp.refl _ wr).drew ⟨h2, z2⟩ id
      have h2d := hx2.1
      have hnq3 : (⟨q, 3, none⟩ : Addr) ≠ ⟨q, 2, none⟩ := by intro he; injection he with _ he; omega
      have hnqg : ∀ i, (⟨g, i, none⟩ : Addr) ≠ ⟨q, 2, none⟩ := by intro i he; injection he with he; exact hgq he
      have hnqk : ∀ i, (⟨bk, i, none⟩ : Addr) ≠ ⟨q, 2, none⟩ := by intro i he; injection he with he; exact hbkq he
      have HDD := Lib.hid hd
      have HST := Lib.hid hst
      have HX2 := Lib.hid hx2
      have HQ := Lib.hid hq
      clear hsn hd hst hos hbj hdj hkk hce hcl hq hjl
      go_wp2_with fail
      refine wp_region_held_drew (S := (fun w' => w'.cell? ⟨q, 3, none⟩ = some (.slice (some ⟨g, 0, none⟩) D.waits.length cw) ∧ w'.cell? ⟨g, j * 2, none⟩ = some (.int .i64 (at' : Int)) ∧ w'.cell? ⟨g, j * 2 + 1, none⟩ = some (.slice A bj.length cj) ∧ w'.cell? ⟨bk, offk + j, none⟩ = some (.int .i64 kj))) (by kernel_rfl) (c4_kp (F := NoB) (Kp.refl _ _).drew ⟨h3, x1, x2, hkc⟩ id id id id) (fun hHeld => ?_)
      refine wpAnyH_take (i := 0) (v := ?_) rfl (by kernel_rfl) (by kernel_rfl) (by kernel_rfl) (fun _ _ _ h => h) (Or.inl ⟨by rfl, ?_⟩) (by assumption) ?_
      rotate_left
      · intro w hSw
        (try dsimp only at hSw)
        go_simp
        all_goals (with_reducible rfl)
      (try simp only [Act.put, List.setIfInBounds_toArray, List.set_cons_zero, List.set_cons_succ])
      refine wpAnyH_take (i := 1) (v := ?_) rfl (by kernel_rfl) (by kernel_rfl) (by kernel_rfl) (fun _ _ _ h => h) (Or.inl ⟨by rfl, ?_⟩) (by assumption) ?_
      rotate_left
      · intro w hSw
        (try dsimp only at hSw)
        go_simp
        all_goals (with_reducible rfl)
      (try simp only [Act.put, List.setIfInBounds_toArray, List.set_cons_zero, List.set_cons_succ])
      refine wpAnyH_take (i := 2) (v := ?_) rfl (by kernel_rfl) (by kernel_rfl) (by kernel_rfl) (fun _ _ _ h => h) (Or.inl ⟨by rfl, ?_⟩) (by assumption) ?_
      rotate_left
      · intro w hSw
        (try dsimp only at hSw)
        go_simp
        all_goals (with_reducible rfl)
      (try simp only [Act.put, List.setIfInBounds_toArray, List.set_cons_zero, List.set_cons_succ])
      refine wpAnyH_take (i := 3) (v := ?_) rfl (by kernel_rfl) (by kernel_rfl) (by kernel_rfl) (fun _ _ _ h => h) (Or.inl ⟨by rfl, ?_⟩) (by assumption) ?_
      rotate_left
      · intro w hSw
        (try dsimp only at hSw)
        go_simp
        all_goals (with_reducible rfl)
      (try simp only [Act.put, List.setIfInBounds_toArray, List.set_cons_zero, List.set_cons_succ])
      refine wpAnyH_take (i := 5) (v := ?_) rfl (by kernel_rfl) (by kernel_rfl) (by kernel_rfl) (fun _ _ _ h => h) (Or.inl ⟨by rfl, ?_⟩) (by assumption) ?_
      rotate_left
      · intro w hSw
        (try dsimp only at hSw)
        go_simp
        all_goals (with_reducible rfl)
      (try simp only [Act.put, List.setIfInBounds_toArray, List.set_cons_zero, List.set_cons_succ])
      refine wpAnyH_take (i := 6) (v := ?_) rfl (by kernel_rfl) (by kernel_rfl) (by kernel_rfl) (fun _ _ _ h => h) (Or.inl ⟨by rfl, ?_⟩) (by assumption) ?_
      rotate_left
      · intro w hSw
        (try dsimp only at hSw)
        go_simp
        all_goals (with_reducible rfl)
      (try simp only [Act.put, List.setIfInBounds_toArray, List.set_cons_zero, List.set_cons_succ])
      refine wpAnyH_take (i := 7) (v := ?_) rfl (by kernel_rfl) (by kernel_rfl) (by kernel_rfl) (fun _ _ _ h => h) (Or.inl ⟨by rfl, ?_⟩) (by assumption) ?_
      rotate_left
      · intro w hSw
        (try dsimp only at hSw)
        go_simp
        all_goals (with_reducible rfl)
      (try simp only [Act.put, List.setIfInBounds_toArray, List.set_cons_zero, List.set_cons_succ])
      refine wpAnyH_take (i := 8) (v := ?_) rfl (by kernel_rfl) (by kernel_rfl) (by kernel_rfl) (fun _ _ _ h => h) (Or.inl ⟨by rfl, ?_⟩) (by assumption) ?_
      rotate_left
      · intro w hSw
        (try dsimp only at hSw)
        go_simp
        all_goals (with_reducible rfl)
      (try simp only [Act.put, List.setIfInBounds_toArray, List.set_cons_zero, List.set_cons_succ])
      refine wpAnyH_take (i := 9) (v := ?_) rfl (by kernel_rfl) (by kernel_rfl) (by kernel_rfl) (fun _ _ _ h => h) (Or.inl ⟨by rfl, ?_⟩) (by assumption) ?_
      rotate_left
      · intro w hSw
        (try dsimp only at hSw)
        go_simp
        all_goals (with_reducible rfl)
      (try simp only [Act.put, List.setIfInBounds_toArray, List.set_cons_zero, List.set_cons_succ])
      refine wpAnyH_take (i := 10) (v := ?_) rfl (by kernel_rfl) (by kernel_rfl) (by kernel_rfl) (fun _ _ _ h => h) (Or.inl ⟨by rfl, ?_⟩) (by assumption) ?_
      rotate_left
      · intro w hSw
        (try dsimp only at hSw)
        go_simp
        all_goals (with_reducible rfl)
      (try simp only [Act.put, List.setIfInBounds_toArray, List.set_cons_zero, List.set_cons_succ])
      refine wpAnyH_take (i := 11) (v := ?_) rfl (by kernel_rfl) (by kernel_rfl) (by kernel_rfl) (fun _ _ _ h => h) (Or.inl ⟨by rfl, ?_⟩) (by assumption) ?_
      rotate_left
      · intro w hSw
        (try dsimp only at hSw)
        go_simp
        all_goals (with_reducible rfl)
      (try simp only [Act.put, List.setIfInBounds_toArray, List.set_cons_zero, List.set_cons_succ])
      refine wpAnyH_take (i := 12) (v := ?_) rfl (by kernel_rfl) (by kernel_rfl) (by kernel_rfl) (fun _ _ _ h => h) (Or.inl ⟨by rfl, ?_⟩) (by assumption) ?_
      rotate_left
      · intro w hSw
        (try dsimp only at hSw)
        go_simp
        all_goals (with_reducible rfl)
      (try simp only [Act.put, List.setIfInBounds_toArray, List.set_cons_zero, List.set_cons_succ])
      refine wpAnyH_take (i := 13) (v := ?_) rfl (by kernel_rfl) (by kernel_rfl) (by kernel_rfl) (fun _ _ _ h => h) (Or.inl ⟨by rfl, ?_⟩) (by assumption) ?_
      rotate_left
      · intro w hSw
        (try dsimp only at hSw)
        go_simp
        all_goals (with_reducible rfl)
      (try simp only [Act.put, List.setIfInBounds_toArray, List.set_cons_zero, List.set_cons_succ])
      refine wpAnyH_take (i := 14) (v := ?_) rfl (by kernel_rfl) (by kernel_rfl) (by kernel_rfl) (fun _ _ _ h => h) (Or.inl ⟨by rfl, ?_⟩) (by assumption) ?_
      rotate_left
      · intro w hSw
        (try dsimp only at hSw)
        go_simp
        all_goals (with_reducible rfl)
      (try simp only [Act.put, List.setIfInBounds_toArray, List.set_cons_zero, List.set_cons_succ])
      refine wpAnyH_take (i := 15) (v := ?_) rfl (by kernel_rfl) (by kernel_rfl) (by kernel_rfl) (fun _ _ _ h => h) (Or.inl ⟨by rfl, ?_⟩) (by assumption) ?_
      rotate_left
      · intro w hSw
        (try dsimp only at hSw)
        go_simp
        all_goals (with_reducible rfl)
      (try simp only [Act.put, List.setIfInBounds_toArray, List.set_cons_zero, List.set_cons_succ])
      refine wpAnyH_ready (rs := [4]) (by kernel_rfl) (by simp) ?_
      refine AllReadyH.cons rfl (fun K hK => ?_) AllReadyH.nil
      go_simp
      refine hK.out _ _ ?_ (fun hHeld => ?_)
      · exact hHeld
      clear hK K
      (try simp only [Act.put, List.setIfInBounds_toArray, List.set_cons_zero, List.set_cons_succ])
      refine wpAnyH_ready (rs := [16]) (by kernel_rfl) (by simp) ?_
      refine AllReadyH.cons rfl (fun K hK => ?_) AllReadyH.nil
      go_simp
      refine hlay.mono ?_
      rintro e w5 ⟨v5, rfl, ho5, hk5⟩
      obtain ⟨A5, c5, rfl⟩ := ho5.bs.len
      obtain ⟨f5, f5z⟩ := fc_kp hk5 hx2 id
      refine hK.out _ _ ?_ (fun hHeld => ?_)
      · exact c4_kp (F := NoB) hk5 hHeld id id id id
      clear hK K
      (try simp only [Act.put, List.setIfInBounds_toArray, List.set_cons_zero, List.set_cons_succ])
      refine wpAnyH_take (i := 17) (v := ?_) rfl (by kernel_rfl) (by kernel_rfl) (by kernel_rfl) (fun _ _ _ h => h) (Or.inl ⟨by rfl, ?_⟩) (by assumption) ?_
      rotate_left
      · intro w hSw
        (try dsimp only at hSw)
        go_simp
        all_goals (with_reducible rfl)
      (try simp only [Act.put, List.setIfInBounds_toArray, List.set_cons_zero, List.set_cons_succ])
      refine wpAnyH_take (i := 18) (v := ?_) rfl (by kernel_rfl) (by kernel_rfl) (by kernel_rfl) (fun _ _ _ h => h) (Or.inl ⟨by rfl, ?_⟩) (by assumption) ?_
      rotate_left
      · intro w hSw
        (try dsimp only at hSw)
        go_simp
        all_goals (with_reducible rfl)
      (try simp only [Act.put, List.setIfInBounds_toArray, List.set_cons_zero, List.set_cons_succ])
      refine wpAnyH_ready (rs := [19]) (by kernel_rfl) (by simp) ?_
      refine AllReadyH.cons rfl (fun K hK => ?_) AllReadyH.nil
      go_simp
      refine hK.out _ _ ?_ (fun hHeld => ?_)
      · exact c4_set hHeld hnq3 (hnqg _) (hnqg _) (hnqk _)
      clear hK K
      (try simp only [Act.put, List.setIfInBounds_toArray, List.set_cons_zero, List.set_cons_succ])
      refine wpAnyH_done (by kernel_rfl) ?_ _
      have HO5 := Lib.hid ho5
      have HK5 := Lib.hid hk5
      clear ho5 hk5 hlay f5 f5z hx2 h2d hHeld h3 x1 x2 hkc h2 z2
      go_wp2
      go_roundw
      case measure => simp [intOf]; omega
      case rel =>
        have hd := HDD.out
        have hk5 : Kp NoB wr w5 := (Kp.refl NoB wr).drew.trans HK5.out
        have hq := HQ.out
        have s5 := hk5.size
        have o5 : BS (fun b => wr.heap.size ≤ b ∧ _) w5 _ _ := HO5.out.bs
        generalize hnv : Value.slice A5 (crashL D.sure (D.waits.take (j + 1)) (ks.take (j + 1))).length c5 = v5 at *
        have kq : Kp (fun k => k = q) w5 (w5.setCell ⟨q, 2, none⟩ v5) := kp_set
        have s6 := kq.size
        have kT : Kp F w (w5.setCell ⟨q, 2, none⟩ v5) := (HST.out.kp.next hk5).step kq fun k _ hk => hk ▸ hd.hb
        have hR1 := hd.hR
        have cz : ∀ i, i < 4 → w5.frozen? ⟨q, i, none⟩ = false := fun i hi => (hk5.frozen (p := ⟨q, i, none⟩) hq id).trans (hd.fz i hi)
        have kR : ∀ i, i < wr.heap.size → R' i → ¬ i = q := fun i _ hi he => (hd.hR i hi).2 (he ▸ hd.hb)
        have kT2 : Kp (fun k => k = q) wr (w5.setCell ⟨q, 2, none⟩ v5) := hk5.weak.trans kq
        refine ⟨j + 1, fun k => R' k ∨ (wr.heap.size ≤ k ∧ k < w5.heap.size), v5, by omega, by go_num, ?_, ⟨kT, fun k hk => .inl hk, fun k hk => hk.elim (HST.out.r k) fun h => .inr (Nat.le_trans HST.out.kp.size h.1)⟩⟩
        exact { f0 := set_far (hk5.cell hd.f0 id) (by decide), f1 := set_far (hk5.cell hd.f1 id) (by decide), f2 := set_same (hk5.cell hd.f2 id), f3 := set_far (hk5.cell hd.f3 id) (by decide),
                fz := fun i hi => by rw [World.frozen?_setCell]; exact cz i hi
                os := (o5.mono (T := fun k => R' k ∨ (wr.heap.size ≤ k ∧ k < w5.heap.size)) fun k h1 h2 => .inr ⟨h2.1, h1⟩).kp kq fun k _ hk he => by
                  rcases hk with hk | hk
                  · exact (hd.hR k hk).2 (he ▸ hd.hb)
                  · omega
                ow := own_kp (own_nob hd.ow hk5) kq hd.nb
                rs := (hd.rs.kp kT2 kR).mono fun k _ hk => .inl hk
                nb := hd.nb
                hb := hd.hb
                hF := hd.hF
                lt := fun k hk => by have := hd.lt k hk; omega
                hR := fun k hk => ⟨by
                  rcases hk with hk | hk
                  · have := (hd.hR k hk).1; omega
                  · omega, fun hf => by
                  rcases hk with hk | hk
                  · exact (hd.hR k hk).2 hf
                  · have := hd.lt k hf; omega⟩
                c1 := hd.c1
                c2 := HCL.out
                c4 := hd.c4
                hs := rfl }
    · obtain rfl : j = m := by omega
      have hfin : crashL D.sure (D.waits.take j) (ks.take j) = crashL D.sure D.waits ks := by
        rw [HM.out]; exact crash_min _ _ _
      rw [hfin] at hd
      have z3 := hd.fz 3 (by decide)
      have hq := hd.lt q hd.hb
      have HD := Lib.hid hd
      have HST := Lib.hid hst
      have HQ := Lib.hid hq
      clear hd hst hfin hq
      rcases (by have := HM.out; omega : ¬ (j < D.waits.length) ∨ (j < D.waits.length ∧ ¬ (j < ks.length))) with hx | ⟨hx1, hx2⟩
      all_goals (
        go_wp2_with fail
        go_end0
        have hd := HD.out
        have kq : Kp (fun k => k = q) wr (wr.setCell ⟨q, 3, none⟩ (.slice none 0 0)) := kp_set
        have s6 := kq.size
        have kT : Kp F w (wr.setCell ⟨q, 3, none⟩ (.slice none 0 0)) := HST.out.kp.step kq fun k _ hk => hk ▸ hd.hb
        refine ⟨rfl, R', ⟨q, vs', .slice none 0 0, [], rfl, ?_⟩, ⟨kT, fun k hk => .inl hk, HST.out.r⟩⟩
        exact { f0 := set_far hd.f0 (by decide), f1 := set_far hd.f1 (by decide), f2 := set_far hd.f2 (by decide), f3 := set_same hd.f3,
                fz := fun i hi => by rw [World.frozen?_setCell]; exact hd.fz i hi
                os := hd.os.kp kq fun k _ hk he => (hd.hR k hk).2 (he ▸ hd.hb)
                ow := World.ownsRow_nil _ _ _ _
                rs := RS.nil _ _
                nb := fun k hk => by simp [Value.ownBlock] at hk
                hb := hd.hb
                hF := fun k hk => by simp [Value.ownBlock] at hk
                lt := fun k hk => by have := hd.lt k hk; omega
                hR := fun k hk => ⟨by have := (hd.hR k hk).1; omega, (hd.hR k hk).2⟩
                c1 := hd.c1
                c2 := hd.c2
                c4 := fun y hy => (by cases hy)
                hs := rfl })

end Go.Proofs.YtgjaggnpheoehaaDoor
