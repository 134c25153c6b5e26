/- The reference's log: Sync, Append. -/
import Derived.Test.YtgjaggnpheoehaaDoorLogR
import Derived.Test.YtgjaggnpheoehaaDoorLogP
import Derived.Test.YtgjaggnpheoehaaDoorDRef2
import Derived.Test.YtgjaggnpheoehaaDoorRef2
import Derived.Deep.RegionHeld3
set_option linter.unusedVariables false
set_option linter.unusedSimpArgs false
namespace Go.Proofs.YtgjaggnpheoehaaDoor
open Go.RowKit

theorem RefIs.setL {w : World} {F R : Nat → Prop} {p : Value} {D : DD} (h : RefIs w F R p D) {b : Nat} (hF : ¬ F b) (hR : ¬ R b) (i : Nat) (v : Value) : RefIs (w.setCell ⟨b, i, none⟩ v) F R p D :=
  h.kp ((Kp.refl (fun k => k = b) w).setCell (p := ⟨b, i, none⟩) (.inr rfl) v) fun k _ hk => by subst hk; exact ⟨hF, hR⟩
/-- The three stores at the end of the reference's Append. -/
theorem LogAt.appended2 {w : World} {b : Nat} {d : Value} {ps : List (List UInt8)} {s : Nat} (h : LogAt w b d ps s) (p : List UInt8) (hp : p.length ≤ 16384) (hc : lenC (ps ++ [p]) ≤ 1048576) :
    LogAt (((w.setCell ⟨b, 2, none⟩ (.int .u32 ((chainS 0 1 (ps ++ [p]) : Nat) : Int))).setCell ⟨b, 1, none⟩ (.int .i64 ((lenC (ps ++ [p]) : Nat) : Int))).setCell ⟨b, 3, none⟩ (.int .u32 (((ps ++ [p]).length + 1 : Nat) : Int))) b d (ps ++ [p]) s :=
  ⟨cell_set_other (cell_set_other (cell_set_other h.l0 _ (by decide)) _ (by decide)) _ (by decide), cell_set_other (cell_set_same (cell_set_other h.l1 _ (by decide)) _) _ (by decide),
   cell_set_other (cell_set_other (cell_set_same h.l2 _) _ (by decide)) _ (by decide), cell_set_same (cell_set_other (cell_set_other h.l3 _ (by decide)) _ (by decide)) _,
   cell_set_other (cell_set_other (cell_set_other h.l4 _ (by decide)) _ (by decide)) _ (by decide),
   fun i hi => by simp only [World.frozen?_setCell]; exact h.fz i hi, hc, by have := h.c2; simp; omega, fun x hx => by
    rcases List.mem_append.1 hx with hx | hx
    · exact h.c3 x hx
    · rw [List.mem_singleton.1 hx]; exact hp⟩
/-- The stores of a round of the reference's Recover. -/
theorem LogAt.appended3 {w : World} {b : Nat} {d : Value} {ps : List (List UInt8)} {s : Nat} (h : LogAt w b d ps s) (p : List UInt8) (hp : p.length ≤ 16384) (hc : lenC (ps ++ [p]) ≤ 1048576) :
    LogAt (((w.setCell ⟨b, 1, none⟩ (.int .i64 ((lenC (ps ++ [p]) : Nat) : Int))).setCell ⟨b, 2, none⟩ (.int .u32 ((chainS 0 1 (ps ++ [p]) : Nat) : Int))).setCell ⟨b, 3, none⟩ (.int .u32 (((ps ++ [p]).length + 1 : Nat) : Int))) b d (ps ++ [p]) s := h.appended p hp hc

section
variable {w : World} {b : Nat} {q : Addr} {ps : List (List UInt8)} {s : Nat} {F R : Nat → Prop} {D : DD}
set_option maxRecDepth 100000 in
theorem rlsync_calls (h : LogAt w b (.pointer (some q)) ps s) (hd : RefIs w F R (.pointer (some q)) D) (hF : ¬ F b) (hR : ¬ R b) (hw : D.waits.length ≤ 1000000) :
    Calls Tryd.prog 64 #[.pointer (some ⟨b, 0, none⟩)] w fun e w' => e = .returned (.tuple #[]) ∧ ∃ F' R', LogAt w' b (.pointer (some q)) ps ps.length ∧ RefIs w' F' R' (.pointer (some q)) (syncD D) ∧ LStep b F R w w' F' R' := by
  have h0 := h.l0
  have hlt := h.lt
  have H := Lib.hid h
  have hpl := lenC_len ps
  have hc := h.c1
  clear h
  go_enter Tryd.func64, Tryd.ntmps64
  go_wp2_with fail
  refine (refSync_calls hd hw).mono ?_
  rintro e w1 ⟨rfl, R1, hd1, s1⟩
  have hl1 := H.out.kp s1.kp hF
  have ls : LStep b F R w w1 F R1 := LStep.of_step s1
  have h3 := hl1.l3
  have h4 := hl1.l4
  have f4 := hl1.fz 4 (by decide)
  have hf1 := ls.clearF hlt hF
  have hr1 := ls.clearR hlt hR
  have HL := Lib.hid hl1
  have HD := Lib.hid hd1
  have LS := Lib.hid ls
  clear h0 hl1 hd1 ls s1 hd
  go_wp2_with fail
  go_end0
  exact ⟨rfl, F, R1, HL.out.setSure ps.length (Nat.le_refl _), HD.out.setL hf1 hr1 _ _, LS.out.set _ _⟩
set_option maxRecDepth 100000 in
set_option maxHeartbeats 4000000 in
theorem rlappend_calls (h : LogAt w b (.pointer (some q)) ps s) (hd : RefIs w F R (.pointer (some q)) D) (hF : ¬ F b) (hR : ¬ R b) (p : List UInt8) (vp : Value) (hp : BS (Out F w) w vp p) (hlen : p.length ≤ 16384) (hw : D.waits.length ≤ 1000000) :
    Calls Tryd.prog 63 #[.pointer (some ⟨b, 0, none⟩), vp] w fun e w' => ∃ F' R', LStep b F R w w' F' R' ∧
      ((appE D ps p = 0 ∧ e = .returned (.tuple #[.int .u32 ((ps.length + 1 : Nat) : Int), .int .i64 0]) ∧ LogAt w' b (.pointer (some q)) (ps ++ [p]) s ∧ RefIs w' F' R' (.pointer (some q)) (appD D ps p)) ∨
       (appE D ps p ≠ 0 ∧ e = .returned (.tuple #[.int .u32 0, .int .i64 (appE D ps p : Nat)]) ∧ LogAt w' b (.pointer (some q)) ps s ∧ RefIs w' F' R' (.pointer (some q)) D)) := by
  have hlt := h.lt
  have hpl := lenC_len ps
  have hc := h.c1
  have hcs := chainS_lt ps 0 1 (by decide)
  have hcap := hd.cap.2
  obtain ⟨Ap, cp, rfl⟩ := hp.len
  have hE : appE D ps p = writeE D (lenC ps : Nat) (sealN (chainS 0 1 ps) (ps.length + 1) p) := by unfold appE; rw [if_neg (by omega)]
  have c2 := (h.nob (Kp.refl NoB w).drew).l2
  have c3 := (h.nob (Kp.refl NoB w).drew).l3
  have hse := rseal_calls (chainS 0 1 ps) (ps.length + 1) p (.slice Ap p.length cp) w.drew hcs (by omega) (hp.all.nob (Kp.refl NoB w).drew) hlen
  have H := Lib.hid h
  have HD := Lib.hid hd
  have HP := Lib.hid hp
  have HE := Lib.hid hE
  have HSE := Lib.hid hse
  clear h hd hp hE hse
  go_enter Tryd.func63, Tryd.ntmps63
  go_wp2_with fail
  refine wp_region_held_drew (S := (fun w' => Kp NoB w.drew w')) (by kernel_rfl) (Kp.refl _ _) (fun hHeld => ?_)
  refine wpAnyH_take (i := 0) (v := ?_) rfl (by kernel_rfl) (by kernel_rfl) (by kernel_rfl) (fun _ _ _ h => h) (Or.inl ⟨by rfl, ?_⟩) (by assumption) ?_
  rotate_left
  · intro w hSw
    (try dsimp only at hSw)
    go_simp
    all_goals (with_reducible rfl)
  (try simp only [Act.put, List.getElem_toArray, List.getElem_cons_succ, List.getElem_cons_zero, List.setIfInBounds_toArray, List.set_cons_zero, List.set_cons_succ])
  refine wpAnyH_take (i := 1) (v := ?_) rfl (by kernel_rfl) (by kernel_rfl) (by kernel_rfl) (fun _ _ _ h => h) (Or.inl ⟨by rfl, ?_⟩) (by assumption) ?_
  rotate_left
  · intro w hSw
    (try dsimp only at hSw)
    go_simp
    all_goals (with_reducible rfl)
  (try simp only [Act.put, List.getElem_toArray, List.getElem_cons_succ, List.getElem_cons_zero, List.setIfInBounds_toArray, List.set_cons_zero, List.set_cons_succ])
  refine wpAnyH_take (i := 2) (v := ?_) rfl (by kernel_rfl) (by kernel_rfl) (by kernel_rfl) (fun _ _ _ h => h) (Or.inl ⟨by rfl, ?_⟩) (by assumption) ?_
  rotate_left
  · intro w hSw
    (try dsimp only at hSw)
    go_simp
    all_goals (with_reducible rfl)
  (try simp only [Act.put, List.getElem_toArray, List.getElem_cons_succ, List.getElem_cons_zero, List.setIfInBounds_toArray, List.set_cons_zero, List.set_cons_succ])
  refine wpAnyH_take (i := 3) (v := ?_) rfl (by kernel_rfl) (by kernel_rfl) (by kernel_rfl) (fun _ _ _ h => h) (Or.inl ⟨by rfl, ?_⟩) (by assumption) ?_
  rotate_left
  · intro w hSw
    (try dsimp only at hSw)
    have cc := hSw.cell c2 id
    go_simp
    all_goals (with_reducible rfl)
  (try simp only [Act.put, List.getElem_toArray, List.getElem_cons_succ, List.getElem_cons_zero, List.setIfInBounds_toArray, List.set_cons_zero, List.set_cons_succ])
  refine wpAnyH_take (i := 4) (v := ?_) rfl (by kernel_rfl) (by kernel_rfl) (by kernel_rfl) (fun _ _ _ h => h) (Or.inl ⟨by rfl, ?_⟩) (by assumption) ?_
  rotate_left
  · intro w hSw
    (try dsimp only at hSw)
    go_simp
    all_goals (with_reducible rfl)
  (try simp only [Act.put, List.getElem_toArray, List.getElem_cons_succ, List.getElem_cons_zero, List.setIfInBounds_toArray, List.set_cons_zero, List.set_cons_succ])
  refine wpAnyH_take (i := 5) (v := ?_) rfl (by kernel_rfl) (by kernel_rfl) (by kernel_rfl) (fun _ _ _ h => h) (Or.inl ⟨by rfl, ?_⟩) (by assumption) ?_
  rotate_left
  · intro w hSw
    (try dsimp only at hSw)
    go_simp
    all_goals (with_reducible rfl)
  (try simp only [Act.put, List.getElem_toArray, List.getElem_cons_succ, List.getElem_cons_zero, List.setIfInBounds_toArray, List.set_cons_zero, List.set_cons_succ])
  refine wpAnyH_take (i := 6) (v := ?_) rfl (by kernel_rfl) (by kernel_rfl) (by kernel_rfl) (fun _ _ _ h => h) (Or.inl ⟨by rfl, ?_⟩) (by assumption) ?_
  rotate_left
  · intro w hSw
    (try dsimp only at hSw)
    go_simp
    all_goals (with_reducible rfl)
  (try simp only [Act.put, List.getElem_toArray, List.getElem_cons_succ, List.getElem_cons_zero, List.setIfInBounds_toArray, List.set_cons_zero, List.set_cons_succ])
  refine wpAnyH_take (i := 7) (v := ?_) rfl (by kernel_rfl) (by kernel_rfl) (by kernel_rfl) (fun _ _ _ h => h) (Or.inl ⟨by rfl, ?_⟩) (by assumption) ?_
  rotate_left
  · intro w hSw
    (try dsimp only at hSw)
    have cc := hSw.cell c3 id
    go_simp
    all_goals (with_reducible rfl)
  (try simp only [Act.put, List.getElem_toArray, List.getElem_cons_succ, List.getElem_cons_zero, List.setIfInBounds_toArray, List.set_cons_zero, List.set_cons_succ])
  refine wpAnyH_take (i := 8) (v := ?_) rfl (by kernel_rfl) (by kernel_rfl) (by kernel_rfl) (fun _ _ _ h => h) (Or.inl ⟨by rfl, ?_⟩) (by assumption) ?_
  rotate_left
  · intro w hSw
    (try dsimp only at hSw)
    go_simp
    all_goals (with_reducible rfl)
  (try simp only [Act.put, List.getElem_toArray, List.getElem_cons_succ, List.getElem_cons_zero, List.setIfInBounds_toArray, List.set_cons_zero, List.set_cons_succ])
  refine wpAnyH_ready (rs := [9]) (by kernel_rfl) (by simp) ?_
  refine AllReadyH.cons rfl (fun K hK => ?_) AllReadyH.nil
  (try rw [if_pos (by rfl)])
  go_simp
  refine HSE.out.mono ?_
  rintro e w2 ⟨v2, rfl, o2, k2⟩
  refine hK.out _ _ ?_ (fun hHeld => ?_)
  · exact hHeld.trans k2
  clear hK K
  (try simp only [Act.put, List.getElem_toArray, List.getElem_cons_succ, List.getElem_cons_zero, List.setIfInBounds_toArray, List.set_cons_zero, List.set_cons_succ])
  refine wpAnyH_take (i := 10) (v := ?_) rfl (by kernel_rfl) (by kernel_rfl) (by kernel_rfl) (fun _ _ _ h => h) (Or.inl ⟨by rfl, ?_⟩) (by assumption) ?_
  rotate_left
  · intro w hSw
    (try dsimp only at hSw)
    go_simp
    all_goals (with_reducible rfl)
  (try simp only [Act.put, List.getElem_toArray, List.getElem_cons_succ, List.getElem_cons_zero, List.setIfInBounds_toArray, List.set_cons_zero, List.set_cons_succ])
  refine wpAnyH_take (i := 11) (v := ?_) rfl (by kernel_rfl) (by kernel_rfl) (by kernel_rfl) (fun _ _ _ h => h) (Or.inl ⟨by rfl, ?_⟩) (by assumption) ?_
  rotate_left
  · intro w hSw
    (try dsimp only at hSw)
    go_simp
    all_goals (with_reducible rfl)
  (try simp only [Act.put, List.getElem_toArray, List.getElem_cons_succ, List.getElem_cons_zero, List.setIfInBounds_toArray, List.set_cons_zero, List.set_cons_succ])
  refine wpAnyH_take (i := 12) (v := ?_) rfl (by kernel_rfl) (by kernel_rfl) (by kernel_rfl) (fun _ _ _ h => h) (Or.inl ⟨by rfl, ?_⟩) (by assumption) ?_
  rotate_left
  · intro w hSw
    (try dsimp only at hSw)
    go_simp
    all_goals (with_reducible rfl)
  (try simp only [Act.put, List.getElem_toArray, List.getElem_cons_succ, List.getElem_cons_zero, List.setIfInBounds_toArray, List.set_cons_zero, List.set_cons_succ])
  refine wpAnyH_take (i := 13) (v := ?_) rfl (by kernel_rfl) (by kernel_rfl) (by kernel_rfl) (fun _ _ _ h => h) (Or.inl ⟨by rfl, ?_⟩) (by assumption) ?_
  rotate_left
  · intro w hSw
    (try dsimp only at hSw)
    go_simp
    all_goals (with_reducible rfl)
  (try simp only [Act.put, List.getElem_toArray, List.getElem_cons_succ, List.getElem_cons_zero, List.setIfInBounds_toArray, List.set_cons_zero, List.set_cons_succ])
  refine wpAnyH_take (i := 14) (v := ?_) rfl (by kernel_rfl) (by kernel_rfl) (by kernel_rfl) (fun _ _ _ h => h) (Or.inl ⟨by rfl, ?_⟩) (by assumption) ?_
  rotate_left
  · intro w hSw
    (try dsimp only at hSw)
    go_simp
    all_goals (with_reducible rfl)
  (try simp only [Act.put, List.getElem_toArray, List.getElem_cons_succ, List.getElem_cons_zero, List.setIfInBounds_toArray, List.set_cons_zero, List.set_cons_succ])
  refine wpAnyH_done (by kernel_rfl) ?_ _
  go_simp
  have K2 := Lib.hid ((Kp.refl NoB w).drew.trans k2)
  have hsl := length_sealN (chainS 0 1 ps) (ps.length + 1) p
  have hdr : w.drew.heap.size = w.heap.size := rfl
  rw [hdr] at o2
  obtain ⟨A2, c2', rfl⟩ := o2.bs.len
  rw [hsl] at o2 ⊢
  have hb2 : BS (Out F w2) w2 (.slice A2 (10 + p.length) c2') (sealN (chainS 0 1 ps) (ps.length + 1) p) := o2.bs.mono fun k hk hh => ⟨hk, fun hf => by have h1 := hh.1; have h2 := HD.out.lt k hf; omega⟩
  have hwr := refWrite_calls (HD.out.nob K2.out |>.nob (Kp.refl NoB w2).drew) (lenC ps : Nat) (sealN (chainS 0 1 ps) (ps.length + 1) p) (.slice A2 (10 + p.length) c2') (hb2.kp ((Kp.refl NoB w2).drew) fun _ _ _ => id) ⟨by omega, by omega⟩ hw (by rw [hsl]; omega)
  have HWR := Lib.hid hwr
  have l2 := (H.out.nob K2.out).nob (Kp.refl NoB w2).drew
  have c0 := l2.l0
  have c1 := l2.l1
  have HSL := Lib.hid hsl
  clear hHeld HSE o2 k2 hwr hb2 l2 c2 c3 hsl hdr
  go_wp2_with fail
  refine wp_region_held_drew (S := (fun w' => Kp (fun k => F k) w2.drew w')) (by kernel_rfl) (Kp.refl _ _) (fun hHeld => ?_)
  refine wpAnyH_take (i := 0) (v := ?_) rfl (by kernel_rfl) (by kernel_rfl) (by kernel_rfl) (fun _ _ _ h => h) (Or.inl ⟨by rfl, ?_⟩) (by assumption) ?_
  rotate_left
  · intro w hSw
    (try dsimp only at hSw)
    go_simp
    all_goals (with_reducible rfl)
  (try simp only [Act.put, List.getElem_toArray, List.getElem_cons_succ, List.getElem_cons_zero, List.setIfInBounds_toArray, List.set_cons_zero, List.set_cons_succ])
  refine wpAnyH_take (i := 1) (v := ?_) rfl (by kernel_rfl) (by kernel_rfl) (by kernel_rfl) (fun _ _ _ h => h) (Or.inl ⟨by rfl, ?_⟩) (by assumption) ?_
  rotate_left
  · intro w hSw
    (try dsimp only at hSw)
    go_simp
    all_goals (with_reducible rfl)
  (try simp only [Act.put, List.getElem_toArray, List.getElem_cons_succ, List.getElem_cons_zero, List.setIfInBounds_toArray, List.set_cons_zero, List.set_cons_succ])
  refine wpAnyH_take (i := 2) (v := ?_) rfl (by kernel_rfl) (by kernel_rfl) (by kernel_rfl) (fun _ _ _ h => h) (Or.inl ⟨by rfl, ?_⟩) (by assumption) ?_
  rotate_left
  · intro w hSw
    (try dsimp only at hSw)
    go_simp
    all_goals (with_reducible rfl)
  (try simp only [Act.put, List.getElem_toArray, List.getElem_cons_succ, List.getElem_cons_zero, List.setIfInBounds_toArray, List.set_cons_zero, List.set_cons_succ])
  refine wpAnyH_take (i := 3) (v := ?_) rfl (by kernel_rfl) (by kernel_rfl) (by kernel_rfl) (fun _ _ _ h => h) (Or.inl ⟨by rfl, ?_⟩) (by assumption) ?_
  rotate_left
  · intro w hSw
    (try dsimp only at hSw)
    have cc := hSw.cell c0 hF
    go_simp
    all_goals (with_reducible rfl)
  (try simp only [Act.put, List.getElem_toArray, List.getElem_cons_succ, List.getElem_cons_zero, List.setIfInBounds_toArray, List.set_cons_zero, List.set_cons_succ])
  refine wpAnyH_take (i := 4) (v := ?_) rfl (by kernel_rfl) (by kernel_rfl) (by kernel_rfl) (fun _ _ _ h => h) (Or.inl ⟨by rfl, ?_⟩) (by assumption) ?_
  rotate_left
  · intro w hSw
    (try dsimp only at hSw)
    go_simp
    all_goals (with_reducible rfl)
  (try simp only [Act.put, List.getElem_toArray, List.getElem_cons_succ, List.getElem_cons_zero, List.setIfInBounds_toArray, List.set_cons_zero, List.set_cons_succ])
  refine wpAnyH_take (i := 5) (v := ?_) rfl (by kernel_rfl) (by kernel_rfl) (by kernel_rfl) (fun _ _ _ h => h) (Or.inl ⟨by rfl, ?_⟩) (by assumption) ?_
  rotate_left
  · intro w hSw
    (try dsimp only at hSw)
    go_simp
    all_goals (with_reducible rfl)
  (try simp only [Act.put, List.getElem_toArray, List.getElem_cons_succ, List.getElem_cons_zero, List.setIfInBounds_toArray, List.set_cons_zero, List.set_cons_succ])
  refine wpAnyH_take (i := 6) (v := ?_) rfl (by kernel_rfl) (by kernel_rfl) (by kernel_rfl) (fun _ _ _ h => h) (Or.inl ⟨by rfl, ?_⟩) (by assumption) ?_
  rotate_left
  · intro w hSw
    (try dsimp only at hSw)
    go_simp
    all_goals (with_reducible rfl)
  (try simp only [Act.put, List.getElem_toArray, List.getElem_cons_succ, List.getElem_cons_zero, List.setIfInBounds_toArray, List.set_cons_zero, List.set_cons_succ])
  refine wpAnyH_take (i := 7) (v := ?_) rfl (by kernel_rfl) (by kernel_rfl) (by kernel_rfl) (fun _ _ _ h => h) (Or.inl ⟨by rfl, ?_⟩) (by assumption) ?_
  rotate_left
  · intro w hSw
    (try dsimp only at hSw)
    have cc := hSw.cell c1 hF
    go_simp
    all_goals (with_reducible rfl)
  (try simp only [Act.put, List.getElem_toArray, List.getElem_cons_succ, List.getElem_cons_zero, List.setIfInBounds_toArray, List.set_cons_zero, List.set_cons_succ])
  refine wpAnyH_take (i := 8) (v := ?_) rfl (by kernel_rfl) (by kernel_rfl) (by kernel_rfl) (fun _ _ _ h => h) (Or.inl ⟨by rfl, ?_⟩) (by assumption) ?_
  rotate_left
  · intro w hSw
    (try dsimp only at hSw)
    go_simp
    all_goals (with_reducible rfl)
  (try simp only [Act.put, List.getElem_toArray, List.getElem_cons_succ, List.getElem_cons_zero, List.setIfInBounds_toArray, List.set_cons_zero, List.set_cons_succ])
  refine wpAnyH_ready (rs := [9]) (by kernel_rfl) (by simp) ?_
  refine AllReadyH.cons rfl (fun K hK => ?_) AllReadyH.nil
  (try rw [if_pos (by rfl)])
  go_simp
  refine HWR.out.mono ?_
  rintro e w3 ⟨rfl, F3, R3, d3, s3⟩
  refine hK.out _ _ ?_ (fun hHeld => ?_)
  · exact s3.kp
  clear hK K
  (try simp only [Act.put, List.getElem_toArray, List.getElem_cons_succ, List.getElem_cons_zero, List.setIfInBounds_toArray, List.set_cons_zero, List.set_cons_succ])
  refine wpAnyH_take (i := 10) (v := ?_) rfl (by kernel_rfl) (by kernel_rfl) (by kernel_rfl) (fun _ _ _ h => h) (Or.inl ⟨by rfl, ?_⟩) (by assumption) ?_
  rotate_left
  · intro w hSw
    (try dsimp only at hSw)
    go_simp
    all_goals (with_reducible rfl)
  (try simp only [Act.put, List.getElem_toArray, List.getElem_cons_succ, List.getElem_cons_zero, List.setIfInBounds_toArray, List.set_cons_zero, List.set_cons_succ])
  refine wpAnyH_done (by kernel_rfl) ?_ _
  go_simp
  have ls : LStep b F R w w3 F3 R3 := LStep.of_step ((Step.of_nob (K2.out.trans (Kp.refl NoB w2).drew)).trans s3)
  have l3 : LogAt w3 b (.pointer (some q)) ps s := ((H.out.nob K2.out).nob (Kp.refl NoB w2).drew).kp s3.kp hF
  have hp3 : BS AllB w3 (.slice Ap p.length cp) p := ((((HP.out.nob K2.out).nob (Kp.refl NoB w2).drew)).kp s3.kp fun k _ hk => hk.2).all
  have LS := Lib.hid ls
  have L3 := Lib.hid l3
  have P3 := Lib.hid hp3
  have D3 := Lib.hid d3
  clear hHeld HWR s3 ls l3 hp3 d3 c0 c1
  by_cases hz : writeE D (lenC ps : Nat) (sealN (chainS 0 1 ps) (ps.length + 1) p) = 0
  · have D3 : Hid (RefIs w3 F3 R3 (.pointer (some q)) (appD D ps p)) := D3
    have HE : Hid (appE D ps p = 0) := Lib.hid (HE.out.trans hz)
    have hfit := write_fit hz hcap
    rw [HSL.out] at hfit
    rw [hz]
    have hsum := fun (k : World) (hk : Kp NoB w3 k) => rsum_calls (chainS 0 1 ps) (ps.length + 1) p (.slice Ap p.length cp) k hcs (by omega) (P3.out.nob hk)
    have HSUM := Lib.hid hsum
    have hb3 := LS.out.clearF hlt hF
    have hr3 := LS.out.clearR hlt hR
    have m1 : lenC (ps ++ [p]) = lenC ps + (10 + p.length) := lenC_snoc ps p
    have m2 := chainS_snoc ps p
    have m3 : (ps ++ [p]).length + 1 = ps.length + 1 + 1 := by simp
    have happ := fun (k : World) (hk : Kp NoB w3 k) => (L3.out.nob hk).appended2 p hlen (by rw [m1]; omega)
    rw [m1, m2, m3] at happ
    have HAPP := Lib.hid happ
    have d2 := (L3.out.nob (Kp.refl NoB w3).drew).l2
    have d3 := (L3.out.nob (Kp.refl NoB w3).drew).l3
    have hsl2 := sumN_lt (chainS 0 1 ps) (ps.length + 1) p
    generalize sumN (chainS 0 1 ps) (ps.length + 1) p = su at *
    have w1 : IntKind.i64.wrap ((lenC ps : Int) + (10 + (p.length : Int))) = (lenC ps : Int) + (10 + (p.length : Int)) := wrap_in (by omega) (by omega)
    have w2 : IntKind.u32.wrap ((ps.length : Int) + 1 + 1) = (ps.length : Int) + 1 + 1 := by rw [IntKind.wrap_u32]; omega
    have w2' : IntKind.u32.wrap ((ps.length : Int) + 1 + 1 - 1) = (ps.length : Int) + 1 := by rw [IntKind.wrap_u32]; omega
    clear hz hsum happ m1 m2 m3
    go_wp2_with fail
    refine wp_region_held_drew (S := (fun w' => True)) (by kernel_rfl) trivial (fun hHeld => ?_)
    refine wpAnyH_take (i := 0) (v := ?_) rfl (by kernel_rfl) (by kernel_rfl) (by kernel_rfl) (fun _ _ _ h => h) (Or.inl ⟨by rfl, ?_⟩) (by assumption) ?_
    rotate_left
    · intro w hSw
      (try dsimp only at hSw)
      go_simp
      all_goals (with_reducible rfl)
    (try simp only [Act.put, List.getElem_toArray, List.getElem_cons_succ, List.getElem_cons_zero, List.setIfInBounds_toArray, List.set_cons_zero, List.set_cons_succ])
    refine wpAnyH_take (i := 1) (v := ?_) rfl (by kernel_rfl) (by kernel_rfl) (by kernel_rfl) (fun _ _ _ h => h) (Or.inl ⟨by rfl, ?_⟩) (by assumption) ?_
    rotate_left
    · intro w hSw
      (try dsimp only at hSw)
      go_simp
      all_goals (with_reducible rfl)
    (try simp only [Act.put, List.getElem_toArray, List.getElem_cons_succ, List.getElem_cons_zero, List.setIfInBounds_toArray, List.set_cons_zero, List.set_cons_succ])
    refine wpAnyH_take (i := 2) (v := ?_) rfl (by kernel_rfl) (by kernel_rfl) (by kernel_rfl) (fun _ _ _ h => h) (Or.inl ⟨by rfl, ?_⟩) (by assumption) ?_
    rotate_left
    · intro w hSw
      (try dsimp only at hSw)
      go_simp
      all_goals (with_reducible rfl)
    (try simp only [Act.put, List.getElem_toArray, List.getElem_cons_succ, List.getElem_cons_zero, List.setIfInBounds_toArray, List.set_cons_zero, List.set_cons_succ])
    refine wpAnyH_take (i := 3) (v := ?_) rfl (by kernel_rfl) (by kernel_rfl) (by kernel_rfl) (fun _ _ _ h => h) (Or.inl ⟨by rfl, ?_⟩) (by assumption) ?_
    rotate_left
    · intro w hSw
      (try dsimp only at hSw)
      go_simp
      all_goals (with_reducible rfl)
    (try simp only [Act.put, List.getElem_toArray, List.getElem_cons_succ, List.getElem_cons_zero, List.setIfInBounds_toArray, List.set_cons_zero, List.set_cons_succ])
    refine wpAnyH_take (i := 5) (v := ?_) rfl (by kernel_rfl) (by kernel_rfl) (by kernel_rfl) (fun _ _ _ h => h) (Or.inl ⟨by rfl, ?_⟩) (by assumption) ?_
    rotate_left
    · intro w hSw
      (try dsimp only at hSw)
      go_simp
      all_goals (with_reducible rfl)
    (try simp only [Act.put, List.getElem_toArray, List.getElem_cons_succ, List.getElem_cons_zero, List.setIfInBounds_toArray, List.set_cons_zero, List.set_cons_succ])
    refine wpAnyH_take (i := 6) (v := ?_) rfl (by kernel_rfl) (by kernel_rfl) (by kernel_rfl) (fun _ _ _ h => h) (Or.inl ⟨by rfl, ?_⟩) (by assumption) ?_
    rotate_left
    · intro w hSw
      (try dsimp only at hSw)
      go_simp
      all_goals (with_reducible rfl)
    (try simp only [Act.put, List.getElem_toArray, List.getElem_cons_succ, List.getElem_cons_zero, List.setIfInBounds_toArray, List.set_cons_zero, List.set_cons_succ])
    refine wpAnyH_take (i := 7) (v := ?_) rfl (by kernel_rfl) (by kernel_rfl) (by kernel_rfl) (fun _ _ _ h => h) (Or.inl ⟨by rfl, ?_⟩) (by assumption) ?_
    rotate_left
    · intro w hSw
      (try dsimp only at hSw)
      go_simp
      all_goals (with_reducible rfl)
    (try simp only [Act.put, List.getElem_toArray, List.getElem_cons_succ, List.getElem_cons_zero, List.setIfInBounds_toArray, List.set_cons_zero, List.set_cons_succ])
    refine wpAnyH_take (i := 9) (v := ?_) rfl (by kernel_rfl) (by kernel_rfl) (by kernel_rfl) (fun _ _ _ h => h) (Or.inl ⟨by rfl, ?_⟩) (by assumption) ?_
    rotate_left
    · intro w hSw
      (try dsimp only at hSw)
      go_simp
      all_goals (with_reducible rfl)
    (try simp only [Act.put, List.getElem_toArray, List.getElem_cons_succ, List.getElem_cons_zero, List.setIfInBounds_toArray, List.set_cons_zero, List.set_cons_succ])
    refine wpAnyH_ready (rs := [4, 8]) (by kernel_rfl) (by simp) ?_
    refine AllReadyH.cons rfl (fun K hK => ?_) (AllReadyH.cons rfl (fun K hK => ?_) AllReadyH.nil)
    · (try rw [if_pos (by rfl)])
      go_simp
      refine hK.out _ _ ?_ (fun hHeld => ?_)
      · trivial
      clear hK K
      (try simp only [Act.put, List.getElem_toArray, List.getElem_cons_succ, List.getElem_cons_zero, List.setIfInBounds_toArray, List.set_cons_zero, List.set_cons_succ])
      refine wpAnyH_ready (rs := [8]) (by kernel_rfl) (by simp) ?_
      refine AllReadyH.cons rfl (fun K hK => ?_) AllReadyH.nil
      (try rw [if_pos (by rfl)])
      go_simp
      refine hK.out _ _ ?_ (fun hHeld => ?_)
      · trivial
      clear hK K
      (try simp only [Act.put, List.getElem_toArray, List.getElem_cons_succ, List.getElem_cons_zero, List.setIfInBounds_toArray, List.set_cons_zero, List.set_cons_succ])
      refine wpAnyH_ready (rs := [10]) (by kernel_rfl) (by simp) ?_
      refine AllReadyH.cons rfl (fun K hK => ?_) AllReadyH.nil
      (try rw [if_pos (by rfl)])
      go_simp
      refine (HSUM.out _ ((Kp.refl NoB w3).drew)).mono ?_
      rintro e w5 ⟨rfl, k5⟩
      have K5 := Lib.hid ((Kp.refl NoB w3).drew.trans k5)
      have x0 := L3.out.nob K5.out
      have x1 := x0.l1
      have x2 := x0.l2
      have x3 := x0.l3
      have y1 := x0.fz 1 (by decide)
      have y2 := x0.fz 2 (by decide)
      have y3 := x0.fz 3 (by decide)
      clear k5 x0 d2 d3
      refine hK.out _ _ ?_ (fun hHeld => ?_)
      · trivial
      clear hK K
      (try simp only [Act.put, List.getElem_toArray, List.getElem_cons_succ, List.getElem_cons_zero, List.setIfInBounds_toArray, List.set_cons_zero, List.set_cons_succ])
      refine wpAnyH_take (i := 11) (v := ?_) rfl (by kernel_rfl) (by kernel_rfl) (by kernel_rfl) (fun _ _ _ h => h) (Or.inl ⟨by rfl, ?_⟩) (by assumption) ?_
      rotate_left
      · intro w hSw
        (try dsimp only at hSw)
        go_simp
        all_goals (with_reducible rfl)
      (try simp only [Act.put, List.getElem_toArray, List.getElem_cons_succ, List.getElem_cons_zero, List.setIfInBounds_toArray, List.set_cons_zero, List.set_cons_succ])
      refine wpAnyH_take (i := 12) (v := ?_) rfl (by kernel_rfl) (by kernel_rfl) (by kernel_rfl) (fun _ _ _ h => h) (Or.inl ⟨by rfl, ?_⟩) (by assumption) ?_
      rotate_left
      · intro w hSw
        (try dsimp only at hSw)
        go_simp
        all_goals (with_reducible rfl)
      (try simp only [Act.put, List.getElem_toArray, List.getElem_cons_succ, List.getElem_cons_zero, List.setIfInBounds_toArray, List.set_cons_zero, List.set_cons_succ])
      refine wpAnyH_ready (rs := [13]) (by kernel_rfl) (by simp) ?_
      refine AllReadyH.cons rfl (fun K hK => ?_) AllReadyH.nil
      (try rw [if_pos (by rfl)])
      go_simp
      refine hK.out _ _ ?_ (fun hHeld => ?_)
      · trivial
      clear hK K
      (try simp only [Act.put, List.getElem_toArray, List.getElem_cons_succ, List.getElem_cons_zero, List.setIfInBounds_toArray, List.set_cons_zero, List.set_cons_succ])
      refine wpAnyH_done (by kernel_rfl) ?_ _
      go_simp
      go_wp2_with fail
      go_ret2
      refine ⟨F3, R3, (((LS.out.next K5.out).set _ _).set _ _).set _ _, .inl ⟨HE.out, rfl, HAPP.out w5 K5.out, (((D3.out.nob K5.out).setL hb3 hr3 _ _).setL hb3 hr3 _ _).setL hb3 hr3 _ _⟩⟩
    · (try rw [if_pos (by rfl)])
      go_simp
      refine hK.out _ _ ?_ (fun hHeld => ?_)
      · trivial
      clear hK K
      (try simp only [Act.put, List.getElem_toArray, List.getElem_cons_succ, List.getElem_cons_zero, List.setIfInBounds_toArray, List.set_cons_zero, List.set_cons_succ])
      refine wpAnyH_ready (rs := [4]) (by kernel_rfl) (by simp) ?_
      refine AllReadyH.cons rfl (fun K hK => ?_) AllReadyH.nil
      (try rw [if_pos (by rfl)])
      go_simp
      refine hK.out _ _ ?_ (fun hHeld => ?_)
      · trivial
      clear hK K
      (try simp only [Act.put, List.getElem_toArray, List.getElem_cons_succ, List.getElem_cons_zero, List.setIfInBounds_toArray, List.set_cons_zero, List.set_cons_succ])
      refine wpAnyH_ready (rs := [10]) (by kernel_rfl) (by simp) ?_
      refine AllReadyH.cons rfl (fun K hK => ?_) AllReadyH.nil
      (try rw [if_pos (by rfl)])
      go_simp
      refine (HSUM.out _ ((Kp.refl NoB w3).drew)).mono ?_
      rintro e w5 ⟨rfl, k5⟩
      have K5 := Lib.hid ((Kp.refl NoB w3).drew.trans k5)
      have x0 := L3.out.nob K5.out
      have x1 := x0.l1
      have x2 := x0.l2
      have x3 := x0.l3
      have y1 := x0.fz 1 (by decide)
      have y2 := x0.fz 2 (by decide)
      have y3 := x0.fz 3 (by decide)
      clear k5 x0 d2 d3
      refine hK.out _ _ ?_ (fun hHeld => ?_)
      · trivial
      clear hK K
      (try simp only [Act.put, List.getElem_toArray, List.getElem_cons_succ, List.getElem_cons_zero, List.setIfInBounds_toArray, List.set_cons_zero, List.set_cons_succ])
      refine wpAnyH_take (i := 11) (v := ?_) rfl (by kernel_rfl) (by kernel_rfl) (by kernel_rfl) (fun _ _ _ h => h) (Or.inl ⟨by rfl, ?_⟩) (by assumption) ?_
      rotate_left
      · intro w hSw
        (try dsimp only at hSw)
        go_simp
        all_goals (with_reducible rfl)
      (try simp only [Act.put, List.getElem_toArray, List.getElem_cons_succ, List.getElem_cons_zero, List.setIfInBounds_toArray, List.set_cons_zero, List.set_cons_succ])
      refine wpAnyH_take (i := 12) (v := ?_) rfl (by kernel_rfl) (by kernel_rfl) (by kernel_rfl) (fun _ _ _ h => h) (Or.inl ⟨by rfl, ?_⟩) (by assumption) ?_
      rotate_left
      · intro w hSw
        (try dsimp only at hSw)
        go_simp
        all_goals (with_reducible rfl)
      (try simp only [Act.put, List.getElem_toArray, List.getElem_cons_succ, List.getElem_cons_zero, List.setIfInBounds_toArray, List.set_cons_zero, List.set_cons_succ])
      refine wpAnyH_ready (rs := [13]) (by kernel_rfl) (by simp) ?_
      refine AllReadyH.cons rfl (fun K hK => ?_) AllReadyH.nil
      (try rw [if_pos (by rfl)])
      go_simp
      refine hK.out _ _ ?_ (fun hHeld => ?_)
      · trivial
      clear hK K
      (try simp only [Act.put, List.getElem_toArray, List.getElem_cons_succ, List.getElem_cons_zero, List.setIfInBounds_toArray, List.set_cons_zero, List.set_cons_succ])
      refine wpAnyH_done (by kernel_rfl) ?_ _
      go_simp
      go_wp2_with fail
      go_ret2
      refine ⟨F3, R3, (((LS.out.next K5.out).set _ _).set _ _).set _ _, .inl ⟨HE.out, rfl, HAPP.out w5 K5.out, (((D3.out.nob K5.out).setL hb3 hr3 _ _).setL hb3 hr3 _ _).setL hb3 hr3 _ _⟩⟩
  · have D3 : Hid (RefIs w3 F3 R3 (.pointer (some q)) D) := by
      have := D3.out
      rw [writeD, if_neg hz] at this
      exact Lib.hid this
    obtain ⟨N, hN, hN0⟩ : ∃ N, N = writeE D (lenC ps : Nat) (sealN (chainS 0 1 ps) (ps.length + 1) p) ∧ N ≠ 0 := ⟨_, rfl, hz⟩
    have HE : Hid (appE D ps p = N) := Lib.hid (HE.out.trans hN.symm)
    rw [← hN]
    have hne : ((N : Int) == 0) = false := by simp; exact hN0
    clear hN hz
    go_wp2_with fail
    go_ret2
    exact ⟨F3, R3, LS.out, .inr ⟨by rw [HE.out]; exact hN0, by rw [HE.out]; rfl, L3.out, D3.out⟩⟩
end
end Go.Proofs.YtgjaggnpheoehaaDoor
