/- The reference's log: Recover. -/
import Derived.Test.YtgjaggnpheoehaaDoorRLogA
set_option linter.unusedVariables false
set_option linter.unusedSimpArgs false
namespace Go.Proofs.YtgjaggnpheoehaaDoor
open Go.RowKit

theorem LogAt.madeR (w : World) (q : Addr) : LogAt (w.alloc (.cells #[.pointer (some q), .int .i64 0, .int .u32 0, .int .u32 1, .int .u32 0] 79)) w.heap.size (.pointer (some q)) [] 0 := by
  have hh := heap_alloc_new w (.cells #[.pointer (some q), .int .i64 0, .int .u32 0, .int .u32 1, .int .u32 0] 79)
  have hc : ∀ (i : Nat) (v : Value), (#[.pointer (some q), .int .i64 0, .int .u32 0, .int .u32 1, .int .u32 0] : Array Value)[i]? = some v → (w.alloc (.cells #[.pointer (some q), .int .i64 0, .int .u32 0, .int .u32 1, .int .u32 0] 79)).cell? ⟨w.heap.size, i, none⟩ = some v := by
    intro i v hv
    simp only [World.cell?, hh]
    exact hv
  exact ⟨hc 0 _ rfl, hc 1 _ rfl, hc 2 _ rfl, hc 3 _ rfl, hc 4 _ rfl, fun i _ => by simp only [World.frozen?, hh]; simp, by decide, Nat.le_refl _, fun p hp => by cases hp⟩
theorem ropen_right (S : Nat → Prop) (a n : Nat) (l : List UInt8) (v : Value) (w : World) (ha : a < 4294967296) (hn : n < 4294967296) (hv : BS S w v l) (hE : openE a n l = 0) :
    Calls Tryd.prog 22 #[.int .u32 a, .int .u32 n, v] w fun e w' => ∃ v', e = .returned (.tuple #[v', .int .i64 ((10 + sizeN l : Nat) : Int), .int .u32 (sumN a n (payN l) : Nat), .int .i64 0]) ∧ BS S w' v' (payN l) ∧ Kp NoB w w' :=
  (ropen_calls S a n l v w ha hn hv).mono fun e w' h => h.2.elim (fun ⟨_, v', he, hb⟩ => ⟨v', he, hb, h.1⟩) fun h2 => absurd hE h2.1
theorem ropen_wrong (S : Nat → Prop) (a n : Nat) (l : List UInt8) (v : Value) (w : World) (ha : a < 4294967296) (hn : n < 4294967296) (hv : BS S w v l) (N : Nat) (hE : openE a n l = N) (hN : N ≠ 0) :
    Calls Tryd.prog 22 #[.int .u32 a, .int .u32 n, v] w fun e w' => e = .returned (.tuple #[.slice none 0 0, .int .i64 0, .int .u32 0, .int .i64 (N : Int)]) ∧ Kp NoB w w' :=
  (ropen_calls S a n l v w ha hn hv).mono fun e w' h => h.2.elim (fun h2 => absurd (hE.symm.trans h2.1) hN) fun h2 => ⟨by rw [← hE]; exact h2.2, h.1⟩
/-- What the reference's Recover leaves and tells. -/
def RRecPost (q : Addr) (w : World) (F R : Nat → Prop) (D : DD) (e : Ending) (w' : World) : Prop :=
  ∃ ps rest F' R', Parse D.seen ps rest ∧ Step F R w w' F' R' ∧
    ((recE D ps rest = 0 ∧ ∃ b vo us, e = .returned (.tuple #[.pointer (some ⟨b, 0, none⟩), vo, .int .i64 0]) ∧ w.heap.size ≤ b ∧ ¬ F' b ∧ ¬ R' b ∧ LogAt w' b (.pointer (some q)) ps ps.length ∧ RefIs w' F' R' (.pointer (some q)) (syncD (recD D ps rest)) ∧
        Vals (fun k => R k ∨ w.heap.size ≤ k) w' vo us ∧ RS (fun k => R k ∨ w.heap.size ≤ k) w' us ps) ∨
     (recE D ps rest ≠ 0 ∧ e = .returned (.tuple #[.pointer none, .slice none 0 0, .int .i64 (recE D ps rest : Nat)]) ∧ RefIs w' F' R' (.pointer (some q)) D))

set_option maxRecDepth 100000 in
set_option maxHeartbeats 8000000 in
theorem rlrecover_calls {w : World} {F R : Nat → Prop} {q : Addr} {D : DD} (hd : RefIs w F R (.pointer (some q)) D) (hw : D.waits.length ≤ 100000) :
    Calls Tryd.prog 62 #[.pointer (some q)] w (RRecPost q w F R D) := by
  have hal := LogAt.madeR w q
  have ka : Kp NoB w (w.alloc (.cells #[.pointer (some q), .int .i64 0, .int .u32 0, .int .u32 1, .int .u32 0] 79)) := (Kp.refl _ _).alloc _
  have e1 : (w.alloc (.cells #[.pointer (some q), .int .i64 0, .int .u32 0, .int .u32 1, .int .u32 0] 79)).heap.size = w.heap.size + 1 := by simp
  have hFlt := hd.lt
  have hRlt := hd.hR
  have hcap := hd.cap
  have hsn := refSeen_calls (hd.nob ka) (by omega)
  have HAL := Lib.hid hal
  have KA := Lib.hid ka
  have E1 := Lib.hid e1
  have HD := Lib.hid hd
  have HSN := Lib.hid hsn
  clear hal ka e1 hd hsn
  go_enter Tryd.func62, Tryd.ntmps62
  go_wp2_with fail
  refine HSN.out.mono ?_
  rintro e w2 ⟨v2, rfl, o2, k2⟩
  obtain ⟨A2, c2, rfl⟩ := o2.len
  have l2 := HAL.out.nob k2
  have z2 := k2.size
  rw [E1.out] at z2 o2
  have K02 := Lib.hid (KA.out.trans k2)
  have o2' : BS (fun k => (R k ∨ w.heap.size + 1 ≤ k) ∧ k < w2.heap.size) w2 (.slice A2 D.seen.length c2) D.seen := o2.mono fun k hk h => ⟨h, hk⟩
  have HS : Hid (∀ k, ((R k ∨ w.heap.size + 1 ≤ k) ∧ k < w2.heap.size) → k < w2.heap.size ∧ k ≠ w.heap.size ∧ ¬ F k ∧ (R k ∨ w.heap.size ≤ k)) := Lib.hid fun k hk => ⟨hk.2, fun he => by
    rcases hk.1 with h | h
    · have := (hRlt k h).1; omega
    · omega, fun hf => by
    rcases hk.1 with h | h
    · exact (hRlt k h).2 hf
    · have := hFlt k hf; omega, hk.1.imp id fun h => by omega⟩
  obtain ⟨S, O2, HS⟩ : ∃ S : Nat → Prop, Hid (BS S w2 (.slice A2 D.seen.length c2) D.seen) ∧ Hid (∀ k, S k → k < w2.heap.size ∧ k ≠ w.heap.size ∧ ¬ F k ∧ (R k ∨ w.heap.size ≤ k)) := ⟨_, Lib.hid o2', HS⟩
  have HD2 := Lib.hid (HD.out.nob K02.out)
  have hsl : D.seen.length ≤ 1048576 := by omega
  have L2 := Lib.hid l2
  clear o2 o2' HD HSN l2 k2
  go_wp2_with fail
  go_loopw [6] (fun vo wr => ∃ (ps : List (List UInt8)) (rest : List UInt8) (us : List Value), D.seen = chainB 0 1 ps ++ rest ∧ LogAt wr w.heap.size (.pointer (some q)) ps 0 ∧ Own1 22 wr w2.heap.size vo us ∧ RS S wr us ps ∧ Kp (fun k => k = w.heap.size ∨ w2.heap.size ≤ k) w2 wr) (fun _ wr => D.seen.length + 1 - atOf w.heap.size wr)
  case atStart => exact ⟨[], D.seen, [], rfl, L2.out, Own1.nil _ _ _, RS.nil _ _, Kp.refl _ _⟩
  case round =>
    obtain ⟨ps, rest, us, hse, hlr, hown, hrs, hk⟩ := hrel
    obtain ⟨Ao, co, rfl⟩ := hown.vals.len
    have hd0 : Kp NoB wr wr.drew := (Kp.refl NoB wr).drew
    have hbs : BS S wr.drew (.slice A2 D.seen.length c2) D.seen := (O2.out.kp hk fun k _ hk h => by have := HS.out k hk; rcases h with h | h; exact this.2.1 h; exact absurd this.1 (by omega)).nob hd0
    have hld := hlr.nob hd0
    have p1 := hld.l1
    have p2 := hld.l2
    have p3 := hld.l3
    have hsl2 : D.seen.length = lenC ps + rest.length := by have := congrArg List.length hse; rw [List.length_append] at this; exact this
    obtain ⟨vr, hcut2, hcut, hbr⟩ := run_cut byteT hbs (lenC ps) D.seen.length (by omega) (Nat.le_refl _) (some (.int .i64 ((lenC ps : Nat) : Int))) none (.inr ⟨.i64, rfl⟩) (.inl ⟨rfl, rfl⟩)
    rw [List.take_length] at hbr
    have hdr : D.seen.drop (lenC ps) = rest := by rw [hse]; exact List.drop_left
    rw [hdr] at hbr
    have hpl := lenC_len ps
    have hcs := chainS_lt ps 0 1 (by decide)
    obtain ⟨Ar, cr, rfl⟩ := hbr.len
    have hul := hrs.1
    have HSE := Lib.hid hse
    have HLR := Lib.hid hlr
    have HOWN := Lib.hid hown
    have HRS := Lib.hid hrs
    have HK := Lib.hid hk
    have HSL := Lib.hid hsl2
    have HUL := Lib.hid hul
    have HBR := Lib.hid hbr
    have hrl : lenC ps + rest.length ≤ 1048576 := by omega
    have hnp : ps.length + 1 < 4294967296 := by omega
    clear hse hlr hown hrs hk hsl2 hul hbr hdr hbs hld hd0 hcut2 L2
    by_cases hE : openE (chainS 0 1 ps) (ps.length + 1) rest = 0
    · have HE := Lib.hid hE
      clear hE
      go_wp2_with fail
      refine wp_region_held_drew (S := (fun w' => Kp NoB wr.drew w')) (by kernel_rfl) (Kp.refl _ _) (fun hHeld => ?_)
      refine wpAnyH_take (i := 0) (v := ?_) rfl (by kernel_rfl) (by kernel_rfl) (by kernel_rfl) (fun _ _ _ h => h) (Or.inl ⟨by rfl, ?_⟩) (by assumption) ?_
      rotate_left
      · intro w hSw
        (try dsimp only at hSw)
        go_simp
        all_goals (with_reducible rfl)
      (try simp only [Act.put, List.getElem_toArray, List.getElem_cons_succ, List.getElem_cons_zero, List.setIfInBounds_toArray, List.set_cons_zero, List.set_cons_succ])
      refine wpAnyH_take (i := 1) (v := ?_) rfl (by kernel_rfl) (by kernel_rfl) (by kernel_rfl) (fun _ _ _ h => h) (Or.inl ⟨by rfl, ?_⟩) (by assumption) ?_
      rotate_left
      · intro w hSw
        (try dsimp only at hSw)
        go_simp
        all_goals (with_reducible rfl)
      (try simp only [Act.put, List.getElem_toArray, List.getElem_cons_succ, List.getElem_cons_zero, List.setIfInBounds_toArray, List.set_cons_zero, List.set_cons_succ])
      refine wpAnyH_take (i := 2) (v := ?_) rfl (by kernel_rfl) (by kernel_rfl) (by kernel_rfl) (fun _ _ _ h => h) (Or.inl ⟨by rfl, ?_⟩) (by assumption) ?_
      rotate_left
      · intro w hSw
        (try dsimp only at hSw)
        go_simp
        all_goals (with_reducible rfl)
      (try simp only [Act.put, List.getElem_toArray, List.getElem_cons_succ, List.getElem_cons_zero, List.setIfInBounds_toArray, List.set_cons_zero, List.set_cons_succ])
      refine wpAnyH_take (i := 3) (v := ?_) rfl (by kernel_rfl) (by kernel_rfl) (by kernel_rfl) (fun _ _ _ h => h) (Or.inl ⟨by rfl, ?_⟩) (by assumption) ?_
      rotate_left
      · intro w hSw
        (try dsimp only at hSw)
        have x2 := hSw.cell p2 id
        go_simp
        all_goals (with_reducible rfl)
      (try simp only [Act.put, List.getElem_toArray, List.getElem_cons_succ, List.getElem_cons_zero, List.setIfInBounds_toArray, List.set_cons_zero, List.set_cons_succ])
      refine wpAnyH_take (i := 4) (v := ?_) rfl (by kernel_rfl) (by kernel_rfl) (by kernel_rfl) (fun _ _ _ h => h) (Or.inl ⟨by rfl, ?_⟩) (by assumption) ?_
      rotate_left
      · intro w hSw
        (try dsimp only at hSw)
        go_simp
        all_goals (with_reducible rfl)
      (try simp only [Act.put, List.getElem_toArray, List.getElem_cons_succ, List.getElem_cons_zero, List.setIfInBounds_toArray, List.set_cons_zero, List.set_cons_succ])
      refine wpAnyH_take (i := 5) (v := ?_) rfl (by kernel_rfl) (by kernel_rfl) (by kernel_rfl) (fun _ _ _ h => h) (Or.inl ⟨by rfl, ?_⟩) (by assumption) ?_
      rotate_left
      · intro w hSw
        (try dsimp only at hSw)
        go_simp
        all_goals (with_reducible rfl)
      (try simp only [Act.put, List.getElem_toArray, List.getElem_cons_succ, List.getElem_cons_zero, List.setIfInBounds_toArray, List.set_cons_zero, List.set_cons_succ])
      refine wpAnyH_take (i := 6) (v := ?_) rfl (by kernel_rfl) (by kernel_rfl) (by kernel_rfl) (fun _ _ _ h => h) (Or.inl ⟨by rfl, ?_⟩) (by assumption) ?_
      rotate_left
      · intro w hSw
        (try dsimp only at hSw)
        go_simp
        all_goals (with_reducible rfl)
      (try simp only [Act.put, List.getElem_toArray, List.getElem_cons_succ, List.getElem_cons_zero, List.setIfInBounds_toArray, List.set_cons_zero, List.set_cons_succ])
      refine wpAnyH_take (i := 7) (v := ?_) rfl (by kernel_rfl) (by kernel_rfl) (by kernel_rfl) (fun _ _ _ h => h) (Or.inl ⟨by rfl, ?_⟩) (by assumption) ?_
      rotate_left
      · intro w hSw
        (try dsimp only at hSw)
        have x2 := hSw.cell p3 id
        go_simp
        all_goals (with_reducible rfl)
      (try simp only [Act.put, List.getElem_toArray, List.getElem_cons_succ, List.getElem_cons_zero, List.setIfInBounds_toArray, List.set_cons_zero, List.set_cons_succ])
      refine wpAnyH_take (i := 8) (v := ?_) rfl (by kernel_rfl) (by kernel_rfl) (by kernel_rfl) (fun _ _ _ h => h) (Or.inl ⟨by rfl, ?_⟩) (by assumption) ?_
      rotate_left
      · intro w hSw
        (try dsimp only at hSw)
        go_simp
        all_goals (with_reducible rfl)
      (try simp only [Act.put, List.getElem_toArray, List.getElem_cons_succ, List.getElem_cons_zero, List.setIfInBounds_toArray, List.set_cons_zero, List.set_cons_succ])
      refine wpAnyH_take (i := 9) (v := ?_) rfl (by kernel_rfl) (by kernel_rfl) (by kernel_rfl) (fun _ _ _ h => h) (Or.inl ⟨by rfl, ?_⟩) (by assumption) ?_
      rotate_left
      · intro w hSw
        (try dsimp only at hSw)
        go_simp
        all_goals (with_reducible rfl)
      (try simp only [Act.put, List.getElem_toArray, List.getElem_cons_succ, List.getElem_cons_zero, List.setIfInBounds_toArray, List.set_cons_zero, List.set_cons_succ])
      refine wpAnyH_take (i := 10) (v := ?_) rfl (by kernel_rfl) (by kernel_rfl) (by kernel_rfl) (fun _ _ _ h => h) (Or.inl ⟨by rfl, ?_⟩) (by assumption) ?_
      rotate_left
      · intro w hSw
        (try dsimp only at hSw)
        go_simp
        all_goals (with_reducible rfl)
      (try simp only [Act.put, List.getElem_toArray, List.getElem_cons_succ, List.getElem_cons_zero, List.setIfInBounds_toArray, List.set_cons_zero, List.set_cons_succ])
      refine wpAnyH_take (i := 11) (v := ?_) rfl (by kernel_rfl) (by kernel_rfl) (by kernel_rfl) (fun _ _ _ h => h) (Or.inl ⟨by rfl, ?_⟩) (by assumption) ?_
      rotate_left
      · intro w hSw
        (try dsimp only at hSw)
        go_simp
        all_goals (with_reducible rfl)
      (try simp only [Act.put, List.getElem_toArray, List.getElem_cons_succ, List.getElem_cons_zero, List.setIfInBounds_toArray, List.set_cons_zero, List.set_cons_succ])
      refine wpAnyH_take (i := 12) (v := ?_) rfl (by kernel_rfl) (by kernel_rfl) (by kernel_rfl) (fun _ _ _ h => h) (Or.inl ⟨by rfl, ?_⟩) (by assumption) ?_
      rotate_left
      · intro w hSw
        (try dsimp only at hSw)
        have x2 := hSw.cell p1 id
        go_simp
        all_goals (with_reducible rfl)
      (try simp only [Act.put, List.getElem_toArray, List.getElem_cons_succ, List.getElem_cons_zero, List.setIfInBounds_toArray, List.set_cons_zero, List.set_cons_succ])
      refine wpAnyH_take (i := 13) (v := ?_) rfl (by kernel_rfl) (by kernel_rfl) (by kernel_rfl) (fun _ _ _ h => h) (Or.inl ⟨by rfl, ?_⟩) (by assumption) ?_
      rotate_left
      · intro w hSw
        (try dsimp only at hSw)
        go_simp
        all_goals (with_reducible rfl)
      (try simp only [Act.put, List.getElem_toArray, List.getElem_cons_succ, List.getElem_cons_zero, List.setIfInBounds_toArray, List.set_cons_zero, List.set_cons_succ])
      refine wpAnyH_ready (rs := [14]) (by kernel_rfl) (by simp) ?_
      refine AllReadyH.cons rfl (fun K hK => ?_) AllReadyH.nil
      (try rw [if_pos (by rfl)])
      go_simp
      refine (ropen_right S (chainS 0 1 ps) (ps.length + 1) rest _ wr.drew hcs hnp HBR.out HE.out).mono ?_
      rintro e w5 ⟨v5, rfl, o5, k5⟩
      refine hK.out _ _ ?_ (fun hHeld => ?_)
      · exact hHeld.trans k5
      clear hK K
      (try simp only [Act.put, List.getElem_toArray, List.getElem_cons_succ, List.getElem_cons_zero, List.setIfInBounds_toArray, List.set_cons_zero, List.set_cons_succ])
      refine wpAnyH_take (i := 15) (v := ?_) rfl (by kernel_rfl) (by kernel_rfl) (by kernel_rfl) (fun _ _ _ h => h) (Or.inl ⟨by rfl, ?_⟩) (by assumption) ?_
      rotate_left
      · intro w hSw
        (try dsimp only at hSw)
        go_simp
        all_goals (with_reducible rfl)
      (try simp only [Act.put, List.getElem_toArray, List.getElem_cons_succ, List.getElem_cons_zero, List.setIfInBounds_toArray, List.set_cons_zero, List.set_cons_succ])
      refine wpAnyH_take (i := 16) (v := ?_) rfl (by kernel_rfl) (by kernel_rfl) (by kernel_rfl) (fun _ _ _ h => h) (Or.inl ⟨by rfl, ?_⟩) (by assumption) ?_
      rotate_left
      · intro w hSw
        (try dsimp only at hSw)
        go_simp
        all_goals (with_reducible rfl)
      (try simp only [Act.put, List.getElem_toArray, List.getElem_cons_succ, List.getElem_cons_zero, List.setIfInBounds_toArray, List.set_cons_zero, List.set_cons_succ])
      refine wpAnyH_take (i := 17) (v := ?_) rfl (by kernel_rfl) (by kernel_rfl) (by kernel_rfl) (fun _ _ _ h => h) (Or.inl ⟨by rfl, ?_⟩) (by assumption) ?_
      rotate_left
      · intro w hSw
        (try dsimp only at hSw)
        go_simp
        all_goals (with_reducible rfl)
      (try simp only [Act.put, List.getElem_toArray, List.getElem_cons_succ, List.getElem_cons_zero, List.setIfInBounds_toArray, List.set_cons_zero, List.set_cons_succ])
      refine wpAnyH_take (i := 18) (v := ?_) rfl (by kernel_rfl) (by kernel_rfl) (by kernel_rfl) (fun _ _ _ h => h) (Or.inl ⟨by rfl, ?_⟩) (by assumption) ?_
      rotate_left
      · intro w hSw
        (try dsimp only at hSw)
        go_simp
        all_goals (with_reducible rfl)
      (try simp only [Act.put, List.getElem_toArray, List.getElem_cons_succ, List.getElem_cons_zero, List.setIfInBounds_toArray, List.set_cons_zero, List.set_cons_succ])
      refine wpAnyH_take (i := 19) (v := ?_) rfl (by kernel_rfl) (by kernel_rfl) (by kernel_rfl) (fun _ _ _ h => h) (Or.inl ⟨by rfl, ?_⟩) (by assumption) ?_
      rotate_left
      · intro w hSw
        (try dsimp only at hSw)
        go_simp
        all_goals (with_reducible rfl)
      (try simp only [Act.put, List.getElem_toArray, List.getElem_cons_succ, List.getElem_cons_zero, List.setIfInBounds_toArray, List.set_cons_zero, List.set_cons_succ])
      refine wpAnyH_take (i := 20) (v := ?_) rfl (by kernel_rfl) (by kernel_rfl) (by kernel_rfl) (fun _ _ _ h => h) (Or.inl ⟨by rfl, ?_⟩) (by assumption) ?_
      rotate_left
      · intro w hSw
        (try dsimp only at hSw)
        go_simp
        all_goals (with_reducible rfl)
      (try simp only [Act.put, List.getElem_toArray, List.getElem_cons_succ, List.getElem_cons_zero, List.setIfInBounds_toArray, List.set_cons_zero, List.set_cons_succ])
      refine wpAnyH_take (i := 21) (v := ?_) rfl (by kernel_rfl) (by kernel_rfl) (by kernel_rfl) (fun _ _ _ h => h) (Or.inl ⟨by rfl, ?_⟩) (by assumption) ?_
      rotate_left
      · intro w hSw
        (try dsimp only at hSw)
        go_simp
        all_goals (with_reducible rfl)
      (try simp only [Act.put, List.getElem_toArray, List.getElem_cons_succ, List.getElem_cons_zero, List.setIfInBounds_toArray, List.set_cons_zero, List.set_cons_succ])
      refine wpAnyH_take (i := 22) (v := ?_) rfl (by kernel_rfl) (by kernel_rfl) (by kernel_rfl) (fun _ _ _ h => h) (Or.inl ⟨by rfl, ?_⟩) (by assumption) ?_
      rotate_left
      · intro w hSw
        (try dsimp only at hSw)
        go_simp
        all_goals (with_reducible rfl)
      (try simp only [Act.put, List.getElem_toArray, List.getElem_cons_succ, List.getElem_cons_zero, List.setIfInBounds_toArray, List.set_cons_zero, List.set_cons_succ])
      refine wpAnyH_take (i := 23) (v := ?_) rfl (by kernel_rfl) (by kernel_rfl) (by kernel_rfl) (fun _ _ _ h => h) (Or.inl ⟨by rfl, ?_⟩) (by assumption) ?_
      rotate_left
      · intro w hSw
        (try dsimp only at hSw)
        go_simp
        all_goals (with_reducible rfl)
      (try simp only [Act.put, List.getElem_toArray, List.getElem_cons_succ, List.getElem_cons_zero, List.setIfInBounds_toArray, List.set_cons_zero, List.set_cons_succ])
      refine wpAnyH_done (by kernel_rfl) ?_ _
      go_simp
      have kr5 : Kp NoB wr w5 := (Kp.refl NoB wr).drew.trans hHeld
      obtain ⟨hz1, hz2, hz3, _, _⟩ := open_facts _ _ _ HE.out
      have hso := seal_open _ _ _ HE.out
      obtain ⟨p, hp⟩ : ∃ p, p = payN rest := ⟨_, rfl⟩
      rw [← hp] at o5 hz3 hso ⊢
      obtain ⟨m, hm⟩ : ∃ m, m = sizeN rest := ⟨_, rfl⟩
      rw [← hm] at hz1 hz2 hz3 hso ⊢
      have hnew : D.seen = chainB 0 1 (ps ++ [p]) ++ rest.drop (10 + m) := by
        rw [chainB_snoc, hso, List.append_assoc, List.take_append_drop]
        exact HSE.out
      have hp16 : p.length ≤ 16384 := by omega
      have hml : (p.length : Nat) = m := hz3
      have hlen2 : lenC (ps ++ [p]) = lenC ps + (10 + m) := by rw [lenC_snoc, hml]
      obtain ⟨A5, c5, rfl⟩ := o5.len
      have l5 := HLR.out.nob kr5
      have ka5 : Kp NoB w5 (w5.alloc (.cells #[.slice A5 p.length c5] 22)) := (Kp.refl _ _).alloc _
      have hown5 := (HOWN.out.nob kr5).nob ka5
      have hsz5 := (HK.out.next kr5).size
      obtain ⟨v6, w6, h1, h2, h3, h4⟩ := run_push rowL 41 hown5 w5.heap.size 0 1 (cell_new1 w5 (.slice A5 p.length c5) 22 (0, 0)) rfl (by have := HUL.out; omega) (by have := ka5.size; omega)
      obtain ⟨A6, c6, rfl⟩ : ∃ A c, v6 = .slice A (us.length + 1) c := by obtain ⟨A, c, h⟩ := h2.vals.len; exact ⟨A, c, by rw [h]; simp⟩
      have kg : Kp (fun k => (Value.slice Ao us.length co).ownBlock = some k) w5 w6 := ka5.weak.trans (Kp.of_grown h3)
      have hob : ¬ (Value.slice Ao us.length co).ownBlock = some w.heap.size := fun h => by have := (HOWN.out.lt _ h).1; omega
      have l6 := l5.kp kg hob
      have hrs6 := (HRS.out.nob kr5).kp kg fun k _ hk h => by have := (HS.out k hk).1; have := (HOWN.out.lt k h).1; omega
      have o6 := o5.kp kg fun k _ hk h => by have := (HS.out k hk).1; have := (HOWN.out.lt k h).1; omega
      have hrs7 := hrs6.snoc o6
      have k26 : Kp (fun k => k = w.heap.size ∨ w2.heap.size ≤ k) w2 w6 := (HK.out.next kr5).trans (kg.mono fun k _ h => .inr (HOWN.out.lt k h).1)
      have q1 := l6.l1
      have q2 := l6.l2
      have q3 := l6.l3
      have e1 := l6.fz 1 (by decide)
      have e2 := l6.fz 2 (by decide)
      have e3 := l6.fz 3 (by decide)
      have m2 := chainS_snoc ps p
      have m3 : (ps ++ [p]).length + 1 = ps.length + 1 + 1 := by simp
      have happ := l6.appended3 p hp16 (by rw [hlen2]; omega)
      rw [hlen2, m2, m3] at happ
      have hsu := sumN_lt (chainS 0 1 ps) (ps.length + 1) p
      generalize sumN (chainS 0 1 ps) (ps.length + 1) p = su at *
      have g1 : IntKind.i64.wrap ((lenC ps : Int) + (10 + (m : Int))) = (lenC ps : Int) + (10 + (m : Int)) := wrap_in (by omega) (by omega)
      have g2 : IntKind.u32.wrap ((ps.length : Int) + 1 + 1) = (ps.length : Int) + 1 + 1 := by rw [IntKind.wrap_u32]; omega
      have hnb : ∀ k, (Value.slice A6 (us.length + 1) c6).ownBlock = some k → ¬ k = w.heap.size := fun k hk h => by have := (h2.lt k hk).1; omega
      have HNEW := Lib.hid hnew
      have HAPP := Lib.hid happ
      have HL2 := Lib.hid hlen2
      have H2 := Lib.hid h2
      have HRS7 := Lib.hid hrs7
      have K26 := Lib.hid k26
      have HNB := Lib.hid hnb
      clear hHeld k5 o5 hnew happ hlen2 h2 h3 h4 kg hob l6 l5 hrs6 o6 hrs7 k26 hnb hm hml hz3 hso m2 m3 hcut p1 p2 p3 ka5 hown5 kr5 HOWN HRS hp
      go_wp2_with (first
        | ((with_reducible refine gate_dst (N := 43) rfl ?_); go_must (refine Lib.wpList_append_run _ rfl _ _ _ _ rfl (.slice Ao us.length co) (.slice (some ⟨w5.heap.size, 0, none⟩) 1 1) rfl rfl _ _ h1 ?_))
        | fail)
      have kb : Kp (fun k => k = w.heap.size) w6 (((w6.setCell ⟨w.heap.size, 1, none⟩ (.int .i64 ((lenC ps : Int) + (10 + (m : Int))))).setCell ⟨w.heap.size, 2, none⟩ (.int .u32 (su : Int))).setCell ⟨w.heap.size, 3, none⟩ (.int .u32 ((ps.length : Int) + 1 + 1))) := (((Kp.refl (fun k => k = w.heap.size) w6).setCell (p := ⟨w.heap.size, 1, none⟩) (.inr rfl) _).setCell (p := ⟨w.heap.size, 2, none⟩) (.inr rfl) _).setCell (p := ⟨w.heap.size, 3, none⟩) (.inr rfl) _
      have hap : LogAt (((w6.setCell ⟨w.heap.size, 1, none⟩ (.int .i64 ((lenC ps : Int) + (10 + (m : Int))))).setCell ⟨w.heap.size, 2, none⟩ (.int .u32 (su : Int))).setCell ⟨w.heap.size, 3, none⟩ (.int .u32 ((ps.length : Int) + 1 + 1))) w.heap.size (.pointer (some q)) (ps ++ [p]) 0 := HAPP.out
      generalize ((w6.setCell ⟨w.heap.size, 1, none⟩ (.int .i64 ((lenC ps : Int) + (10 + (m : Int))))).setCell ⟨w.heap.size, 2, none⟩ (.int .u32 (su : Int))).setCell ⟨w.heap.size, 3, none⟩ (.int .u32 ((ps.length : Int) + 1 + 1)) = w7 at *
      go_roundw
      case rel => exact ⟨ps ++ [p], rest.drop (10 + m), us ++ [.slice A5 p.length c5], HNEW.out, hap, H2.out.kp kb fun k _ hk h => HNB.out k hk h, HRS7.out.kp kb (fun k _ hk h => (HS.out k hk).2.1 h), K26.out.trans (kb.mono fun _ _ h => .inl h)⟩
      case measure => rw [hap.atOf, HLR.out.atOf, HL2.out]; have := HSL.out; omega
    · obtain ⟨N, hN, hN0⟩ : ∃ N, openE (chainS 0 1 ps) (ps.length + 1) rest = N ∧ N ≠ 0 := ⟨_, rfl, hE⟩
      have HE := Lib.hid hN
      have hne : ((N : Int) == 0) = false := by simp; exact hN0
      clear hE hN
      go_wp2_with fail
      refine wp_region_held_drew (S := (fun w' => Kp NoB wr.drew w')) (by kernel_rfl) (Kp.refl _ _) (fun hHeld => ?_)
      refine wpAnyH_take (i := 0) (v := ?_) rfl (by kernel_rfl) (by kernel_rfl) (by kernel_rfl) (fun _ _ _ h => h) (Or.inl ⟨by rfl, ?_⟩) (by assumption) ?_
      rotate_left
      · intro w hSw
        (try dsimp only at hSw)
        go_simp
        all_goals (with_reducible rfl)
      (try simp only [Act.put, List.getElem_toArray, List.getElem_cons_succ, List.getElem_cons_zero, List.setIfInBounds_toArray, List.set_cons_zero, List.set_cons_succ])
      refine wpAnyH_take (i := 1) (v := ?_) rfl (by kernel_rfl) (by kernel_rfl) (by kernel_rfl) (fun _ _ _ h => h) (Or.inl ⟨by rfl, ?_⟩) (by assumption) ?_
      rotate_left
      · intro w hSw
        (try dsimp only at hSw)
        go_simp
        all_goals (with_reducible rfl)
      (try simp only [Act.put, List.getElem_toArray, List.getElem_cons_succ, List.getElem_cons_zero, List.setIfInBounds_toArray, List.set_cons_zero, List.set_cons_succ])
      refine wpAnyH_take (i := 2) (v := ?_) rfl (by kernel_rfl) (by kernel_rfl) (by kernel_rfl) (fun _ _ _ h => h) (Or.inl ⟨by rfl, ?_⟩) (by assumption) ?_
      rotate_left
      · intro w hSw
        (try dsimp only at hSw)
        go_simp
        all_goals (with_reducible rfl)
      (try simp only [Act.put, List.getElem_toArray, List.getElem_cons_succ, List.getElem_cons_zero, List.setIfInBounds_toArray, List.set_cons_zero, List.set_cons_succ])
      refine wpAnyH_take (i := 3) (v := ?_) rfl (by kernel_rfl) (by kernel_rfl) (by kernel_rfl) (fun _ _ _ h => h) (Or.inl ⟨by rfl, ?_⟩) (by assumption) ?_
      rotate_left
      · intro w hSw
        (try dsimp only at hSw)
        have x2 := hSw.cell p2 id
        go_simp
        all_goals (with_reducible rfl)
      (try simp only [Act.put, List.getElem_toArray, List.getElem_cons_succ, List.getElem_cons_zero, List.setIfInBounds_toArray, List.set_cons_zero, List.set_cons_succ])
      refine wpAnyH_take (i := 4) (v := ?_) rfl (by kernel_rfl) (by kernel_rfl) (by kernel_rfl) (fun _ _ _ h => h) (Or.inl ⟨by rfl, ?_⟩) (by assumption) ?_
      rotate_left
      · intro w hSw
        (try dsimp only at hSw)
        go_simp
        all_goals (with_reducible rfl)
      (try simp only [Act.put, List.getElem_toArray, List.getElem_cons_succ, List.getElem_cons_zero, List.setIfInBounds_toArray, List.set_cons_zero, List.set_cons_succ])
      refine wpAnyH_take (i := 5) (v := ?_) rfl (by kernel_rfl) (by kernel_rfl) (by kernel_rfl) (fun _ _ _ h => h) (Or.inl ⟨by rfl, ?_⟩) (by assumption) ?_
      rotate_left
      · intro w hSw
        (try dsimp only at hSw)
        go_simp
        all_goals (with_reducible rfl)
      (try simp only [Act.put, List.getElem_toArray, List.getElem_cons_succ, List.getElem_cons_zero, List.setIfInBounds_toArray, List.set_cons_zero, List.set_cons_succ])
      refine wpAnyH_take (i := 6) (v := ?_) rfl (by kernel_rfl) (by kernel_rfl) (by kernel_rfl) (fun _ _ _ h => h) (Or.inl ⟨by rfl, ?_⟩) (by assumption) ?_
      rotate_left
      · intro w hSw
        (try dsimp only at hSw)
        go_simp
        all_goals (with_reducible rfl)
      (try simp only [Act.put, List.getElem_toArray, List.getElem_cons_succ, List.getElem_cons_zero, List.setIfInBounds_toArray, List.set_cons_zero, List.set_cons_succ])
      refine wpAnyH_take (i := 7) (v := ?_) rfl (by kernel_rfl) (by kernel_rfl) (by kernel_rfl) (fun _ _ _ h => h) (Or.inl ⟨by rfl, ?_⟩) (by assumption) ?_
      rotate_left
      · intro w hSw
        (try dsimp only at hSw)
        have x2 := hSw.cell p3 id
        go_simp
        all_goals (with_reducible rfl)
      (try simp only [Act.put, List.getElem_toArray, List.getElem_cons_succ, List.getElem_cons_zero, List.setIfInBounds_toArray, List.set_cons_zero, List.set_cons_succ])
      refine wpAnyH_take (i := 8) (v := ?_) rfl (by kernel_rfl) (by kernel_rfl) (by kernel_rfl) (fun _ _ _ h => h) (Or.inl ⟨by rfl, ?_⟩) (by assumption) ?_
      rotate_left
      · intro w hSw
        (try dsimp only at hSw)
        go_simp
        all_goals (with_reducible rfl)
      (try simp only [Act.put, List.getElem_toArray, List.getElem_cons_succ, List.getElem_cons_zero, List.setIfInBounds_toArray, List.set_cons_zero, List.set_cons_succ])
      refine wpAnyH_take (i := 9) (v := ?_) rfl (by kernel_rfl) (by kernel_rfl) (by kernel_rfl) (fun _ _ _ h => h) (Or.inl ⟨by rfl, ?_⟩) (by assumption) ?_
      rotate_left
      · intro w hSw
        (try dsimp only at hSw)
        go_simp
        all_goals (with_reducible rfl)
      (try simp only [Act.put, List.getElem_toArray, List.getElem_cons_succ, List.getElem_cons_zero, List.setIfInBounds_toArray, List.set_cons_zero, List.set_cons_succ])
      refine wpAnyH_take (i := 10) (v := ?_) rfl (by kernel_rfl) (by kernel_rfl) (by kernel_rfl) (fun _ _ _ h => h) (Or.inl ⟨by rfl, ?_⟩) (by assumption) ?_
      rotate_left
      · intro w hSw
        (try dsimp only at hSw)
        go_simp
        all_goals (with_reducible rfl)
      (try simp only [Act.put, List.getElem_toArray, List.getElem_cons_succ, List.getElem_cons_zero, List.setIfInBounds_toArray, List.set_cons_zero, List.set_cons_succ])
      refine wpAnyH_take (i := 11) (v := ?_) rfl (by kernel_rfl) (by kernel_rfl) (by kernel_rfl) (fun _ _ _ h => h) (Or.inl ⟨by rfl, ?_⟩) (by assumption) ?_
      rotate_left
      · intro w hSw
        (try dsimp only at hSw)
        go_simp
        all_goals (with_reducible rfl)
      (try simp only [Act.put, List.getElem_toArray, List.getElem_cons_succ, List.getElem_cons_zero, List.setIfInBounds_toArray, List.set_cons_zero, List.set_cons_succ])
      refine wpAnyH_take (i := 12) (v := ?_) rfl (by kernel_rfl) (by kernel_rfl) (by kernel_rfl) (fun _ _ _ h => h) (Or.inl ⟨by rfl, ?_⟩) (by assumption) ?_
      rotate_left
      · intro w hSw
        (try dsimp only at hSw)
        have x2 := hSw.cell p1 id
        go_simp
        all_goals (with_reducible rfl)
      (try simp only [Act.put, List.getElem_toArray, List.getElem_cons_succ, List.getElem_cons_zero, List.setIfInBounds_toArray, List.set_cons_zero, List.set_cons_succ])
      refine wpAnyH_take (i := 13) (v := ?_) rfl (by kernel_rfl) (by kernel_rfl) (by kernel_rfl) (fun _ _ _ h => h) (Or.inl ⟨by rfl, ?_⟩) (by assumption) ?_
      rotate_left
      · intro w hSw
        (try dsimp only at hSw)
        go_simp
        all_goals (with_reducible rfl)
      (try simp only [Act.put, List.getElem_toArray, List.getElem_cons_succ, List.getElem_cons_zero, List.setIfInBounds_toArray, List.set_cons_zero, List.set_cons_succ])
      refine wpAnyH_ready (rs := [14]) (by kernel_rfl) (by simp) ?_
      refine AllReadyH.cons rfl (fun K hK => ?_) AllReadyH.nil
      (try rw [if_pos (by rfl)])
      go_simp
      refine (ropen_wrong S (chainS 0 1 ps) (ps.length + 1) rest _ wr.drew hcs hnp HBR.out N HE.out hN0).mono ?_
      rintro e w5 ⟨rfl, k5⟩
      refine hK.out _ _ ?_ (fun hHeld => ?_)
      · exact hHeld.trans k5
      clear hK K
      (try simp only [Act.put, List.getElem_toArray, List.getElem_cons_succ, List.getElem_cons_zero, List.setIfInBounds_toArray, List.set_cons_zero, List.set_cons_succ])
      refine wpAnyH_take (i := 15) (v := ?_) rfl (by kernel_rfl) (by kernel_rfl) (by kernel_rfl) (fun _ _ _ h => h) (Or.inl ⟨by rfl, ?_⟩) (by assumption) ?_
      rotate_left
      · intro w hSw
        (try dsimp only at hSw)
        go_simp
        all_goals (with_reducible rfl)
      (try simp only [Act.put, List.getElem_toArray, List.getElem_cons_succ, List.getElem_cons_zero, List.setIfInBounds_toArray, List.set_cons_zero, List.set_cons_succ])
      refine wpAnyH_take (i := 16) (v := ?_) rfl (by kernel_rfl) (by kernel_rfl) (by kernel_rfl) (fun _ _ _ h => h) (Or.inl ⟨by rfl, ?_⟩) (by assumption) ?_
      rotate_left
      · intro w hSw
        (try dsimp only at hSw)
        go_simp
        all_goals (with_reducible rfl)
      (try simp only [Act.put, List.getElem_toArray, List.getElem_cons_succ, List.getElem_cons_zero, List.setIfInBounds_toArray, List.set_cons_zero, List.set_cons_succ])
      refine wpAnyH_take (i := 17) (v := ?_) rfl (by kernel_rfl) (by kernel_rfl) (by kernel_rfl) (fun _ _ _ h => h) (Or.inl ⟨by rfl, ?_⟩) (by assumption) ?_
      rotate_left
      · intro w hSw
        (try dsimp only at hSw)
        go_simp
        all_goals (with_reducible rfl)
      (try simp only [Act.put, List.getElem_toArray, List.getElem_cons_succ, List.getElem_cons_zero, List.setIfInBounds_toArray, List.set_cons_zero, List.set_cons_succ])
      refine wpAnyH_take (i := 18) (v := ?_) rfl (by kernel_rfl) (by kernel_rfl) (by kernel_rfl) (fun _ _ _ h => h) (Or.inl ⟨by rfl, ?_⟩) (by assumption) ?_
      rotate_left
      · intro w hSw
        (try dsimp only at hSw)
        go_simp
        all_goals (with_reducible rfl)
      (try simp only [Act.put, List.getElem_toArray, List.getElem_cons_succ, List.getElem_cons_zero, List.setIfInBounds_toArray, List.set_cons_zero, List.set_cons_succ])
      refine wpAnyH_take (i := 19) (v := ?_) rfl (by kernel_rfl) (by kernel_rfl) (by kernel_rfl) (fun _ _ _ h => h) (Or.inl ⟨by rfl, ?_⟩) (by assumption) ?_
      rotate_left
      · intro w hSw
        (try dsimp only at hSw)
        go_simp
        all_goals (with_reducible rfl)
      (try simp only [Act.put, List.getElem_toArray, List.getElem_cons_succ, List.getElem_cons_zero, List.setIfInBounds_toArray, List.set_cons_zero, List.set_cons_succ])
      refine wpAnyH_take (i := 20) (v := ?_) rfl (by kernel_rfl) (by kernel_rfl) (by kernel_rfl) (fun _ _ _ h => h) (Or.inl ⟨by rfl, ?_⟩) (by assumption) ?_
      rotate_left
      · intro w hSw
        (try dsimp only at hSw)
        go_simp
        all_goals (with_reducible rfl)
      (try simp only [Act.put, List.getElem_toArray, List.getElem_cons_succ, List.getElem_cons_zero, List.setIfInBounds_toArray, List.set_cons_zero, List.set_cons_succ])
      refine wpAnyH_take (i := 21) (v := ?_) rfl (by kernel_rfl) (by kernel_rfl) (by kernel_rfl) (fun _ _ _ h => h) (Or.inl ⟨by rfl, ?_⟩) (by assumption) ?_
      rotate_left
      · intro w hSw
        (try dsimp only at hSw)
        go_simp
        all_goals (with_reducible rfl)
      (try simp only [Act.put, List.getElem_toArray, List.getElem_cons_succ, List.getElem_cons_zero, List.setIfInBounds_toArray, List.set_cons_zero, List.set_cons_succ])
      refine wpAnyH_take (i := 22) (v := ?_) rfl (by kernel_rfl) (by kernel_rfl) (by kernel_rfl) (fun _ _ _ h => h) (Or.inl ⟨by rfl, ?_⟩) (by assumption) ?_
      rotate_left
      · intro w hSw
        (try dsimp only at hSw)
        go_simp
        all_goals (with_reducible rfl)
      (try simp only [Act.put, List.getElem_toArray, List.getElem_cons_succ, List.getElem_cons_zero, List.setIfInBounds_toArray, List.set_cons_zero, List.set_cons_succ])
      refine wpAnyH_take (i := 23) (v := ?_) rfl (by kernel_rfl) (by kernel_rfl) (by kernel_rfl) (fun _ _ _ h => h) (Or.inl ⟨by rfl, ?_⟩) (by assumption) ?_
      rotate_left
      · intro w hSw
        (try dsimp only at hSw)
        go_simp
        all_goals (with_reducible rfl)
      (try simp only [Act.put, List.getElem_toArray, List.getElem_cons_succ, List.getElem_cons_zero, List.setIfInBounds_toArray, List.set_cons_zero, List.set_cons_succ])
      refine wpAnyH_done (by kernel_rfl) ?_ _
      go_simp
      have kr5 : Kp NoB wr w5 := (Kp.refl NoB wr).drew.trans hHeld
      have k0r : Kp NoB w wr := K02.out.step HK.out fun i hi h => by have := z2; rcases h with h | h <;> omega
      have hPar : Parse D.seen ps rest := ⟨HSE.out, HLR.out.c3, by rw [HE.out]; exact hN0⟩
      have hd5 : RefIs w5 F R (.pointer (some q)) D := (HD2.out.kp HK.out fun i _ h => by
        rcases h with h | h
        · exact ⟨fun hf => by have := hFlt i hf; omega, fun hf => by have := (hRlt i hf).1; omega⟩
        · exact ⟨fun hf => by have := hFlt i hf; omega, fun hf => by have := (hRlt i hf).1; omega⟩).nob kr5
      have hl5 := HLR.out.nob kr5
      have hz5 := kr5.size
      have hzr := HK.out.size
      obtain ⟨V, hv5, hr5, hV⟩ : ∃ V : Nat → Prop, Vals V w5 (.slice Ao us.length co) us ∧ RS V w5 us ps ∧ ∀ k, V k → ¬ F k ∧ k ≠ w.heap.size ∧ k < w5.heap.size ∧ (R k ∨ w.heap.size ≤ k) :=
        ⟨fun k => S k ∨ (w2.heap.size ≤ k ∧ k < w5.heap.size), (HOWN.out.vals.nob kr5).mono fun k hk h => .inr ⟨h.1, hk⟩, (HRS.out.nob kr5).mono fun k hk h => .inl h, fun k hk => by
          rcases hk with hk | hk
          · have := HS.out k hk; exact ⟨this.2.2.1, this.2.1, by omega, this.2.2.2⟩
          · exact ⟨fun hf => by have := hFlt k hf; omega, by omega, hk.2, .inr (by omega)⟩⟩
      have K05 := Lib.hid (k0r.trans kr5)
      have HPAR := Lib.hid hPar
      have HL5 := Lib.hid hl5
      have HD5 := Lib.hid hd5
      have HV5 := Lib.hid hv5
      have HR5 := Lib.hid hr5
      have hFb : ¬ F w.heap.size := fun hf => by have := hFlt _ hf; omega
      have hRb : ¬ R w.heap.size := fun hf => by have := (hRlt _ hf).1; omega
      have hblt : w.heap.size < w5.heap.size := by omega
      have l1 := hl5.l1
      clear hHeld k5 k0r kr5 hPar hd5 hl5 hv5 hr5 hcut p1 p2 p3 HSE HLR HOWN HRS HK HBR HE HUL O2 HS K02 HD2
      by_cases h0 : rest.length = 0
      · have hcmp : D.seen.length ≤ lenC ps := by have := HSL.out; omega
        have hE : recE D ps rest = 0 := by unfold recE; rw [if_pos h0]
        have hRD : recD D ps rest = D := by unfold recD; rw [if_pos h0]
        have HE := Lib.hid hE
        have HRD : Hid (syncD D = syncD (recD D ps rest)) := Lib.hid (congrArg syncD hRD).symm
        have s5 : ∃ F5 R5, F5 = F ∧ R5 = R ∧ Step F R w w5 F5 R5 := ⟨F, R, rfl, rfl, Step.of_nob K05.out⟩
        obtain ⟨F5, R5, e5, e5', s5⟩ := s5
        have d5 := HD5.out
        rw [← e5, ← e5'] at d5
        rw [← e5] at hV hFb
        rw [← e5'] at hRb
        have D5 := Lib.hid d5
        have S5 := Lib.hid s5
        clear e5 e5' d5 s5 hE hRD HD5
        have hw5 : D.waits.length ≤ 1000000 := by omega
        go_wp2_with fail
        refine (refSync_calls D5.out hw5).mono ?_
        rintro e w7 ⟨rfl, R7, d7, s7⟩
        have hl7 := HL5.out.kp s7.kp hFb
        have hv7 := HV5.out.kp s7.kp fun k _ hk => (hV k hk).1
        have hr7 := HR5.out.kp s7.kp fun k _ hk => (hV k hk).1
        have s57 := S5.out.trans s7
        have hRb7 : ¬ R7 w.heap.size := fun hf => (s7.r _ hf).elim hRb fun hge => by omega
        have l3 := hl7.l3
        have l4 := hl7.l4
        have f4 := hl7.fz 4 (by decide)
        have HL7 := Lib.hid hl7
        have HV7 := Lib.hid hv7
        have HR7 := Lib.hid hr7
        have S57 := Lib.hid s57
        have D7 := Lib.hid d7
        clear hl7 hv7 hr7 s57 d7 s7 HL5 HV5 HR5 S5 D5 l1
        go_wp2_with fail
        refine bodyPost_ret (results_tmp3 rfl _ _ _) rfl ?_
        have kb : Kp (fun k => k = w.heap.size) w7 (w7.setCell ⟨w.heap.size, 4, none⟩ (.int .u32 (ps.length : Int))) := (Kp.refl (fun k => k = w.heap.size) w7).setCell (p := ⟨w.heap.size, 4, none⟩) (.inr rfl) _
        have d8 : RefIs (w7.setCell ⟨w.heap.size, 4, none⟩ (.int .u32 (ps.length : Int))) F5 R7 (.pointer (some q)) (syncD D) := D7.out.setL hFb hRb7 _ _
        rw [HRD.out] at d8
        exact ⟨ps, rest, F5, R7, HPAR.out, ⟨S57.out.kp.setCell (.inl (Nat.le_refl _)) _, S57.out.f, S57.out.r⟩, .inl ⟨HE.out, w.heap.size, _, us, rfl, Nat.le_refl _, hFb, hRb7, HL7.out.setSure ps.length (Nat.le_refl _), d8, (HV7.out.kp kb fun k _ hk h => (hV k hk).2.1 h).mono fun k _ hk => (hV k hk).2.2.2, (HR7.out.kp kb fun k _ hk h => (hV k hk).2.1 h).mono fun k _ hk => (hV k hk).2.2.2⟩⟩
      · have hcmp : lenC ps < D.seen.length := by have := HSL.out; omega
        have hpos : 0 < rest.length := by omega
        have hE : recE D ps rest = writeE D (lenC ps : Nat) (List.replicate rest.length 0) := by unfold recE; rw [if_neg h0]
        have hRD : recD D ps rest = writeD D (lenC ps : Nat) (List.replicate rest.length 0) := by unfold recD; rw [if_neg h0]
        have HE := Lib.hid hE
        have HRD : Hid (syncD (writeD D (lenC ps : Nat) (List.replicate rest.length 0)) = syncD (recD D ps rest)) := Lib.hid (congrArg syncD hRD).symm
        have kdd : Kp NoB w5 w5.drew := (Kp.refl NoB w5).drew
        have kal : Kp NoB w5.drew (w5.drew.alloc (.cells (madeCells #[.int .u8 0] rest.length) 5)) := (Kp.refl _ _).alloc _
        have hmk : ∀ W', (Instr.makeSlice 22 (.int .i64 (rest.length : Int)) (.int .i64 (rest.length : Int))).run Tryd.prog W' = .ok (.slice (some ⟨W'.heap.size, 0, none⟩) rest.length rest.length) (W'.alloc (.cells (madeCells #[.int .u8 0] rest.length) 5)) := fun W' => make_bytes byteT rest.length (by omega) W'
        have hwr := refWrite_calls ((HD5.out.nob kdd).nob kal) (lenC ps : Nat) (List.replicate rest.length 0) (.slice (some ⟨w5.drew.heap.size, 0, none⟩) rest.length rest.length) ((Own.made 5 w5.drew rest.length (by omega)).bs.mono fun k hk h => ⟨hk, fun hf => by have h1 := hFlt k hf; have h2 : w5.heap.size ≤ k := h.1; omega⟩) ⟨by omega, by omega⟩ (by omega) (by rw [List.length_replicate]; omega)
        have hwl : (writeD D (lenC ps : Nat) (List.replicate rest.length 0)).waits.length ≤ 1000000 := by
          unfold writeD
          split
          · show (D.waits ++ [_]).length ≤ _
            rw [List.length_append]
            simp only [List.length_cons, List.length_nil]
            omega
          · omega
        have hsb : (D.seen.length : Int) - (lenC ps : Int) = (rest.length : Int) := by have := HSL.out; omega
        have HSB := Lib.hid hsb
        have HWR := Lib.hid hwr
        have HWL := Lib.hid hwl
        have KDA := Lib.hid (kdd.trans kal)
        have l1 := (HL5.out.nob kdd).l1
        clear hE hRD h0 hwr hwl kal kdd HD5 hsb
        go_wp2_with fail
        refine wp_region_held_drew (S := (fun w' => Kp (fun k => F k) w5.drew w')) (by kernel_rfl) (Kp.refl _ _) (fun hHeld => ?_)
        refine wpAnyH_take (i := 0) (v := ?_) rfl (by kernel_rfl) (by kernel_rfl) (by kernel_rfl) (fun _ _ _ h => h) (Or.inl ⟨by rfl, ?_⟩) (by assumption) ?_
        rotate_left
        · intro w hSw
          (try dsimp only at hSw)
          go_simp
          all_goals (with_reducible rfl)
        (try simp only [Act.put, List.getElem_toArray, List.getElem_cons_succ, List.getElem_cons_zero, List.setIfInBounds_toArray, List.set_cons_zero, List.set_cons_succ])
        refine wpAnyH_take (i := 1) (v := ?_) rfl (by kernel_rfl) (by kernel_rfl) (by kernel_rfl) (fun _ _ _ h => h) (Or.inl ⟨by rfl, ?_⟩) (by assumption) ?_
        rotate_left
        · intro w hSw
          (try dsimp only at hSw)
          go_simp
          all_goals (with_reducible rfl)
        (try simp only [Act.put, List.getElem_toArray, List.getElem_cons_succ, List.getElem_cons_zero, List.setIfInBounds_toArray, List.set_cons_zero, List.set_cons_succ])
        refine wpAnyH_take (i := 2) (v := ?_) rfl (by kernel_rfl) (by kernel_rfl) (by kernel_rfl) (fun _ _ _ h => h) (Or.inl ⟨by rfl, ?_⟩) (by assumption) ?_
        rotate_left
        · intro w hSw
          (try dsimp only at hSw)
          go_simp
          all_goals (with_reducible rfl)
        (try simp only [Act.put, List.getElem_toArray, List.getElem_cons_succ, List.getElem_cons_zero, List.setIfInBounds_toArray, List.set_cons_zero, List.set_cons_succ])
        refine wpAnyH_take (i := 3) (v := ?_) rfl (by kernel_rfl) (by kernel_rfl) (by kernel_rfl) (fun _ _ _ h => h) (Or.inl ⟨by rfl, ?_⟩) (by assumption) ?_
        rotate_left
        · intro w hSw
          (try dsimp only at hSw)
          go_simp
          all_goals (with_reducible rfl)
        (try simp only [Act.put, List.getElem_toArray, List.getElem_cons_succ, List.getElem_cons_zero, List.setIfInBounds_toArray, List.set_cons_zero, List.set_cons_succ])
        refine wpAnyH_take (i := 4) (v := ?_) rfl (by kernel_rfl) (by kernel_rfl) (by kernel_rfl) (fun _ _ _ h => h) (Or.inl ⟨by rfl, ?_⟩) (by assumption) ?_
        rotate_left
        · intro w hSw
          (try dsimp only at hSw)
          have cc := hSw.cell l1 hFb
          go_simp
          all_goals (with_reducible rfl)
        (try simp only [Act.put, List.getElem_toArray, List.getElem_cons_succ, List.getElem_cons_zero, List.setIfInBounds_toArray, List.set_cons_zero, List.set_cons_succ])
        refine wpAnyH_take (i := 5) (v := ?_) rfl (by kernel_rfl) (by kernel_rfl) (by kernel_rfl) (fun _ _ _ h => h) (Or.inl ⟨by rfl, ?_⟩) (by assumption) ?_
        rotate_left
        · intro w hSw
          (try dsimp only at hSw)
          go_simp
          all_goals (with_reducible rfl)
        (try simp only [Act.put, List.getElem_toArray, List.getElem_cons_succ, List.getElem_cons_zero, List.setIfInBounds_toArray, List.set_cons_zero, List.set_cons_succ])
        refine wpAnyH_take (i := 6) (v := ?_) rfl (by kernel_rfl) (by kernel_rfl) (by kernel_rfl) (fun _ _ _ h => h) (Or.inl ⟨by rfl, ?_⟩) (by assumption) ?_
        rotate_left
        · intro w hSw
          (try dsimp only at hSw)
          go_simp
          all_goals (with_reducible rfl)
        (try simp only [Act.put, List.getElem_toArray, List.getElem_cons_succ, List.getElem_cons_zero, List.setIfInBounds_toArray, List.set_cons_zero, List.set_cons_succ])
        refine wpAnyH_take (i := 7) (v := ?_) rfl (by kernel_rfl) (by kernel_rfl) (by kernel_rfl) (fun _ _ _ h => h) (Or.inl ⟨by rfl, ?_⟩) (by assumption) ?_
        rotate_left
        · intro w hSw
          (try dsimp only at hSw)
          go_simp
          all_goals (with_reducible rfl)
        (try simp only [Act.put, List.getElem_toArray, List.getElem_cons_succ, List.getElem_cons_zero, List.setIfInBounds_toArray, List.set_cons_zero, List.set_cons_succ])
        refine wpAnyH_take (i := 8) (v := ?_) rfl (by kernel_rfl) (by kernel_rfl) (by kernel_rfl) (fun _ _ _ h => h) (Or.inl ⟨by rfl, ?_⟩) (by assumption) ?_
        rotate_left
        · intro w hSw
          (try dsimp only at hSw)
          go_simp
          all_goals (with_reducible rfl)
        (try simp only [Act.put, List.getElem_toArray, List.getElem_cons_succ, List.getElem_cons_zero, List.setIfInBounds_toArray, List.set_cons_zero, List.set_cons_succ])
        refine wpAnyH_take (i := 9) (v := ?_) rfl (by kernel_rfl) (by kernel_rfl) (by kernel_rfl) (fun _ _ _ h => h) (Or.inl ⟨by rfl, ?_⟩) (by assumption) ?_
        rotate_left
        · intro w hSw
          (try dsimp only at hSw)
          go_simp
          all_goals (with_reducible rfl)
        (try simp only [Act.put, List.getElem_toArray, List.getElem_cons_succ, List.getElem_cons_zero, List.setIfInBounds_toArray, List.set_cons_zero, List.set_cons_succ])
        refine wpAnyH_take (i := 10) (v := ?_) rfl (by kernel_rfl) (by kernel_rfl) (by kernel_rfl) (fun _ _ _ h => h) (Or.inl ⟨by rfl, ?_⟩) (by assumption) ?_
        rotate_left
        · intro w hSw
          (try dsimp only at hSw)
          have cc := hSw.cell l1 hFb
          go_simp
          all_goals (with_reducible rfl)
        (try simp only [Act.put, List.getElem_toArray, List.getElem_cons_succ, List.getElem_cons_zero, List.setIfInBounds_toArray, List.set_cons_zero, List.set_cons_succ])
        refine wpAnyH_take (i := 11) (v := .int .i64 (rest.length : Int)) rfl (by kernel_rfl) (by kernel_rfl) (by kernel_rfl) (fun _ _ _ h => h) (Or.inl ⟨by rfl, ?_⟩) (by assumption) ?_
        · intro w hSw
          (try dsimp only at hSw)
          go_simp
          all_goals (first | (with_reducible rfl) | (rw [HSB.out, wrap_in (by omega) (by omega)]))
        (try simp only [Act.put, List.getElem_toArray, List.getElem_cons_succ, List.getElem_cons_zero, List.setIfInBounds_toArray, List.set_cons_zero, List.set_cons_succ])
        refine wpAnyH_ready (rs := [12]) (by kernel_rfl) (by simp) ?_
        refine AllReadyH.cons rfl (fun K hK => ?_) AllReadyH.nil
        (try rw [if_pos (by rfl)])
        go_simp
        refine hK.out _ _ ?_ (fun hHeld => ?_)
        · exact hHeld.alloc _
        clear hK K
        (try simp only [Act.put, List.getElem_toArray, List.getElem_cons_succ, List.getElem_cons_zero, List.setIfInBounds_toArray, List.set_cons_zero, List.set_cons_succ])
        refine wpAnyH_ready (rs := [13]) (by kernel_rfl) (by simp) ?_
        refine AllReadyH.cons rfl (fun K hK => ?_) AllReadyH.nil
        (try rw [if_pos (by rfl)])
        go_simp
        refine HWR.out.mono ?_
        rintro e w6 ⟨rfl, F6, R6, d6, s6⟩
        have k6 := s6.kp
        refine hK.out _ _ ?_ (fun hHeld => ?_)
        · exact hHeld.trans s6.kp
        clear hK K
        (try simp only [Act.put, List.getElem_toArray, List.getElem_cons_succ, List.getElem_cons_zero, List.setIfInBounds_toArray, List.set_cons_zero, List.set_cons_succ])
        refine wpAnyH_take (i := 14) (v := ?_) rfl (by kernel_rfl) (by kernel_rfl) (by kernel_rfl) (fun _ _ _ h => h) (Or.inl ⟨by rfl, ?_⟩) (by assumption) ?_
        rotate_left
        · intro w hSw
          (try dsimp only at hSw)
          go_simp
          all_goals (with_reducible rfl)
        (try simp only [Act.put, List.getElem_toArray, List.getElem_cons_succ, List.getElem_cons_zero, List.setIfInBounds_toArray, List.set_cons_zero, List.set_cons_succ])
        refine wpAnyH_done (by kernel_rfl) ?_ _
        go_simp
        clear hHeld hmk l1 HWR
        have s5 := (Step.of_nob (K05.out.trans KDA.out) : Step F R w _ F R).trans s6
        have hl6 := (HL5.out.nob KDA.out).kp k6 hFb
        have hv6 := (HV5.out.nob KDA.out).kp k6 fun k _ hk => (hV k hk).1
        have hr6 := (HR5.out.nob KDA.out).kp k6 fun k _ hk => (hV k hk).1
        have hzz := KDA.out.size
        have hz6 := k6.size
        have hV6 : ∀ k, V k → ¬ F6 k ∧ k ≠ w.heap.size ∧ k < w6.heap.size ∧ (R k ∨ w.heap.size ≤ k) := fun k hk => ⟨fun hf => (s6.f k hf).elim (hV k hk).1 fun hge => by have := (hV k hk).2.2.1; omega, (hV k hk).2.1, by have := (hV k hk).2.2.1; omega, (hV k hk).2.2.2⟩
        have hFb6 : ¬ F6 w.heap.size := fun hf => (s6.f _ hf).elim hFb fun hge => by omega
        have hRb6 : ¬ R6 w.heap.size := fun hf => (s6.r _ hf).elim hRb fun hge => by omega
        have hblt6 : w.heap.size < w6.heap.size := by omega
        clear hV hFb hRb hblt HL5 HV5 HR5 KDA K05 k6 s6
        by_cases hz : writeE D (lenC ps : Nat) (List.replicate rest.length 0) = 0
        · have HE := Lib.hid (HE.out.trans hz)
          rw [hz]
          have D5 : ∃ D5, D5 = writeD D (lenC ps : Nat) (List.replicate rest.length 0) := ⟨_, rfl⟩
          obtain ⟨D5, hD5⟩ := D5
          rw [← hD5] at d6
          have hw5 : D5.waits.length ≤ 1000000 := by rw [hD5]; exact HWL.out
          have HRD : Hid (syncD D5 = syncD (recD D ps rest)) := by rw [hD5]; exact HRD
          have D5' := Lib.hid d6
          have S5 := Lib.hid s5
          have HL5 := Lib.hid hl6
          have HV5 := Lib.hid hv6
          have HR5 := Lib.hid hr6
          clear hz hD5 HWL d6 s5 hl6 hv6 hr6
          go_wp2_with fail
          refine (refSync_calls D5'.out hw5).mono ?_
          rintro e w7 ⟨rfl, R7, d7, s7⟩
          have hl7 := HL5.out.kp s7.kp hFb6
          have hv7 := HV5.out.kp s7.kp fun k _ hk => (hV6 k hk).1
          have hr7 := HR5.out.kp s7.kp fun k _ hk => (hV6 k hk).1
          have s57 := S5.out.trans s7
          have hRb7 : ¬ R7 w.heap.size := fun hf => (s7.r _ hf).elim hRb6 fun hge => by omega
          have l3 := hl7.l3
          have l4 := hl7.l4
          have f4 := hl7.fz 4 (by decide)
          have HL7 := Lib.hid hl7
          have HV7 := Lib.hid hv7
          have HR7 := Lib.hid hr7
          have S57 := Lib.hid s57
          have D7 := Lib.hid d7
          clear hl7 hv7 hr7 s57 d7 s7 HL5 HV5 HR5 S5 D5'
          go_wp2_with fail
          refine bodyPost_ret (results_tmp3 rfl _ _ _) rfl ?_
          have kb : Kp (fun k => k = w.heap.size) w7 (w7.setCell ⟨w.heap.size, 4, none⟩ (.int .u32 (ps.length : Int))) := (Kp.refl (fun k => k = w.heap.size) w7).setCell (p := ⟨w.heap.size, 4, none⟩) (.inr rfl) _
          have d8 : RefIs (w7.setCell ⟨w.heap.size, 4, none⟩ (.int .u32 (ps.length : Int))) F6 R7 (.pointer (some q)) (syncD D5) := D7.out.setL hFb6 hRb7 _ _
          rw [HRD.out] at d8
          exact ⟨ps, rest, F6, R7, HPAR.out, ⟨S57.out.kp.setCell (.inl (Nat.le_refl _)) _, S57.out.f, S57.out.r⟩, .inl ⟨HE.out, w.heap.size, _, us, rfl, Nat.le_refl _, hFb6, hRb7, HL7.out.setSure ps.length (Nat.le_refl _), d8, (HV7.out.kp kb fun k _ hk h => (hV6 k hk).2.1 h).mono fun k _ hk => (hV6 k hk).2.2.2, (HR7.out.kp kb fun k _ hk h => (hV6 k hk).2.1 h).mono fun k _ hk => (hV6 k hk).2.2.2⟩⟩
        · have hDD : writeD D (lenC ps : Nat) (List.replicate rest.length 0) = D := by unfold writeD; rw [if_neg hz]
          rw [hDD] at d6
          obtain ⟨M, hM, hM0⟩ : ∃ M, M = writeE D (lenC ps : Nat) (List.replicate rest.length 0) ∧ M ≠ 0 := ⟨_, rfl, hz⟩
          have HE : Hid (recE D ps rest = M) := Lib.hid (HE.out.trans hM.symm)
          rw [← hM]
          have hne2 : ((M : Int) == 0) = false := by simp; exact hM0
          have S5 := Lib.hid s5
          have D5 := Lib.hid d6
          clear hM hz hDD s5 d6 hl6 hv6 hr6 HWL
          go_wp2_with fail
          refine bodyPost_ret (results_tmp3 rfl _ _ _) rfl ?_
          exact ⟨ps, rest, F6, R6, HPAR.out, S5.out, .inr ⟨by rw [HE.out]; exact hM0, by rw [HE.out]; rfl, D5.out⟩⟩
end Go.Proofs.YtgjaggnpheoehaaDoor
