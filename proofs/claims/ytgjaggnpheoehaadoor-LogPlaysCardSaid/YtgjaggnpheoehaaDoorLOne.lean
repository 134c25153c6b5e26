/- both.one: a call, done with both. -/
import Derived.Test.YtgjaggnpheoehaaDoorLOneA
set_option linter.unusedVariables false
set_option linter.unusedSimpArgs false
namespace Go.Proofs.YtgjaggnpheoehaaDoor
open Go.RowKit

structure OneArg (w0 w : World) (bx : Nat) (p r : Addr) (F T : Nat → Prop) (D : DD) (X : Option (List (List UInt8) × Nat)) (pl pm : Value) (many : Int) (b : List UInt8) (keep : List Int) (B1 B2 : Option Addr) (d1 d2 : Nat) : Prop where
  both : BothAt w0 w bx p r F T D D X X pl pm
  hb : BS (fun k => k < w0.heap.size) w (.slice B1 b.length d1) b
  hk : Vals (fun k => k < w0.heap.size) w (.slice B2 keep.length d2) (keep.map (.int .i64))
  hm : -9223372036854775808 ≤ many ∧ many ≤ 9223372036854775807
  hki : ∀ k ∈ keep, -9223372036854775808 ≤ k ∧ k ≤ 9223372036854775807
  hbl : b.length ≤ 60
  hw : D.waits.length ≤ 50000
theorem OneArg.nob {w0 w w' : World} {bx : Nat} {p r : Addr} {F T : Nat → Prop} {D : DD} {X : Option (List (List UInt8) × Nat)} {pl pm : Value} {many : Int} {b : List UInt8} {keep : List Int} {B1 B2 : Option Addr} {d1 d2 : Nat} (h : OneArg w0 w bx p r F T D X pl pm many b keep B1 B2 d1 d2) (k : Kp NoB w w') : OneArg w0 w' bx p r F T D X pl pm many b keep B1 B2 d1 d2 :=
  ⟨h.both.nob k, h.hb.nob k, h.hk.nob k, h.hm, h.hki, h.hbl, h.hw⟩
def OnePost (w0 : World) (bx : Nat) (p r : Addr) (F : Nat → Prop) (w : World) (D : DD) (pl pm : Value) (e : Ending) (w' : World) : Prop :=
  e = .returned (.bool true) ∧ ∃ F' T' D' X' pl' pm', BothAt w0 w' bx p r F' T' D' D' X' X' pl' pm' ∧ XStep bx F pl pm w w' F' pl' pm' ∧ D'.cap = D.cap ∧ D'.waits.length ≤ D.waits.length + 1
/-- The cells of the act in its block. -/
theorem actc_cells (w : World) (wh many : Int) (u1 u2 : Value) (t : TypeId) :
    (w.alloc (.cells #[.int .i64 wh, .int .i64 many, u1, u2] t)).cell? ⟨w.heap.size, 1, none⟩ = some (.int .i64 many) ∧ (w.alloc (.cells #[.int .i64 wh, .int .i64 many, u1, u2] t)).cell? ⟨w.heap.size, 2, none⟩ = some u1 ∧ (w.alloc (.cells #[.int .i64 wh, .int .i64 many, u1, u2] t)).cell? ⟨w.heap.size, 3, none⟩ = some u2 ∧
    (w.alloc (.cells #[.int .i64 wh, .int .i64 many, u1, u2] t)).heap.size = w.heap.size + 1 := by
  have hh := heap_alloc_new w (.cells #[.int .i64 wh, .int .i64 many, u1, u2] t)
  refine ⟨?_, ?_, ?_, by simp⟩ <;> simp only [World.cell?, hh] <;> rfl

section
variable {w0 w : World} {bx : Nat} {p r : Addr} {F T : Nat → Prop} {D : DD} {pl pm : Value} {X : Option (List (List UInt8) × Nat)} {many : Int} {b : List UInt8} {keep : List Int} {B1 B2 : Option Addr} {d1 d2 : Nat}
set_option maxRecDepth 100000 in
set_option maxHeartbeats 8000000 in
theorem one_append_none {wh : Int} (hwh : wh = 0 ∨ wh = 1 ∨ wh = 2 ∨ wh = 3 ∨ wh = 4) (h : OneArg w0 w bx p r F T D none pl pm many b keep B1 B2 d1 d2) :
    Calls Tryd.prog 38 #[.pointer (some ⟨bx, 0, none⟩), .agg #[.int .i64 wh, .int .i64 many, .slice B1 b.length d1, .slice B2 keep.length d2]] w (OnePost w0 bx p r F w D pl pm) := by
  have e1 : pl = .pointer none := h.both.lx
  have e2 : pm = .pointer none := h.both.ly
  subst e1 e2
  have hba : ¬ gset F bx (.pointer none) (.pointer none) w.heap.size := fun hg => absurd (h.both.lt _ hg) (Nat.lt_irrefl _)
  have kal : Kp NoB w (w.alloc (.cells #[.int .i64 wh, .int .i64 many, .slice B1 b.length d1, .slice B2 keep.length d2] 71)) := (Kp.refl _ _).alloc _
  obtain ⟨x1, x2, x3, hz⟩ := actc_cells w wh many (.slice B1 b.length d1) (.slice B2 keep.length d2) 71
  have hA := h.nob kal
  have c0 := hA.both.c0
  have c1 := hA.both.c1
  have c2 := hA.both.c2
  have c3 := hA.both.c3
  have HA := Lib.hid hA
  have KAL := Lib.hid kal
  have HZ := Lib.hid hz
  have HBA := Lib.hid hba
  clear h hA kal hz hba
  rcases hwh with rfl | rfl | rfl | rfl | rfl
  all_goals (
    go_enter Tryd.func38, Tryd.ntmps38
    go_wp2_with fail
    generalize (w.alloc (.cells #[.int .i64 _, .int .i64 many, .slice B1 b.length d1, .slice B2 keep.length d2] 71)) = wa at *
    clear c0 c2 c3 x1 x3
    replace c1 : wa.drew.cell? ⟨bx, 1, none⟩ = some (.pointer none) := c1
    replace x2 : wa.drew.cell? ⟨w.heap.size, 2, none⟩ = some (.slice B1 b.length d1) := x2
    have hap := lappendN_calls (w := wa.drew) (p := .pointer none) (.inl rfl) (.slice B1 b.length d1)
    have HAP := Lib.hid hap
    clear hap
    refine wp_region_held_drew (S := (fun w' => w' = wa.drew)) (by kernel_rfl) rfl (fun hHeld => ?_)
    refine wpAnyH_take (i := 0) (v := ?_) rfl (by kernel_rfl) (by kernel_rfl) (by kernel_rfl) (fun _ _ _ h => h) (Or.inl ⟨by rfl, ?_⟩) (by assumption) ?_
    rotate_left
    · intro w hSw
      (try dsimp only at hSw)
      go_simp
      all_goals (with_reducible rfl)
    (try simp only [Act.put, List.getElem_toArray, List.getElem_cons_succ, List.getElem_cons_zero, List.setIfInBounds_toArray, List.set_cons_zero, List.set_cons_succ])
    refine wpAnyH_take (i := 1) (v := ?_) rfl (by kernel_rfl) (by kernel_rfl) (by kernel_rfl) (fun _ _ _ h => h) (Or.inl ⟨by rfl, ?_⟩) (by assumption) ?_
    rotate_left
    · intro w hSw
      (try dsimp only at hSw)
      go_simp
      all_goals (with_reducible rfl)
    (try simp only [Act.put, List.getElem_toArray, List.getElem_cons_succ, List.getElem_cons_zero, List.setIfInBounds_toArray, List.set_cons_zero, List.set_cons_succ])
    refine wpAnyH_take (i := 2) (v := ?_) rfl (by kernel_rfl) (by kernel_rfl) (by kernel_rfl) (fun _ _ _ h => h) (Or.inl ⟨by rfl, ?_⟩) (by assumption) ?_
    rotate_left
    · intro w hSw
      (try dsimp only at hSw)
      go_simp
      all_goals (with_reducible rfl)
    (try simp only [Act.put, List.getElem_toArray, List.getElem_cons_succ, List.getElem_cons_zero, List.setIfInBounds_toArray, List.set_cons_zero, List.set_cons_succ])
    refine wpAnyH_take (i := 3) (v := ?_) rfl (by kernel_rfl) (by kernel_rfl) (by kernel_rfl) (fun _ _ _ h => h) (Or.inl ⟨by rfl, ?_⟩) (by assumption) ?_
    rotate_left
    · intro w hSw
      (try dsimp only at hSw)
      subst hSw
      go_simp
      all_goals (with_reducible rfl)
    (try simp only [Act.put, List.getElem_toArray, List.getElem_cons_succ, List.getElem_cons_zero, List.setIfInBounds_toArray, List.set_cons_zero, List.set_cons_succ])
    refine wpAnyH_take (i := 4) (v := ?_) rfl (by kernel_rfl) (by kernel_rfl) (by kernel_rfl) (fun _ _ _ h => h) (Or.inl ⟨by rfl, ?_⟩) (by assumption) ?_
    rotate_left
    · intro w hSw
      (try dsimp only at hSw)
      go_simp
      all_goals (with_reducible rfl)
    (try simp only [Act.put, List.getElem_toArray, List.getElem_cons_succ, List.getElem_cons_zero, List.setIfInBounds_toArray, List.set_cons_zero, List.set_cons_succ])
    refine wpAnyH_take (i := 5) (v := ?_) rfl (by kernel_rfl) (by kernel_rfl) (by kernel_rfl) (fun _ _ _ h => h) (Or.inl ⟨by rfl, ?_⟩) (by assumption) ?_
    rotate_left
    · intro w hSw
      (try dsimp only at hSw)
      subst hSw
      go_simp
      all_goals (with_reducible rfl)
    (try simp only [Act.put, List.getElem_toArray, List.getElem_cons_succ, List.getElem_cons_zero, List.setIfInBounds_toArray, List.set_cons_zero, List.set_cons_succ])
    refine wpAnyH_ready (rs := [6]) (by kernel_rfl) (by simp) ?_
    refine AllReadyH.cons rfl (fun K hK => ?_) AllReadyH.nil
    (try rw [if_pos (by rfl)])
    go_simp
    refine HAP.out.mono ?_
    rintro e w1 ⟨rfl, rfl⟩
    refine hK.out _ _ ?_ (fun hHeld => ?_)
    · rfl
    clear hK K
    (try simp only [Act.put, List.getElem_toArray, List.getElem_cons_succ, List.getElem_cons_zero, List.setIfInBounds_toArray, List.set_cons_zero, List.set_cons_succ])
    refine wpAnyH_take (i := 7) (v := ?_) rfl (by kernel_rfl) (by kernel_rfl) (by kernel_rfl) (fun _ _ _ h => h) (Or.inl ⟨by rfl, ?_⟩) (by assumption) ?_
    rotate_left
    · intro w hSw
      (try dsimp only at hSw)
      go_simp
      all_goals (with_reducible rfl)
    (try simp only [Act.put, List.getElem_toArray, List.getElem_cons_succ, List.getElem_cons_zero, List.setIfInBounds_toArray, List.set_cons_zero, List.set_cons_succ])
    refine wpAnyH_take (i := 8) (v := ?_) rfl (by kernel_rfl) (by kernel_rfl) (by kernel_rfl) (fun _ _ _ h => h) (Or.inl ⟨by rfl, ?_⟩) (by assumption) ?_
    rotate_left
    · intro w hSw
      (try dsimp only at hSw)
      go_simp
      all_goals (with_reducible rfl)
    (try simp only [Act.put, List.getElem_toArray, List.getElem_cons_succ, List.getElem_cons_zero, List.setIfInBounds_toArray, List.set_cons_zero, List.set_cons_succ])
    refine wpAnyH_take (i := 9) (v := ?_) rfl (by kernel_rfl) (by kernel_rfl) (by kernel_rfl) (fun _ _ _ h => h) (Or.inl ⟨by rfl, ?_⟩) (by assumption) ?_
    rotate_left
    · intro w hSw
      (try dsimp only at hSw)
      go_simp
      all_goals (with_reducible rfl)
    (try simp only [Act.put, List.getElem_toArray, List.getElem_cons_succ, List.getElem_cons_zero, List.setIfInBounds_toArray, List.set_cons_zero, List.set_cons_succ])
    refine wpAnyH_take (i := 10) (v := ?_) rfl (by kernel_rfl) (by kernel_rfl) (by kernel_rfl) (fun _ _ _ h => h) (Or.inl ⟨by rfl, ?_⟩) (by assumption) ?_
    rotate_left
    · intro w hSw
      (try dsimp only at hSw)
      go_simp
      all_goals (with_reducible rfl)
    (try simp only [Act.put, List.getElem_toArray, List.getElem_cons_succ, List.getElem_cons_zero, List.setIfInBounds_toArray, List.set_cons_zero, List.set_cons_succ])
    refine wpAnyH_take (i := 11) (v := ?_) rfl (by kernel_rfl) (by kernel_rfl) (by kernel_rfl) (fun _ _ _ h => h) (Or.inl ⟨by rfl, ?_⟩) (by assumption) ?_
    rotate_left
    · intro w hSw
      (try dsimp only at hSw)
      go_simp
      all_goals (with_reducible rfl)
    (try simp only [Act.put, List.getElem_toArray, List.getElem_cons_succ, List.getElem_cons_zero, List.setIfInBounds_toArray, List.set_cons_zero, List.set_cons_succ])
    refine wpAnyH_done (by kernel_rfl) ?_ _
    go_simp
    go_wp2_with fail
    go_ret
    exact ⟨rfl, F, T, D, none, _, _, (HA.out.nob (Kp.refl NoB wa).drew).both, XStep.of_nob KAL.out.drew, rfl, Nat.le_succ _⟩)
set_option maxRecDepth 100000 in
set_option maxHeartbeats 8000000 in
theorem one_append_some {wh : Int} {x : List (List UInt8) × Nat} (hwh : wh = 0 ∨ wh = 1 ∨ wh = 2 ∨ wh = 3 ∨ wh = 4) (h : OneArg w0 w bx p r F T D (some x) pl pm many b keep B1 B2 d1 d2) :
    Calls Tryd.prog 38 #[.pointer (some ⟨bx, 0, none⟩), .agg #[.int .i64 wh, .int .i64 many, .slice B1 b.length d1, .slice B2 keep.length d2]] w (OnePost w0 bx p r F w D pl pm) := by
  obtain ⟨bl, e1, _⟩ := h.both.lx
  obtain ⟨bm, e2, _⟩ := h.both.ly
  subst e1 e2
  have hba : ¬ gset F bx (.pointer (some ⟨bl, 0, none⟩)) (.pointer (some ⟨bm, 0, none⟩)) w.heap.size := fun hg => absurd (h.both.lt _ hg) (Nat.lt_irrefl _)
  have kal : Kp NoB w (w.alloc (.cells #[.int .i64 wh, .int .i64 many, .slice B1 b.length d1, .slice B2 keep.length d2] 71)) := (Kp.refl _ _).alloc _
  obtain ⟨x1, x2, x3, hz⟩ := actc_cells w wh many (.slice B1 b.length d1) (.slice B2 keep.length d2) 71
  have hA := h.nob kal
  have c0 := hA.both.c0
  have c1 := hA.both.c1
  have c2 := hA.both.c2
  have c3 := hA.both.c3
  have HA := Lib.hid hA
  have KAL := Lib.hid kal
  have HZ := Lib.hid hz
  have HBA := Lib.hid hba
  clear h hA kal hz hba
  rcases hwh with rfl | rfl | rfl | rfl | rfl
  all_goals (
    go_enter Tryd.func38, Tryd.ntmps38
    go_wp2_with fail
    generalize (w.alloc (.cells #[.int .i64 _, .int .i64 many, .slice B1 b.length d1, .slice B2 keep.length d2] 71)) = wa at *
    have kdr : Kp NoB wa wa.drew := (Kp.refl NoB wa).drew
    have hA2 := HA.out.nob kdr
    replace c1 := hA2.both.c1
    replace x2 := kdr.cell x2 id
    have hap := hA2.both.append1 b _ hA2.hb (by have := hA2.hw; omega)
    have HAP := Lib.hid hap
    have HB2 := Lib.hid hA2.hb
    have HW := Lib.hid hA2.hw
    have H60 := Lib.hid hA2.hbl
    have HBD := Lib.hid hA2.both
    have KDR := Lib.hid kdr
    clear hap hA2 kdr c0 c2 c3 x1 x3
    refine wp_region_held_drew (S := (fun w' => w'.cell? ⟨bx, 1, none⟩ = some (.pointer (some ⟨bl, 0, none⟩)) ∧ w'.cell? ⟨w.heap.size, 2, none⟩ = some (.slice B1 b.length d1))) (by kernel_rfl) ⟨c1, x2⟩ (fun hHeld => ?_)
    refine wpAnyH_take (i := 0) (v := ?_) rfl (by kernel_rfl) (by kernel_rfl) (by kernel_rfl) (fun _ _ _ h => h) (Or.inl ⟨by rfl, ?_⟩) (by assumption) ?_
    rotate_left
    · intro w hSw
      (try dsimp only at hSw)
      go_simp
      all_goals (with_reducible rfl)
    (try simp only [Act.put, List.getElem_toArray, List.getElem_cons_succ, List.getElem_cons_zero, List.setIfInBounds_toArray, List.set_cons_zero, List.set_cons_succ])
    refine wpAnyH_take (i := 1) (v := ?_) rfl (by kernel_rfl) (by kernel_rfl) (by kernel_rfl) (fun _ _ _ h => h) (Or.inl ⟨by rfl, ?_⟩) (by assumption) ?_
    rotate_left
    · intro w hSw
      (try dsimp only at hSw)
      go_simp
      all_goals (with_reducible rfl)
    (try simp only [Act.put, List.getElem_toArray, List.getElem_cons_succ, List.getElem_cons_zero, List.setIfInBounds_toArray, List.set_cons_zero, List.set_cons_succ])
    refine wpAnyH_take (i := 2) (v := ?_) rfl (by kernel_rfl) (by kernel_rfl) (by kernel_rfl) (fun _ _ _ h => h) (Or.inl ⟨by rfl, ?_⟩) (by assumption) ?_
    rotate_left
    · intro w hSw
      (try dsimp only at hSw)
      go_simp
      all_goals (with_reducible rfl)
    (try simp only [Act.put, List.getElem_toArray, List.getElem_cons_succ, List.getElem_cons_zero, List.setIfInBounds_toArray, List.set_cons_zero, List.set_cons_succ])
    refine wpAnyH_take (i := 3) (v := ?_) rfl (by kernel_rfl) (by kernel_rfl) (by kernel_rfl) (fun _ _ _ h => h) (Or.inl ⟨by rfl, ?_⟩) (by assumption) ?_
    rotate_left
    · intro w hSw
      (try dsimp only at hSw)
      have cc := hSw.1
      go_simp
      all_goals (with_reducible rfl)
    (try simp only [Act.put, List.getElem_toArray, List.getElem_cons_succ, List.getElem_cons_zero, List.setIfInBounds_toArray, List.set_cons_zero, List.set_cons_succ])
    refine wpAnyH_take (i := 4) (v := ?_) rfl (by kernel_rfl) (by kernel_rfl) (by kernel_rfl) (fun _ _ _ h => h) (Or.inl ⟨by rfl, ?_⟩) (by assumption) ?_
    rotate_left
    · intro w hSw
      (try dsimp only at hSw)
      go_simp
      all_goals (with_reducible rfl)
    (try simp only [Act.put, List.getElem_toArray, List.getElem_cons_succ, List.getElem_cons_zero, List.setIfInBounds_toArray, List.set_cons_zero, List.set_cons_succ])
    refine wpAnyH_take (i := 5) (v := ?_) rfl (by kernel_rfl) (by kernel_rfl) (by kernel_rfl) (fun _ _ _ h => h) (Or.inl ⟨by rfl, ?_⟩) (by assumption) ?_
    rotate_left
    · intro w hSw
      (try dsimp only at hSw)
      have cc := hSw.2
      go_simp
      all_goals (with_reducible rfl)
    (try simp only [Act.put, List.getElem_toArray, List.getElem_cons_succ, List.getElem_cons_zero, List.setIfInBounds_toArray, List.set_cons_zero, List.set_cons_succ])
    refine wpAnyH_ready (rs := [6]) (by kernel_rfl) (by simp) ?_
    refine AllReadyH.cons rfl (fun K hK => ?_) AllReadyH.nil
    (try rw [if_pos (by rfl)])
    go_simp
    refine HAP.out.mono ?_
    rintro e w1 ⟨rfl, F1, T1, b1, z1⟩
    refine hK.out _ _ ?_ (fun hHeld => ?_)
    · exact ⟨b1.c1, z1.kp.cell hHeld.2 HBA.out⟩
    clear hK K
    (try simp only [Act.put, List.getElem_toArray, List.getElem_cons_succ, List.getElem_cons_zero, List.setIfInBounds_toArray, List.set_cons_zero, List.set_cons_succ])
    refine wpAnyH_take (i := 7) (v := ?_) rfl (by kernel_rfl) (by kernel_rfl) (by kernel_rfl) (fun _ _ _ h => h) (Or.inl ⟨by rfl, ?_⟩) (by assumption) ?_
    rotate_left
    · intro w hSw
      (try dsimp only at hSw)
      go_simp
      all_goals (with_reducible rfl)
    (try simp only [Act.put, List.getElem_toArray, List.getElem_cons_succ, List.getElem_cons_zero, List.setIfInBounds_toArray, List.set_cons_zero, List.set_cons_succ])
    refine wpAnyH_take (i := 8) (v := ?_) rfl (by kernel_rfl) (by kernel_rfl) (by kernel_rfl) (fun _ _ _ h => h) (Or.inl ⟨by rfl, ?_⟩) (by assumption) ?_
    rotate_left
    · intro w hSw
      (try dsimp only at hSw)
      go_simp
      all_goals (with_reducible rfl)
    (try simp only [Act.put, List.getElem_toArray, List.getElem_cons_succ, List.getElem_cons_zero, List.setIfInBounds_toArray, List.set_cons_zero, List.set_cons_succ])
    refine wpAnyH_take (i := 9) (v := ?_) rfl (by kernel_rfl) (by kernel_rfl) (by kernel_rfl) (fun _ _ _ h => h) (Or.inl ⟨by rfl, ?_⟩) (by assumption) ?_
    rotate_left
    · intro w hSw
      (try dsimp only at hSw)
      go_simp
      all_goals (with_reducible rfl)
    (try simp only [Act.put, List.getElem_toArray, List.getElem_cons_succ, List.getElem_cons_zero, List.setIfInBounds_toArray, List.set_cons_zero, List.set_cons_succ])
    refine wpAnyH_take (i := 10) (v := ?_) rfl (by kernel_rfl) (by kernel_rfl) (by kernel_rfl) (fun _ _ _ h => h) (Or.inl ⟨by rfl, ?_⟩) (by assumption) ?_
    rotate_left
    · intro w hSw
      (try dsimp only at hSw)
      go_simp
      all_goals (with_reducible rfl)
    (try simp only [Act.put, List.getElem_toArray, List.getElem_cons_succ, List.getElem_cons_zero, List.setIfInBounds_toArray, List.set_cons_zero, List.set_cons_succ])
    refine wpAnyH_take (i := 11) (v := ?_) rfl (by kernel_rfl) (by kernel_rfl) (by kernel_rfl) (fun _ _ _ h => h) (Or.inl ⟨by rfl, ?_⟩) (by assumption) ?_
    rotate_left
    · intro w hSw
      (try dsimp only at hSw)
      go_simp
      all_goals (with_reducible rfl)
    (try simp only [Act.put, List.getElem_toArray, List.getElem_cons_succ, List.getElem_cons_zero, List.setIfInBounds_toArray, List.set_cons_zero, List.set_cons_succ])
    refine wpAnyH_done (by kernel_rfl) ?_ _
    go_simp
    have y2 := hHeld.2
    have hba1 : ¬ gset F1 bx (.pointer (some ⟨bl, 0, none⟩)) (.pointer (some ⟨bm, 0, none⟩)) w.heap.size := fun hg => (z1.g _ hg).elim HBA.out fun hge => by have := HZ.out; have := KDR.out.size; omega
    have kdr : Kp NoB w1 w1.drew := (Kp.refl NoB w1).drew
    have b1d := b1.nob kdr
    have bsd := (HBD.out.oldB z1 HB2.out).nob kdr
    have c3 := b1d.c3
    have c3' := b1.c3
    have hap := b1d.append2 b _ bsd (by have := H60.out; omega) (by have := HW.out; omega)
    have HAP2 := Lib.hid hap
    have Z1 := Lib.hid z1
    have HBA1 := Lib.hid hba1
    replace y2 := kdr.cell y2 id
    have KDR1 := Lib.hid kdr
    clear hap b1d bsd hba1 z1 b1 c1 x2 HAP hHeld HB2 HBD kdr
    go_wp2_with fail
    refine wp_region_held_drew (S := (fun w' => w'.cell? ⟨bx, 3, none⟩ = some (.pointer (some ⟨bm, 0, none⟩)) ∧ w'.cell? ⟨w.heap.size, 2, none⟩ = some (.slice B1 b.length d1))) (by kernel_rfl) ⟨c3, y2⟩ (fun hHeld => ?_)
    refine wpAnyH_take (i := 0) (v := ?_) rfl (by kernel_rfl) (by kernel_rfl) (by kernel_rfl) (fun _ _ _ h => h) (Or.inl ⟨by rfl, ?_⟩) (by assumption) ?_
    rotate_left
    · intro w hSw
      (try dsimp only at hSw)
      go_simp
      all_goals (with_reducible rfl)
    (try simp only [Act.put, List.getElem_toArray, List.getElem_cons_succ, List.getElem_cons_zero, List.setIfInBounds_toArray, List.set_cons_zero, List.set_cons_succ])
    refine wpAnyH_take (i := 1) (v := ?_) rfl (by kernel_rfl) (by kernel_rfl) (by kernel_rfl) (fun _ _ _ h => h) (Or.inl ⟨by rfl, ?_⟩) (by assumption) ?_
    rotate_left
    · intro w hSw
      (try dsimp only at hSw)
      go_simp
      all_goals (with_reducible rfl)
    (try simp only [Act.put, List.getElem_toArray, List.getElem_cons_succ, List.getElem_cons_zero, List.setIfInBounds_toArray, List.set_cons_zero, List.set_cons_succ])
    refine wpAnyH_take (i := 2) (v := ?_) rfl (by kernel_rfl) (by kernel_rfl) (by kernel_rfl) (fun _ _ _ h => h) (Or.inl ⟨by rfl, ?_⟩) (by assumption) ?_
    rotate_left
    · intro w hSw
      (try dsimp only at hSw)
      go_simp
      all_goals (with_reducible rfl)
    (try simp only [Act.put, List.getElem_toArray, List.getElem_cons_succ, List.getElem_cons_zero, List.setIfInBounds_toArray, List.set_cons_zero, List.set_cons_succ])
    refine wpAnyH_take (i := 3) (v := ?_) rfl (by kernel_rfl) (by kernel_rfl) (by kernel_rfl) (fun _ _ _ h => h) (Or.inl ⟨by rfl, ?_⟩) (by assumption) ?_
    rotate_left
    · intro w hSw
      (try dsimp only at hSw)
      have cc := hSw.1
      go_simp
      all_goals (with_reducible rfl)
    (try simp only [Act.put, List.getElem_toArray, List.getElem_cons_succ, List.getElem_cons_zero, List.setIfInBounds_toArray, List.set_cons_zero, List.set_cons_succ])
    refine wpAnyH_take (i := 4) (v := ?_) rfl (by kernel_rfl) (by kernel_rfl) (by kernel_rfl) (fun _ _ _ h => h) (Or.inl ⟨by rfl, ?_⟩) (by assumption) ?_
    rotate_left
    · intro w hSw
      (try dsimp only at hSw)
      go_simp
      all_goals (with_reducible rfl)
    (try simp only [Act.put, List.getElem_toArray, List.getElem_cons_succ, List.getElem_cons_zero, List.setIfInBounds_toArray, List.set_cons_zero, List.set_cons_succ])
    refine wpAnyH_take (i := 5) (v := ?_) rfl (by kernel_rfl) (by kernel_rfl) (by kernel_rfl) (fun _ _ _ h => h) (Or.inl ⟨by rfl, ?_⟩) (by assumption) ?_
    rotate_left
    · intro w hSw
      (try dsimp only at hSw)
      have cc := hSw.2
      go_simp
      all_goals (with_reducible rfl)
    (try simp only [Act.put, List.getElem_toArray, List.getElem_cons_succ, List.getElem_cons_zero, List.setIfInBounds_toArray, List.set_cons_zero, List.set_cons_succ])
    refine wpAnyH_ready (rs := [6]) (by kernel_rfl) (by simp) ?_
    refine AllReadyH.cons rfl (fun K hK => ?_) AllReadyH.nil
    (try rw [if_pos (by rfl)])
    go_simp
    refine HAP2.out.mono ?_
    rintro e w2 ⟨rfl, F2, T2, b2, z2⟩
    refine hK.out _ _ ?_ (fun hHeld => ?_)
    · exact ⟨b2.c3, z2.kp.cell hHeld.2 HBA1.out⟩
    clear hK K
    (try simp only [Act.put, List.getElem_toArray, List.getElem_cons_succ, List.getElem_cons_zero, List.setIfInBounds_toArray, List.set_cons_zero, List.set_cons_succ])
    refine wpAnyH_take (i := 7) (v := ?_) rfl (by kernel_rfl) (by kernel_rfl) (by kernel_rfl) (fun _ _ _ h => h) (Or.inl ⟨by rfl, ?_⟩) (by assumption) ?_
    rotate_left
    · intro w hSw
      (try dsimp only at hSw)
      go_simp
      all_goals (with_reducible rfl)
    (try simp only [Act.put, List.getElem_toArray, List.getElem_cons_succ, List.getElem_cons_zero, List.setIfInBounds_toArray, List.set_cons_zero, List.set_cons_succ])
    refine wpAnyH_take (i := 8) (v := ?_) rfl (by kernel_rfl) (by kernel_rfl) (by kernel_rfl) (fun _ _ _ h => h) (Or.inl ⟨by rfl, ?_⟩) (by assumption) ?_
    rotate_left
    · intro w hSw
      (try dsimp only at hSw)
      go_simp
      all_goals (with_reducible rfl)
    (try simp only [Act.put, List.getElem_toArray, List.getElem_cons_succ, List.getElem_cons_zero, List.setIfInBounds_toArray, List.set_cons_zero, List.set_cons_succ])
    refine wpAnyH_take (i := 9) (v := ?_) rfl (by kernel_rfl) (by kernel_rfl) (by kernel_rfl) (fun _ _ _ h => h) (Or.inl ⟨by rfl, ?_⟩) (by assumption) ?_
    rotate_left
    · intro w hSw
      (try dsimp only at hSw)
      go_simp
      all_goals (with_reducible rfl)
    (try simp only [Act.put, List.getElem_toArray, List.getElem_cons_succ, List.getElem_cons_zero, List.setIfInBounds_toArray, List.set_cons_zero, List.set_cons_succ])
    refine wpAnyH_take (i := 10) (v := ?_) rfl (by kernel_rfl) (by kernel_rfl) (by kernel_rfl) (fun _ _ _ h => h) (Or.inl ⟨by rfl, ?_⟩) (by assumption) ?_
    rotate_left
    · intro w hSw
      (try dsimp only at hSw)
      go_simp
      all_goals (with_reducible rfl)
    (try simp only [Act.put, List.getElem_toArray, List.getElem_cons_succ, List.getElem_cons_zero, List.setIfInBounds_toArray, List.set_cons_zero, List.set_cons_succ])
    refine wpAnyH_take (i := 11) (v := ?_) rfl (by kernel_rfl) (by kernel_rfl) (by kernel_rfl) (fun _ _ _ h => h) (Or.inl ⟨by rfl, ?_⟩) (by assumption) ?_
    rotate_left
    · intro w hSw
      (try dsimp only at hSw)
      go_simp
      all_goals (with_reducible rfl)
    (try simp only [Act.put, List.getElem_toArray, List.getElem_cons_succ, List.getElem_cons_zero, List.setIfInBounds_toArray, List.set_cons_zero, List.set_cons_succ])
    refine wpAnyH_done (by kernel_rfl) ?_ _
    go_simp
    have Z := Lib.hid ((((XStep.of_nob KAL.out).trans (XStep.of_nob KDR.out)).trans Z1.out).trans ((XStep.of_nob KDR1.out).trans z2))
    have B2' := Lib.hid b2
    have hfit := apD_fit D x b
    have HFIT := Lib.hid hfit
    clear hHeld z2 b2 hfit HAP2 Z1 y2 c3 c3'
    generalize apN D x b = n1 at *
    generalize appE D x.1 b = n2 at *
    go_wp2_with fail
    go_ret
    exact ⟨rfl, F2, T2, _, _, _, _, B2'.out, Z.out, HFIT.out.1, HFIT.out.2⟩)
set_option maxRecDepth 100000 in
set_option maxHeartbeats 8000000 in
theorem one_sync_none (h : OneArg w0 w bx p r F T D none pl pm many b keep B1 B2 d1 d2) :
    Calls Tryd.prog 38 #[.pointer (some ⟨bx, 0, none⟩), .agg #[.int .i64 5, .int .i64 many, .slice B1 b.length d1, .slice B2 keep.length d2]] w (OnePost w0 bx p r F w D pl pm) := by
  have e1 : pl = .pointer none := h.both.lx
  have e2 : pm = .pointer none := h.both.ly
  subst e1 e2
  have hba : ¬ gset F bx (.pointer none) (.pointer none) w.heap.size := fun hg => absurd (h.both.lt _ hg) (Nat.lt_irrefl _)
  have kal : Kp NoB w (w.alloc (.cells #[.int .i64 5, .int .i64 many, .slice B1 b.length d1, .slice B2 keep.length d2] 71)) := (Kp.refl _ _).alloc _
  obtain ⟨x1, x2, x3, hz⟩ := actc_cells w 5 many (.slice B1 b.length d1) (.slice B2 keep.length d2) 71
  have hA := h.nob kal
  have c0 := hA.both.c0
  have c1 := hA.both.c1
  have c2 := hA.both.c2
  have c3 := hA.both.c3
  have HA := Lib.hid hA
  have KAL := Lib.hid kal
  have HZ := Lib.hid hz
  have HBA := Lib.hid hba
  clear h hA kal hz hba
  go_enter Tryd.func38, Tryd.ntmps38
  go_wp2_with fail
  refine (lsyncN_calls (.inl rfl)).mono ?_
  rintro e w1 ⟨rfl, rfl⟩
  go_wp2_with fail
  go_ret
  exact ⟨rfl, F, T, D, none, _, _, HA.out.both, XStep.of_nob KAL.out, rfl, Nat.le_succ _⟩
set_option maxRecDepth 100000 in
set_option maxHeartbeats 8000000 in
theorem one_sync_some {x : List (List UInt8) × Nat} (h : OneArg w0 w bx p r F T D (some x) pl pm many b keep B1 B2 d1 d2) :
    Calls Tryd.prog 38 #[.pointer (some ⟨bx, 0, none⟩), .agg #[.int .i64 5, .int .i64 many, .slice B1 b.length d1, .slice B2 keep.length d2]] w (OnePost w0 bx p r F w D pl pm) := by
  obtain ⟨bl, e1, _⟩ := h.both.lx
  obtain ⟨bm, e2, _⟩ := h.both.ly
  subst e1 e2
  have hba : ¬ gset F bx (.pointer (some ⟨bl, 0, none⟩)) (.pointer (some ⟨bm, 0, none⟩)) w.heap.size := fun hg => absurd (h.both.lt _ hg) (Nat.lt_irrefl _)
  have kal : Kp NoB w (w.alloc (.cells #[.int .i64 5, .int .i64 many, .slice B1 b.length d1, .slice B2 keep.length d2] 71)) := (Kp.refl _ _).alloc _
  obtain ⟨x1, x2, x3, hz⟩ := actc_cells w 5 many (.slice B1 b.length d1) (.slice B2 keep.length d2) 71
  have hA := h.nob kal
  have c0 := hA.both.c0
  have c1 := hA.both.c1
  have c2 := hA.both.c2
  have c3 := hA.both.c3
  have HA := Lib.hid hA
  have KAL := Lib.hid kal
  have HZ := Lib.hid hz
  have HBA := Lib.hid hba
  clear h hA kal hz hba
  go_enter Tryd.func38, Tryd.ntmps38
  go_wp2_with fail
  refine (HA.out.both.sync2 (by have := HA.out.hw; omega)).mono ?_
  rintro e w1 ⟨rfl, F1, T1, b1, z1⟩
  have y1 := b1.c1
  clear c0 c1 c2 c3 x1 x2 x3
  go_wp2_with fail
  refine b1.sync1.mono ?_
  rintro e w2 ⟨rfl, F2, T2, b2, z2⟩
  have Z := Lib.hid ((XStep.of_nob KAL.out).trans (z1.trans z2))
  have B2' := Lib.hid b2
  clear z1 z2 b1 b2 y1
  go_wp2_with fail
  go_ret
  exact ⟨rfl, F2, T2, _, _, _, _, B2'.out, Z.out, rfl, Nat.zero_le _⟩
set_option maxRecDepth 100000 in
set_option maxHeartbeats 8000000 in
theorem one_crash (h : OneArg w0 w bx p r F T D X pl pm many b keep B1 B2 d1 d2) :
    Calls Tryd.prog 38 #[.pointer (some ⟨bx, 0, none⟩), .agg #[.int .i64 6, .int .i64 many, .slice B1 b.length d1, .slice B2 keep.length d2]] w (OnePost w0 bx p r F w D pl pm) := by
  have hba : ¬ gset F bx pl pm w.heap.size := fun hg => absurd (h.both.lt _ hg) (Nat.lt_irrefl _)
  have kal : Kp NoB w (w.alloc (.cells #[.int .i64 6, .int .i64 many, .slice B1 b.length d1, .slice B2 keep.length d2] 71)) := (Kp.refl _ _).alloc _
  obtain ⟨x1, x2, x3, hz⟩ := actc_cells w 6 many (.slice B1 b.length d1) (.slice B2 keep.length d2) 71
  have hA := h.nob kal
  have c0 := hA.both.c0
  have c1 := hA.both.c1
  have c2 := hA.both.c2
  have c3 := hA.both.c3
  have HA := Lib.hid hA
  have KAL := Lib.hid kal
  have HZ := Lib.hid hz
  have HBA := Lib.hid hba
  clear h hA kal hz hba
  go_enter Tryd.func38, Tryd.ntmps38
  go_wp2_with fail
  generalize (w.alloc (.cells #[.int .i64 6, .int .i64 many, .slice B1 b.length d1, .slice B2 keep.length d2] 71)) = wa at *
  have kdr : Kp NoB wa wa.drew := (Kp.refl NoB wa).drew
  have hA2 := HA.out.nob kdr
  replace c0 := kdr.cell c0 id
  replace c2 := kdr.cell c2 id
  replace x1 := kdr.cell x1 id
  replace x2 := kdr.cell x2 id
  replace x3 := kdr.cell x3 id
  have H2 := Lib.hid hA2
  have KDR := Lib.hid kdr
  have hcr := hA2.both.crash2 keep _ hA2.hk hA2.hki (by have := hA2.hw; omega)
  have HCR := Lib.hid hcr
  clear hcr hA2 kdr c0 c1 c3 x1 x2
  refine wp_region_held_drew (S := (fun w' => w'.cell? ⟨bx, 2, none⟩ = some (.pointer (some r)) ∧ w'.cell? ⟨w.heap.size, 3, none⟩ = some (.slice B2 keep.length d2))) (by kernel_rfl) ⟨c2, x3⟩ (fun hHeld => ?_)
  refine wpAnyH_take (i := 0) (v := ?_) rfl (by kernel_rfl) (by kernel_rfl) (by kernel_rfl) (fun _ _ _ h => h) (Or.inl ⟨by rfl, ?_⟩) (by assumption) ?_
  rotate_left
  · intro w hSw
    (try dsimp only at hSw)
    go_simp
    all_goals (with_reducible rfl)
  (try simp only [Act.put, List.getElem_toArray, List.getElem_cons_succ, List.getElem_cons_zero, List.setIfInBounds_toArray, List.set_cons_zero, List.set_cons_succ])
  refine wpAnyH_take (i := 1) (v := ?_) rfl (by kernel_rfl) (by kernel_rfl) (by kernel_rfl) (fun _ _ _ h => h) (Or.inl ⟨by rfl, ?_⟩) (by assumption) ?_
  rotate_left
  · intro w hSw
    (try dsimp only at hSw)
    go_simp
    all_goals (with_reducible rfl)
  (try simp only [Act.put, List.getElem_toArray, List.getElem_cons_succ, List.getElem_cons_zero, List.setIfInBounds_toArray, List.set_cons_zero, List.set_cons_succ])
  refine wpAnyH_take (i := 2) (v := ?_) rfl (by kernel_rfl) (by kernel_rfl) (by kernel_rfl) (fun _ _ _ h => h) (Or.inl ⟨by rfl, ?_⟩) (by assumption) ?_
  rotate_left
  · intro w hSw
    (try dsimp only at hSw)
    go_simp
    all_goals (with_reducible rfl)
  (try simp only [Act.put, List.getElem_toArray, List.getElem_cons_succ, List.getElem_cons_zero, List.setIfInBounds_toArray, List.set_cons_zero, List.set_cons_succ])
  refine wpAnyH_take (i := 3) (v := ?_) rfl (by kernel_rfl) (by kernel_rfl) (by kernel_rfl) (fun _ _ _ h => h) (Or.inl ⟨by rfl, ?_⟩) (by assumption) ?_
  rotate_left
  · intro w hSw
    (try dsimp only at hSw)
    have cc := hSw.1
    go_simp
    all_goals (with_reducible rfl)
  (try simp only [Act.put, List.getElem_toArray, List.getElem_cons_succ, List.getElem_cons_zero, List.setIfInBounds_toArray, List.set_cons_zero, List.set_cons_succ])
  refine wpAnyH_take (i := 4) (v := ?_) rfl (by kernel_rfl) (by kernel_rfl) (by kernel_rfl) (fun _ _ _ h => h) (Or.inl ⟨by rfl, ?_⟩) (by assumption) ?_
  rotate_left
  · intro w hSw
    (try dsimp only at hSw)
    go_simp
    all_goals (with_reducible rfl)
  (try simp only [Act.put, List.getElem_toArray, List.getElem_cons_succ, List.getElem_cons_zero, List.setIfInBounds_toArray, List.set_cons_zero, List.set_cons_succ])
  refine wpAnyH_take (i := 5) (v := ?_) rfl (by kernel_rfl) (by kernel_rfl) (by kernel_rfl) (fun _ _ _ h => h) (Or.inl ⟨by rfl, ?_⟩) (by assumption) ?_
  rotate_left
  · intro w hSw
    (try dsimp only at hSw)
    have cc := hSw.2
    go_simp
    all_goals (with_reducible rfl)
  (try simp only [Act.put, List.getElem_toArray, List.getElem_cons_succ, List.getElem_cons_zero, List.setIfInBounds_toArray, List.set_cons_zero, List.set_cons_succ])
  refine wpAnyH_ready (rs := [6]) (by kernel_rfl) (by simp) ?_
  refine AllReadyH.cons rfl (fun K hK => ?_) AllReadyH.nil
  (try rw [if_pos (by rfl)])
  go_simp
  refine HCR.out.mono ?_
  rintro e w1 ⟨rfl, F1, T1, b1, z1⟩
  refine hK.out _ _ ?_ (fun hHeld => ?_)
  · exact ⟨b1.c2, z1.kp.cell hHeld.2 HBA.out⟩
  clear hK K
  (try simp only [Act.put, List.getElem_toArray, List.getElem_cons_succ, List.getElem_cons_zero, List.setIfInBounds_toArray, List.set_cons_zero, List.set_cons_succ])
  refine wpAnyH_done (by kernel_rfl) ?_ _
  go_simp
  have y3 := hHeld.2
  have hba1 : ¬ gset F1 bx pl pm w.heap.size := fun hg => (z1.g _ hg).elim HBA.out fun hge => by have := HZ.out; have := KDR.out.size; omega
  have kdr : Kp NoB w1 w1.drew := (Kp.refl NoB w1).drew
  have b1d := b1.nob kdr
  have hkd := (H2.out.both.oldV z1 H2.out.hk).nob kdr
  have c0 := b1d.c0
  have hcr := b1d.crash1 keep _ hkd H2.out.hki (by have := H2.out.hw; omega)
  replace y3 := kdr.cell y3 id
  have HCR := Lib.hid hcr
  have HBA1 := Lib.hid hba1
  have Z1 := Lib.hid (((XStep.of_nob KAL.out).trans (XStep.of_nob KDR.out)).trans (z1.trans (XStep.of_nob kdr)))
  clear hcr b1d hkd hba1 z1 b1 c2 x3 hHeld kdr
  go_wp2_with fail
  refine wp_region_held_drew (S := (fun w' => w'.cell? ⟨bx, 0, none⟩ = some (.pointer (some p)) ∧ w'.cell? ⟨w.heap.size, 3, none⟩ = some (.slice B2 keep.length d2))) (by kernel_rfl) ⟨c0, y3⟩ (fun hHeld => ?_)
  refine wpAnyH_take (i := 0) (v := ?_) rfl (by kernel_rfl) (by kernel_rfl) (by kernel_rfl) (fun _ _ _ h => h) (Or.inl ⟨by rfl, ?_⟩) (by assumption) ?_
  rotate_left
  · intro w hSw
    (try dsimp only at hSw)
    go_simp
    all_goals (with_reducible rfl)
  (try simp only [Act.put, List.getElem_toArray, List.getElem_cons_succ, List.getElem_cons_zero, List.setIfInBounds_toArray, List.set_cons_zero, List.set_cons_succ])
  refine wpAnyH_take (i := 1) (v := ?_) rfl (by kernel_rfl) (by kernel_rfl) (by kernel_rfl) (fun _ _ _ h => h) (Or.inl ⟨by rfl, ?_⟩) (by assumption) ?_
  rotate_left
  · intro w hSw
    (try dsimp only at hSw)
    go_simp
    all_goals (with_reducible rfl)
  (try simp only [Act.put, List.getElem_toArray, List.getElem_cons_succ, List.getElem_cons_zero, List.setIfInBounds_toArray, List.set_cons_zero, List.set_cons_succ])
  refine wpAnyH_take (i := 2) (v := ?_) rfl (by kernel_rfl) (by kernel_rfl) (by kernel_rfl) (fun _ _ _ h => h) (Or.inl ⟨by rfl, ?_⟩) (by assumption) ?_
  rotate_left
  · intro w hSw
    (try dsimp only at hSw)
    go_simp
    all_goals (with_reducible rfl)
  (try simp only [Act.put, List.getElem_toArray, List.getElem_cons_succ, List.getElem_cons_zero, List.setIfInBounds_toArray, List.set_cons_zero, List.set_cons_succ])
  refine wpAnyH_take (i := 3) (v := ?_) rfl (by kernel_rfl) (by kernel_rfl) (by kernel_rfl) (fun _ _ _ h => h) (Or.inl ⟨by rfl, ?_⟩) (by assumption) ?_
  rotate_left
  · intro w hSw
    (try dsimp only at hSw)
    have cc := hSw.1
    go_simp
    all_goals (with_reducible rfl)
  (try simp only [Act.put, List.getElem_toArray, List.getElem_cons_succ, List.getElem_cons_zero, List.setIfInBounds_toArray, List.set_cons_zero, List.set_cons_succ])
  refine wpAnyH_take (i := 4) (v := ?_) rfl (by kernel_rfl) (by kernel_rfl) (by kernel_rfl) (fun _ _ _ h => h) (Or.inl ⟨by rfl, ?_⟩) (by assumption) ?_
  rotate_left
  · intro w hSw
    (try dsimp only at hSw)
    go_simp
    all_goals (with_reducible rfl)
  (try simp only [Act.put, List.getElem_toArray, List.getElem_cons_succ, List.getElem_cons_zero, List.setIfInBounds_toArray, List.set_cons_zero, List.set_cons_succ])
  refine wpAnyH_take (i := 5) (v := ?_) rfl (by kernel_rfl) (by kernel_rfl) (by kernel_rfl) (fun _ _ _ h => h) (Or.inl ⟨by rfl, ?_⟩) (by assumption) ?_
  rotate_left
  · intro w hSw
    (try dsimp only at hSw)
    have cc := hSw.2
    go_simp
    all_goals (with_reducible rfl)
  (try simp only [Act.put, List.getElem_toArray, List.getElem_cons_succ, List.getElem_cons_zero, List.setIfInBounds_toArray, List.set_cons_zero, List.set_cons_succ])
  refine wpAnyH_ready (rs := [6]) (by kernel_rfl) (by simp) ?_
  refine AllReadyH.cons rfl (fun K hK => ?_) AllReadyH.nil
  (try rw [if_pos (by rfl)])
  go_simp
  refine HCR.out.mono ?_
  rintro e w2 ⟨rfl, F2, T2, b2, z2⟩
  refine hK.out _ _ ?_ (fun hHeld => ?_)
  · exact ⟨b2.c0, z2.kp.cell hHeld.2 HBA1.out⟩
  clear hK K
  (try simp only [Act.put, List.getElem_toArray, List.getElem_cons_succ, List.getElem_cons_zero, List.setIfInBounds_toArray, List.set_cons_zero, List.set_cons_succ])
  refine wpAnyH_take (i := 7) (v := ?_) rfl (by kernel_rfl) (by kernel_rfl) (by kernel_rfl) (fun _ _ _ h => h) (Or.inl ⟨by rfl, ?_⟩) (by assumption) ?_
  rotate_left
  · intro w hSw
    (try dsimp only at hSw)
    go_simp
    all_goals (with_reducible rfl)
  (try simp only [Act.put, List.getElem_toArray, List.getElem_cons_succ, List.getElem_cons_zero, List.setIfInBounds_toArray, List.set_cons_zero, List.set_cons_succ])
  refine wpAnyH_take (i := 8) (v := ?_) rfl (by kernel_rfl) (by kernel_rfl) (by kernel_rfl) (fun _ _ _ h => h) (Or.inl ⟨by rfl, ?_⟩) (by assumption) ?_
  rotate_left
  · intro w hSw
    (try dsimp only at hSw)
    go_simp
    all_goals (with_reducible rfl)
  (try simp only [Act.put, List.getElem_toArray, List.getElem_cons_succ, List.getElem_cons_zero, List.setIfInBounds_toArray, List.set_cons_zero, List.set_cons_succ])
  refine wpAnyH_take (i := 9) (v := ?_) rfl (by kernel_rfl) (by kernel_rfl) (by kernel_rfl) (fun _ _ _ h => h) (Or.inl ⟨by rfl, ?_⟩) (by assumption) ?_
  rotate_left
  · intro w hSw
    (try dsimp only at hSw)
    go_simp
    all_goals (with_reducible rfl)
  (try simp only [Act.put, List.getElem_toArray, List.getElem_cons_succ, List.getElem_cons_zero, List.setIfInBounds_toArray, List.set_cons_zero, List.set_cons_succ])
  have hba2 : ¬ gset F2 bx pl pm w.heap.size := fun hg => (z2.g _ hg).elim HBA1.out fun hge => by have := HZ.out; have h1 := World.block_lt_of_cell? _ _ y3; simp only at h1; omega
  have HBA2 := Lib.hid hba2
  clear hba2
  refine wpAnyH_ready (rs := [10]) (by kernel_rfl) (by simp) ?_
  refine AllReadyH.cons rfl (fun K hK => ?_) AllReadyH.nil
  (try rw [if_pos (by rfl)])
  go_simp
  refine (recovers_calls b2 (by show ([] : List (Nat × List UInt8)).length ≤ _; simp)).mono ?_
  rintro e w3 ⟨rfl, F3, T3, D3, X3, pl3, pm3, b3, z3, hc3, hw3⟩
  refine hK.out _ _ ?_ (fun hHeld => ?_)
  · exact ⟨b3.c0, z3.kp.cell hHeld.2 HBA2.out⟩
  clear hK K
  (try simp only [Act.put, List.getElem_toArray, List.getElem_cons_succ, List.getElem_cons_zero, List.setIfInBounds_toArray, List.set_cons_zero, List.set_cons_succ])
  refine wpAnyH_take (i := 11) (v := ?_) rfl (by kernel_rfl) (by kernel_rfl) (by kernel_rfl) (fun _ _ _ h => h) (Or.inl ⟨by rfl, ?_⟩) (by assumption) ?_
  rotate_left
  · intro w hSw
    (try dsimp only at hSw)
    go_simp
    all_goals (with_reducible rfl)
  (try simp only [Act.put, List.getElem_toArray, List.getElem_cons_succ, List.getElem_cons_zero, List.setIfInBounds_toArray, List.set_cons_zero, List.set_cons_succ])
  refine wpAnyH_take (i := 12) (v := ?_) rfl (by kernel_rfl) (by kernel_rfl) (by kernel_rfl) (fun _ _ _ h => h) (Or.inl ⟨by rfl, ?_⟩) (by assumption) ?_
  rotate_left
  · intro w hSw
    (try dsimp only at hSw)
    go_simp
    all_goals (with_reducible rfl)
  (try simp only [Act.put, List.getElem_toArray, List.getElem_cons_succ, List.getElem_cons_zero, List.setIfInBounds_toArray, List.set_cons_zero, List.set_cons_succ])
  refine wpAnyH_done (by kernel_rfl) ?_ _
  go_simp
  have Z := Lib.hid (Z1.out.trans (z2.trans z3))
  have B3 := Lib.hid b3
  clear hHeld z2 z3 b2 b3 y3 c0
  go_wp2_with fail
  go_ret
  exact ⟨rfl, F3, T3, D3, X3, _, _, B3.out, Z.out, hc3, by have h1 : D3.waits.length ≤ 0 := hw3; omega⟩
set_option maxRecDepth 100000 in
set_option maxHeartbeats 8000000 in
theorem one_fill (h : OneArg w0 w bx p r F T D X pl pm many b keep B1 B2 d1 d2) :
    Calls Tryd.prog 38 #[.pointer (some ⟨bx, 0, none⟩), .agg #[.int .i64 7, .int .i64 many, .slice B1 b.length d1, .slice B2 keep.length d2]] w (OnePost w0 bx p r F w D pl pm) := by
  have hba : ¬ gset F bx pl pm w.heap.size := fun hg => absurd (h.both.lt _ hg) (Nat.lt_irrefl _)
  have kal : Kp NoB w (w.alloc (.cells #[.int .i64 7, .int .i64 many, .slice B1 b.length d1, .slice B2 keep.length d2] 71)) := (Kp.refl _ _).alloc _
  obtain ⟨x1, x2, x3, hz⟩ := actc_cells w 7 many (.slice B1 b.length d1) (.slice B2 keep.length d2) 71
  have hA := h.nob kal
  have c0 := hA.both.c0
  have c1 := hA.both.c1
  have c2 := hA.both.c2
  have c3 := hA.both.c3
  have HA := Lib.hid hA
  have KAL := Lib.hid kal
  have HZ := Lib.hid hz
  have HBA := Lib.hid hba
  clear h hA kal hz hba
  go_enter Tryd.func38, Tryd.ntmps38
  go_wp2_with fail
  generalize (w.alloc (.cells #[.int .i64 7, .int .i64 many, .slice B1 b.length d1, .slice B2 keep.length d2] 71)) = wa at *
  have kdr : Kp NoB wa wa.drew := (Kp.refl NoB wa).drew
  have hA2 := HA.out.nob kdr
  replace c0 := kdr.cell c0 id
  replace c2 := kdr.cell c2 id
  replace x1 := kdr.cell x1 id
  replace x2 := kdr.cell x2 id
  replace x3 := kdr.cell x3 id
  have H2 := Lib.hid hA2
  have KDR := Lib.hid kdr
  obtain ⟨q, rfl, hq, f1, fz1, hset⟩ := hA2.both.full2
  obtain ⟨F1, T1, b1, z1⟩ := hset (many.tmod 2 != 0)
  have k2 := b1.c2
  have k1 := z1.kp.cell x1 HBA.out
  have BB1 := Lib.hid b1
  have Z1 := Lib.hid (((XStep.of_nob KAL.out).trans (XStep.of_nob KDR.out)).trans z1)
  have hba1 : ¬ gset F1 bx pl pm w.heap.size := fun hg => (z1.g _ hg).elim HBA.out fun hge => by have := HZ.out; have := KDR.out.size; omega
  have HBA1 := Lib.hid hba1
  clear hset hA2 kdr c0 c1 c3 x2 x3 b1 z1 hba1
  refine wp_region_held_drew (S := (fun w' => w'.cell? ⟨bx, 2, none⟩ = some (.pointer (some ⟨q, 0, none⟩)) ∧ w'.cell? ⟨w.heap.size, 1, none⟩ = some (.int .i64 many))) (by kernel_rfl) ⟨c2, x1⟩ (fun hHeld => ?_)
  refine wpAnyH_take (i := 0) (v := ?_) rfl (by kernel_rfl) (by kernel_rfl) (by kernel_rfl) (fun _ _ _ h => h) (Or.inl ⟨by rfl, ?_⟩) (by assumption) ?_
  rotate_left
  · intro w hSw
    (try dsimp only at hSw)
    go_simp
    all_goals (with_reducible rfl)
  (try simp only [Act.put, List.getElem_toArray, List.getElem_cons_succ, List.getElem_cons_zero, List.setIfInBounds_toArray, List.set_cons_zero, List.set_cons_succ])
  refine wpAnyH_take (i := 1) (v := ?_) rfl (by kernel_rfl) (by kernel_rfl) (by kernel_rfl) (fun _ _ _ h => h) (Or.inl ⟨by rfl, ?_⟩) (by assumption) ?_
  rotate_left
  · intro w hSw
    (try dsimp only at hSw)
    go_simp
    all_goals (with_reducible rfl)
  (try simp only [Act.put, List.getElem_toArray, List.getElem_cons_succ, List.getElem_cons_zero, List.setIfInBounds_toArray, List.set_cons_zero, List.set_cons_succ])
  refine wpAnyH_take (i := 2) (v := ?_) rfl (by kernel_rfl) (by kernel_rfl) (by kernel_rfl) (fun _ _ _ h => h) (Or.inl ⟨by rfl, ?_⟩) (by assumption) ?_
  rotate_left
  · intro w hSw
    (try dsimp only at hSw)
    go_simp
    all_goals (with_reducible rfl)
  (try simp only [Act.put, List.getElem_toArray, List.getElem_cons_succ, List.getElem_cons_zero, List.setIfInBounds_toArray, List.set_cons_zero, List.set_cons_succ])
  refine wpAnyH_take (i := 3) (v := ?_) rfl (by kernel_rfl) (by kernel_rfl) (by kernel_rfl) (fun _ _ _ h => h) (Or.inl ⟨by rfl, ?_⟩) (by assumption) ?_
  rotate_left
  · intro w hSw
    (try dsimp only at hSw)
    have cc := hSw.1
    go_simp
    all_goals (with_reducible rfl)
  (try simp only [Act.put, List.getElem_toArray, List.getElem_cons_succ, List.getElem_cons_zero, List.setIfInBounds_toArray, List.set_cons_zero, List.set_cons_succ])
  refine wpAnyH_take (i := 4) (v := ?_) rfl (by kernel_rfl) (by kernel_rfl) (by kernel_rfl) (fun _ _ _ h => h) (Or.inl ⟨by rfl, ?_⟩) (by assumption) ?_
  rotate_left
  · intro w hSw
    (try dsimp only at hSw)
    go_simp
    all_goals (with_reducible rfl)
  (try simp only [Act.put, List.getElem_toArray, List.getElem_cons_succ, List.getElem_cons_zero, List.setIfInBounds_toArray, List.set_cons_zero, List.set_cons_succ])
  refine wpAnyH_take (i := 5) (v := ?_) rfl (by kernel_rfl) (by kernel_rfl) (by kernel_rfl) (fun _ _ _ h => h) (Or.inl ⟨by rfl, ?_⟩) (by assumption) ?_
  rotate_left
  · intro w hSw
    (try dsimp only at hSw)
    have cc := hSw.2
    go_simp
    all_goals (with_reducible rfl)
  (try simp only [Act.put, List.getElem_toArray, List.getElem_cons_succ, List.getElem_cons_zero, List.setIfInBounds_toArray, List.set_cons_zero, List.set_cons_succ])
  refine wpAnyH_take (i := 6) (v := ?_) rfl (by kernel_rfl) (by kernel_rfl) (by kernel_rfl) (fun _ _ _ h => h) (Or.inl ⟨by rfl, ?_⟩) (by assumption) ?_
  rotate_left
  · intro w hSw
    (try dsimp only at hSw)
    go_simp
    all_goals (with_reducible rfl)
  (try simp only [Act.put, List.getElem_toArray, List.getElem_cons_succ, List.getElem_cons_zero, List.setIfInBounds_toArray, List.set_cons_zero, List.set_cons_succ])
  refine wpAnyH_take (i := 7) (v := ?_) rfl (by kernel_rfl) (by kernel_rfl) (by kernel_rfl) (fun _ _ _ h => h) (Or.inl ⟨by rfl, ?_⟩) (by assumption) ?_
  rotate_left
  · intro w hSw
    (try dsimp only at hSw)
    go_simp
    all_goals (with_reducible rfl)
  (try simp only [Act.put, List.getElem_toArray, List.getElem_cons_succ, List.getElem_cons_zero, List.setIfInBounds_toArray, List.set_cons_zero, List.set_cons_succ])
  refine wpAnyH_take (i := 8) (v := ?_) rfl (by kernel_rfl) (by kernel_rfl) (by kernel_rfl) (fun _ _ _ h => h) (Or.inl ⟨by rfl, ?_⟩) (by assumption) ?_
  rotate_left
  · intro w hSw
    (try dsimp only at hSw)
    go_simp
    all_goals (with_reducible rfl)
  (try simp only [Act.put, List.getElem_toArray, List.getElem_cons_succ, List.getElem_cons_zero, List.setIfInBounds_toArray, List.set_cons_zero, List.set_cons_succ])
  refine wpAnyH_take (i := 9) (v := ?_) rfl (by kernel_rfl) (by kernel_rfl) (by kernel_rfl) (fun _ _ _ h => h) (Or.inl ⟨by rfl, ?_⟩) (by assumption) ?_
  rotate_left
  · intro w hSw
    (try dsimp only at hSw)
    go_simp
    all_goals (with_reducible rfl)
  (try simp only [Act.put, List.getElem_toArray, List.getElem_cons_succ, List.getElem_cons_zero, List.setIfInBounds_toArray, List.set_cons_zero, List.set_cons_succ])
  refine wpAnyH_ready (rs := [10]) (by kernel_rfl) (by simp) ?_
  refine AllReadyH.cons rfl (fun K hK => ?_) AllReadyH.nil
  (try rw [if_pos (by rfl)])
  go_simp
  refine hK.out _ _ ?_ (fun hHeld => ?_)
  · exact ⟨k2, k1⟩
  clear hK K
  (try simp only [Act.put, List.getElem_toArray, List.getElem_cons_succ, List.getElem_cons_zero, List.setIfInBounds_toArray, List.set_cons_zero, List.set_cons_succ])
  refine wpAnyH_done (by kernel_rfl) ?_ _
  go_simp
  clear hHeld f1 fz1 c2 x1 k1 k2
  obtain ⟨w1, hw1, hw2⟩ : ∃ w1, w1 = (wa.setCell ⟨q, 1, none⟩ (.bool (many.tmod 2 != 0))).drew ∧ w1 = wa.drew.setCell ⟨q, 1, none⟩ (.bool (many.tmod 2 != 0)) := ⟨_, rfl, rfl⟩
  rw [← hw2] at BB1 Z1
  rw [← hw1]
  clear hw1 hw2
  generalize (many.tmod 2 != 0) = on at *
  have kdr : Kp NoB w1 w1.drew := (Kp.refl NoB w1).drew
  have b1d := BB1.out.nob kdr
  have c0 := b1d.c0
  have c2 := b1d.c2
  obtain ⟨q2, hq2, _, f1, _⟩ := b1d.full2
  injection hq2 with hq2
  subst hq2
  have hfl := b1d.fill1 on
  have HFL := Lib.hid hfl
  have KDR1 := Lib.hid kdr
  clear b1d hfl kdr
  go_wp2_with fail
  refine wp_region_held_drew (S := (fun w' => w'.cell? ⟨bx, 0, none⟩ = some (.pointer (some p)) ∧ w'.cell? ⟨bx, 2, none⟩ = some (.pointer (some ⟨q, 0, none⟩)) ∧ w'.cell? ⟨q, 1, none⟩ = some (.bool on))) (by kernel_rfl) ⟨c0, c2, f1⟩ (fun hHeld => ?_)
  refine wpAnyH_take (i := 0) (v := ?_) rfl (by kernel_rfl) (by kernel_rfl) (by kernel_rfl) (fun _ _ _ h => h) (Or.inl ⟨by rfl, ?_⟩) (by assumption) ?_
  rotate_left
  · intro w hSw
    (try dsimp only at hSw)
    go_simp
    all_goals (with_reducible rfl)
  (try simp only [Act.put, List.getElem_toArray, List.getElem_cons_succ, List.getElem_cons_zero, List.setIfInBounds_toArray, List.set_cons_zero, List.set_cons_succ])
  refine wpAnyH_take (i := 1) (v := ?_) rfl (by kernel_rfl) (by kernel_rfl) (by kernel_rfl) (fun _ _ _ h => h) (Or.inl ⟨by rfl, ?_⟩) (by assumption) ?_
  rotate_left
  · intro w hSw
    (try dsimp only at hSw)
    go_simp
    all_goals (with_reducible rfl)
  (try simp only [Act.put, List.getElem_toArray, List.getElem_cons_succ, List.getElem_cons_zero, List.setIfInBounds_toArray, List.set_cons_zero, List.set_cons_succ])
  refine wpAnyH_take (i := 2) (v := ?_) rfl (by kernel_rfl) (by kernel_rfl) (by kernel_rfl) (fun _ _ _ h => h) (Or.inl ⟨by rfl, ?_⟩) (by assumption) ?_
  rotate_left
  · intro w hSw
    (try dsimp only at hSw)
    go_simp
    all_goals (with_reducible rfl)
  (try simp only [Act.put, List.getElem_toArray, List.getElem_cons_succ, List.getElem_cons_zero, List.setIfInBounds_toArray, List.set_cons_zero, List.set_cons_succ])
  refine wpAnyH_take (i := 3) (v := ?_) rfl (by kernel_rfl) (by kernel_rfl) (by kernel_rfl) (fun _ _ _ h => h) (Or.inl ⟨by rfl, ?_⟩) (by assumption) ?_
  rotate_left
  · intro w hSw
    (try dsimp only at hSw)
    have cc := hSw.1
    go_simp
    all_goals (with_reducible rfl)
  (try simp only [Act.put, List.getElem_toArray, List.getElem_cons_succ, List.getElem_cons_zero, List.setIfInBounds_toArray, List.set_cons_zero, List.set_cons_succ])
  refine wpAnyH_take (i := 4) (v := ?_) rfl (by kernel_rfl) (by kernel_rfl) (by kernel_rfl) (fun _ _ _ h => h) (Or.inl ⟨by rfl, ?_⟩) (by assumption) ?_
  rotate_left
  · intro w hSw
    (try dsimp only at hSw)
    go_simp
    all_goals (with_reducible rfl)
  (try simp only [Act.put, List.getElem_toArray, List.getElem_cons_succ, List.getElem_cons_zero, List.setIfInBounds_toArray, List.set_cons_zero, List.set_cons_succ])
  refine wpAnyH_take (i := 5) (v := ?_) rfl (by kernel_rfl) (by kernel_rfl) (by kernel_rfl) (fun _ _ _ h => h) (Or.inl ⟨by rfl, ?_⟩) (by assumption) ?_
  rotate_left
  · intro w hSw
    (try dsimp only at hSw)
    go_simp
    all_goals (with_reducible rfl)
  (try simp only [Act.put, List.getElem_toArray, List.getElem_cons_succ, List.getElem_cons_zero, List.setIfInBounds_toArray, List.set_cons_zero, List.set_cons_succ])
  refine wpAnyH_take (i := 6) (v := ?_) rfl (by kernel_rfl) (by kernel_rfl) (by kernel_rfl) (fun _ _ _ h => h) (Or.inl ⟨by rfl, ?_⟩) (by assumption) ?_
  rotate_left
  · intro w hSw
    (try dsimp only at hSw)
    go_simp
    all_goals (with_reducible rfl)
  (try simp only [Act.put, List.getElem_toArray, List.getElem_cons_succ, List.getElem_cons_zero, List.setIfInBounds_toArray, List.set_cons_zero, List.set_cons_succ])
  refine wpAnyH_take (i := 7) (v := ?_) rfl (by kernel_rfl) (by kernel_rfl) (by kernel_rfl) (fun _ _ _ h => h) (Or.inl ⟨by rfl, ?_⟩) (by assumption) ?_
  rotate_left
  · intro w hSw
    (try dsimp only at hSw)
    have cc := hSw.2.1
    go_simp
    all_goals (with_reducible rfl)
  (try simp only [Act.put, List.getElem_toArray, List.getElem_cons_succ, List.getElem_cons_zero, List.setIfInBounds_toArray, List.set_cons_zero, List.set_cons_succ])
  refine wpAnyH_take (i := 8) (v := ?_) rfl (by kernel_rfl) (by kernel_rfl) (by kernel_rfl) (fun _ _ _ h => h) (Or.inl ⟨by rfl, ?_⟩) (by assumption) ?_
  rotate_left
  · intro w hSw
    (try dsimp only at hSw)
    go_simp
    all_goals (with_reducible rfl)
  (try simp only [Act.put, List.getElem_toArray, List.getElem_cons_succ, List.getElem_cons_zero, List.setIfInBounds_toArray, List.set_cons_zero, List.set_cons_succ])
  refine wpAnyH_take (i := 9) (v := ?_) rfl (by kernel_rfl) (by kernel_rfl) (by kernel_rfl) (fun _ _ _ h => h) (Or.inl ⟨by rfl, ?_⟩) (by assumption) ?_
  rotate_left
  · intro w hSw
    (try dsimp only at hSw)
    go_simp
    all_goals (with_reducible rfl)
  (try simp only [Act.put, List.getElem_toArray, List.getElem_cons_succ, List.getElem_cons_zero, List.setIfInBounds_toArray, List.set_cons_zero, List.set_cons_succ])
  refine wpAnyH_take (i := 10) (v := ?_) rfl (by kernel_rfl) (by kernel_rfl) (by kernel_rfl) (fun _ _ _ h => h) (Or.inl ⟨by rfl, ?_⟩) (by assumption) ?_
  rotate_left
  · intro w hSw
    (try dsimp only at hSw)
    have cc := hSw.2.2
    go_simp
    all_goals (with_reducible rfl)
  (try simp only [Act.put, List.getElem_toArray, List.getElem_cons_succ, List.getElem_cons_zero, List.setIfInBounds_toArray, List.set_cons_zero, List.set_cons_succ])
  refine wpAnyH_ready (rs := [11]) (by kernel_rfl) (by simp) ?_
  refine AllReadyH.cons rfl (fun K hK => ?_) AllReadyH.nil
  (try rw [if_pos (by rfl)])
  go_simp
  refine HFL.out.mono ?_
  rintro e w2 ⟨rfl, F2, T2, b2, z2⟩
  have g2 : w2.cell? ⟨q, 1, none⟩ = some (.bool on) := by
    obtain ⟨q3, hq3, _, f3, _⟩ := b2.full2
    injection hq3 with hq3
    subst hq3
    exact f3
  refine hK.out _ _ ?_ (fun hHeld => ?_)
  · exact ⟨b2.c0, b2.c2, g2⟩
  clear hK K
  (try simp only [Act.put, List.getElem_toArray, List.getElem_cons_succ, List.getElem_cons_zero, List.setIfInBounds_toArray, List.set_cons_zero, List.set_cons_succ])
  refine wpAnyH_take (i := 12) (v := ?_) rfl (by kernel_rfl) (by kernel_rfl) (by kernel_rfl) (fun _ _ _ h => h) (Or.inl ⟨by rfl, ?_⟩) (by assumption) ?_
  rotate_left
  · intro w hSw
    (try dsimp only at hSw)
    go_simp
    all_goals (with_reducible rfl)
  (try simp only [Act.put, List.getElem_toArray, List.getElem_cons_succ, List.getElem_cons_zero, List.setIfInBounds_toArray, List.set_cons_zero, List.set_cons_succ])
  refine wpAnyH_take (i := 13) (v := ?_) rfl (by kernel_rfl) (by kernel_rfl) (by kernel_rfl) (fun _ _ _ h => h) (Or.inl ⟨by rfl, ?_⟩) (by assumption) ?_
  rotate_left
  · intro w hSw
    (try dsimp only at hSw)
    go_simp
    all_goals (with_reducible rfl)
  (try simp only [Act.put, List.getElem_toArray, List.getElem_cons_succ, List.getElem_cons_zero, List.setIfInBounds_toArray, List.set_cons_zero, List.set_cons_succ])
  refine wpAnyH_done (by kernel_rfl) ?_ _
  go_simp
  have Z := Lib.hid (Z1.out.trans ((XStep.of_nob KDR1.out).trans z2))
  have B2' := Lib.hid b2
  clear hHeld z2 b2 c0 c2 f1 HFL g2
  go_wp2_with fail
  go_ret
  exact ⟨rfl, F2, T2, _, X, _, _, B2'.out, Z.out, rfl, Nat.le_succ _⟩
set_option maxRecDepth 100000 in
set_option maxHeartbeats 8000000 in
theorem one_rec (h : OneArg w0 w bx p r F T D X pl pm many b keep B1 B2 d1 d2) :
    Calls Tryd.prog 38 #[.pointer (some ⟨bx, 0, none⟩), .agg #[.int .i64 8, .int .i64 many, .slice B1 b.length d1, .slice B2 keep.length d2]] w (OnePost w0 bx p r F w D pl pm) := by
  have hba : ¬ gset F bx pl pm w.heap.size := fun hg => absurd (h.both.lt _ hg) (Nat.lt_irrefl _)
  have kal : Kp NoB w (w.alloc (.cells #[.int .i64 8, .int .i64 many, .slice B1 b.length d1, .slice B2 keep.length d2] 71)) := (Kp.refl _ _).alloc _
  obtain ⟨x1, x2, x3, hz⟩ := actc_cells w 8 many (.slice B1 b.length d1) (.slice B2 keep.length d2) 71
  have hA := h.nob kal
  have c0 := hA.both.c0
  have c1 := hA.both.c1
  have c2 := hA.both.c2
  have c3 := hA.both.c3
  have HA := Lib.hid hA
  have KAL := Lib.hid kal
  have HZ := Lib.hid hz
  have HBA := Lib.hid hba
  clear h hA kal hz hba
  go_enter Tryd.func38, Tryd.ntmps38
  go_wp2_with fail
  refine (recovers_calls HA.out.both (by have := HA.out.hw; omega)).mono ?_
  rintro e w1 ⟨rfl, F1, T1, D1, X1, pl1, pm1, b1, z1, hc1, hw1⟩
  have B1' := Lib.hid b1
  have Z := Lib.hid ((XStep.of_nob KAL.out).trans z1)
  clear b1 z1 c0 c1 c2 c3 x1 x2 x3
  go_wp2_with fail
  go_ret
  exact ⟨rfl, F1, T1, D1, X1, _, _, B1'.out, Z.out, hc1, by omega⟩
set_option maxRecDepth 100000 in
set_option maxHeartbeats 8000000 in
theorem one_write (h : OneArg w0 w bx p r F T D X pl pm many b keep B1 B2 d1 d2) :
    Calls Tryd.prog 38 #[.pointer (some ⟨bx, 0, none⟩), .agg #[.int .i64 9, .int .i64 many, .slice B1 b.length d1, .slice B2 keep.length d2]] w (OnePost w0 bx p r F w D pl pm) := by
  have hba : ¬ gset F bx pl pm w.heap.size := fun hg => absurd (h.both.lt _ hg) (Nat.lt_irrefl _)
  have kal : Kp NoB w (w.alloc (.cells #[.int .i64 9, .int .i64 many, .slice B1 b.length d1, .slice B2 keep.length d2] 71)) := (Kp.refl _ _).alloc _
  obtain ⟨x1, x2, x3, hz⟩ := actc_cells w 9 many (.slice B1 b.length d1) (.slice B2 keep.length d2) 71
  have hA := h.nob kal
  have c0 := hA.both.c0
  have c1 := hA.both.c1
  have c2 := hA.both.c2
  have c3 := hA.both.c3
  have HA := Lib.hid hA
  have KAL := Lib.hid kal
  have HZ := Lib.hid hz
  have HBA := Lib.hid hba
  clear h hA kal hz hba
  go_enter Tryd.func38, Tryd.ntmps38
  go_wp2_with fail
  generalize (w.alloc (.cells #[.int .i64 9, .int .i64 many, .slice B1 b.length d1, .slice B2 keep.length d2] 71)) = wa at *
  have kdr : Kp NoB wa wa.drew := (Kp.refl NoB wa).drew
  have hA2 := HA.out.nob kdr
  replace c0 := kdr.cell c0 id
  replace c2 := kdr.cell c2 id
  replace x1 := kdr.cell x1 id
  replace x2 := kdr.cell x2 id
  replace x3 := kdr.cell x3 id
  have H2 := Lib.hid hA2
  have KDR := Lib.hid kdr
  have hb2 := hA2.hb
  have hm2 := hA2.hm
  have hw2 := hA2.hw
  have hbl2 := hA2.hbl
  have hbd := hA2.both
  have hw1 := hbd.write1 many b _ hb2 hm2 (by omega)
  have hr1 := hbd.write2 many b _ hb2 hm2 (by omega) (by omega)
  have HW1 := Lib.hid hw1
  have HR1 := Lib.hid hr1
  have HBD := Lib.hid hbd
  have HB2 := Lib.hid hb2
  have HM2 := Lib.hid hm2
  have hfit := writeD_fit D many b
  have HFIT := Lib.hid hfit
  have hwf : (writeD D many b).waits.length ≤ 100000 := by omega
  have KZ : Hid (w.heap.size < wa.drew.heap.size) := Lib.hid (by have := HZ.out; have := KDR.out.size; omega)
  clear hw1 hr1 hbd hb2 hm2 hA2 kdr c1 c3 x3 hfit
  refine wp_region_held_drew (S := (fun w' => w'.cell? ⟨bx, 0, none⟩ = some (.pointer (some p)) ∧ w'.cell? ⟨bx, 2, none⟩ = some (.pointer (some r)) ∧ w'.cell? ⟨w.heap.size, 1, none⟩ = some (.int .i64 many) ∧ w'.cell? ⟨w.heap.size, 2, none⟩ = some (.slice B1 b.length d1))) (by kernel_rfl) ⟨c0, c2, x1, x2⟩ (fun hHeld => ?_)
  refine wpAnyH_take (i := 0) (v := ?_) rfl (by kernel_rfl) (by kernel_rfl) (by kernel_rfl) (fun _ _ _ h => h) (Or.inl ⟨by rfl, ?_⟩) (by assumption) ?_
  rotate_left
  · intro w hSw
    (try dsimp only at hSw)
    go_simp
    all_goals (with_reducible rfl)
  (try simp only [Act.put, List.getElem_toArray, List.getElem_cons_succ, List.getElem_cons_zero, List.setIfInBounds_toArray, List.set_cons_zero, List.set_cons_succ])
  refine wpAnyH_take (i := 1) (v := ?_) rfl (by kernel_rfl) (by kernel_rfl) (by kernel_rfl) (fun _ _ _ h => h) (Or.inl ⟨by rfl, ?_⟩) (by assumption) ?_
  rotate_left
  · intro w hSw
    (try dsimp only at hSw)
    go_simp
    all_goals (with_reducible rfl)
  (try simp only [Act.put, List.getElem_toArray, List.getElem_cons_succ, List.getElem_cons_zero, List.setIfInBounds_toArray, List.set_cons_zero, List.set_cons_succ])
  refine wpAnyH_take (i := 2) (v := ?_) rfl (by kernel_rfl) (by kernel_rfl) (by kernel_rfl) (fun _ _ _ h => h) (Or.inl ⟨by rfl, ?_⟩) (by assumption) ?_
  rotate_left
  · intro w hSw
    (try dsimp only at hSw)
    go_simp
    all_goals (with_reducible rfl)
  (try simp only [Act.put, List.getElem_toArray, List.getElem_cons_succ, List.getElem_cons_zero, List.setIfInBounds_toArray, List.set_cons_zero, List.set_cons_succ])
  refine wpAnyH_take (i := 3) (v := ?_) rfl (by kernel_rfl) (by kernel_rfl) (by kernel_rfl) (fun _ _ _ h => h) (Or.inl ⟨by rfl, ?_⟩) (by assumption) ?_
  rotate_left
  · intro w hSw
    (try dsimp only at hSw)
    have cc := hSw.1
    go_simp
    all_goals (with_reducible rfl)
  (try simp only [Act.put, List.getElem_toArray, List.getElem_cons_succ, List.getElem_cons_zero, List.setIfInBounds_toArray, List.set_cons_zero, List.set_cons_succ])
  refine wpAnyH_take (i := 4) (v := ?_) rfl (by kernel_rfl) (by kernel_rfl) (by kernel_rfl) (fun _ _ _ h => h) (Or.inl ⟨by rfl, ?_⟩) (by assumption) ?_
  rotate_left
  · intro w hSw
    (try dsimp only at hSw)
    go_simp
    all_goals (with_reducible rfl)
  (try simp only [Act.put, List.getElem_toArray, List.getElem_cons_succ, List.getElem_cons_zero, List.setIfInBounds_toArray, List.set_cons_zero, List.set_cons_succ])
  refine wpAnyH_take (i := 5) (v := ?_) rfl (by kernel_rfl) (by kernel_rfl) (by kernel_rfl) (fun _ _ _ h => h) (Or.inl ⟨by rfl, ?_⟩) (by assumption) ?_
  rotate_left
  · intro w hSw
    (try dsimp only at hSw)
    have cc := hSw.2.2.1
    go_simp
    all_goals (with_reducible rfl)
  (try simp only [Act.put, List.getElem_toArray, List.getElem_cons_succ, List.getElem_cons_zero, List.setIfInBounds_toArray, List.set_cons_zero, List.set_cons_succ])
  refine wpAnyH_take (i := 6) (v := ?_) rfl (by kernel_rfl) (by kernel_rfl) (by kernel_rfl) (fun _ _ _ h => h) (Or.inl ⟨by rfl, ?_⟩) (by assumption) ?_
  rotate_left
  · intro w hSw
    (try dsimp only at hSw)
    go_simp
    all_goals (with_reducible rfl)
  (try simp only [Act.put, List.getElem_toArray, List.getElem_cons_succ, List.getElem_cons_zero, List.setIfInBounds_toArray, List.set_cons_zero, List.set_cons_succ])
  refine wpAnyH_take (i := 7) (v := ?_) rfl (by kernel_rfl) (by kernel_rfl) (by kernel_rfl) (fun _ _ _ h => h) (Or.inl ⟨by rfl, ?_⟩) (by assumption) ?_
  rotate_left
  · intro w hSw
    (try dsimp only at hSw)
    have cc := hSw.2.2.2
    go_simp
    all_goals (with_reducible rfl)
  (try simp only [Act.put, List.getElem_toArray, List.getElem_cons_succ, List.getElem_cons_zero, List.setIfInBounds_toArray, List.set_cons_zero, List.set_cons_succ])
  refine wpAnyH_take (i := 9) (v := ?_) rfl (by kernel_rfl) (by kernel_rfl) (by kernel_rfl) (fun _ _ _ h => h) (Or.inl ⟨by rfl, ?_⟩) (by assumption) ?_
  rotate_left
  · intro w hSw
    (try dsimp only at hSw)
    go_simp
    all_goals (with_reducible rfl)
  (try simp only [Act.put, List.getElem_toArray, List.getElem_cons_succ, List.getElem_cons_zero, List.setIfInBounds_toArray, List.set_cons_zero, List.set_cons_succ])
  refine wpAnyH_take (i := 10) (v := ?_) rfl (by kernel_rfl) (by kernel_rfl) (by kernel_rfl) (fun _ _ _ h => h) (Or.inl ⟨by rfl, ?_⟩) (by assumption) ?_
  rotate_left
  · intro w hSw
    (try dsimp only at hSw)
    go_simp
    all_goals (with_reducible rfl)
  (try simp only [Act.put, List.getElem_toArray, List.getElem_cons_succ, List.getElem_cons_zero, List.setIfInBounds_toArray, List.set_cons_zero, List.set_cons_succ])
  refine wpAnyH_take (i := 11) (v := ?_) rfl (by kernel_rfl) (by kernel_rfl) (by kernel_rfl) (fun _ _ _ h => h) (Or.inl ⟨by rfl, ?_⟩) (by assumption) ?_
  rotate_left
  · intro w hSw
    (try dsimp only at hSw)
    go_simp
    all_goals (with_reducible rfl)
  (try simp only [Act.put, List.getElem_toArray, List.getElem_cons_succ, List.getElem_cons_zero, List.setIfInBounds_toArray, List.set_cons_zero, List.set_cons_succ])
  refine wpAnyH_take (i := 12) (v := ?_) rfl (by kernel_rfl) (by kernel_rfl) (by kernel_rfl) (fun _ _ _ h => h) (Or.inl ⟨by rfl, ?_⟩) (by assumption) ?_
  rotate_left
  · intro w hSw
    (try dsimp only at hSw)
    have cc := hSw.2.1
    go_simp
    all_goals (with_reducible rfl)
  (try simp only [Act.put, List.getElem_toArray, List.getElem_cons_succ, List.getElem_cons_zero, List.setIfInBounds_toArray, List.set_cons_zero, List.set_cons_succ])
  refine wpAnyH_take (i := 13) (v := ?_) rfl (by kernel_rfl) (by kernel_rfl) (by kernel_rfl) (fun _ _ _ h => h) (Or.inl ⟨by rfl, ?_⟩) (by assumption) ?_
  rotate_left
  · intro w hSw
    (try dsimp only at hSw)
    go_simp
    all_goals (with_reducible rfl)
  (try simp only [Act.put, List.getElem_toArray, List.getElem_cons_succ, List.getElem_cons_zero, List.setIfInBounds_toArray, List.set_cons_zero, List.set_cons_succ])
  refine wpAnyH_take (i := 14) (v := ?_) rfl (by kernel_rfl) (by kernel_rfl) (by kernel_rfl) (fun _ _ _ h => h) (Or.inl ⟨by rfl, ?_⟩) (by assumption) ?_
  rotate_left
  · intro w hSw
    (try dsimp only at hSw)
    have cc := hSw.2.2.1
    go_simp
    all_goals (with_reducible rfl)
  (try simp only [Act.put, List.getElem_toArray, List.getElem_cons_succ, List.getElem_cons_zero, List.setIfInBounds_toArray, List.set_cons_zero, List.set_cons_succ])
  refine wpAnyH_take (i := 15) (v := ?_) rfl (by kernel_rfl) (by kernel_rfl) (by kernel_rfl) (fun _ _ _ h => h) (Or.inl ⟨by rfl, ?_⟩) (by assumption) ?_
  rotate_left
  · intro w hSw
    (try dsimp only at hSw)
    go_simp
    all_goals (with_reducible rfl)
  (try simp only [Act.put, List.getElem_toArray, List.getElem_cons_succ, List.getElem_cons_zero, List.setIfInBounds_toArray, List.set_cons_zero, List.set_cons_succ])
  refine wpAnyH_take (i := 16) (v := ?_) rfl (by kernel_rfl) (by kernel_rfl) (by kernel_rfl) (fun _ _ _ h => h) (Or.inl ⟨by rfl, ?_⟩) (by assumption) ?_
  rotate_left
  · intro w hSw
    (try dsimp only at hSw)
    have cc := hSw.2.2.2
    go_simp
    all_goals (with_reducible rfl)
  (try simp only [Act.put, List.getElem_toArray, List.getElem_cons_succ, List.getElem_cons_zero, List.setIfInBounds_toArray, List.set_cons_zero, List.set_cons_succ])
  refine wpAnyH_ready (rs := [8]) (by kernel_rfl) (by simp) ?_
  refine AllReadyH.cons rfl (fun K hK => ?_) AllReadyH.nil
  (try rw [if_pos (by rfl)])
  go_simp
  refine HW1.out.mono ?_
  rintro e w1 ⟨rfl, F1, T1, b1, z1⟩
  refine hK.out _ _ ?_ (fun hHeld => ?_)
  · exact ⟨b1.c0, b1.c2, z1.kp.cell hHeld.2.2.1 HBA.out, z1.kp.cell hHeld.2.2.2 HBA.out⟩
  clear hK K
  (try simp only [Act.put, List.getElem_toArray, List.getElem_cons_succ, List.getElem_cons_zero, List.setIfInBounds_toArray, List.set_cons_zero, List.set_cons_succ])
  refine wpAnyH_ready (rs := [17]) (by kernel_rfl) (by simp) ?_
  refine AllReadyH.cons rfl (fun K hK => ?_) AllReadyH.nil
  (try rw [if_pos (by rfl)])
  go_simp
  refine (b1.write2 many b _ (HBD.out.oldB z1 HB2.out) HM2.out (by omega) (by omega)).mono ?_
  rintro e w2 ⟨rfl, F2, T2, b2, z2⟩
  have hba1 : ¬ gset F1 bx pl pm w.heap.size := fun hg => (z1.g _ hg).elim HBA.out fun hge => by have := KZ.out; omega
  refine hK.out _ _ ?_ (fun hHeld => ?_)
  · exact ⟨b2.c0, b2.c2, z2.kp.cell hHeld.2.2.1 hba1, z2.kp.cell hHeld.2.2.2 hba1⟩
  clear hK K
  (try simp only [Act.put, List.getElem_toArray, List.getElem_cons_succ, List.getElem_cons_zero, List.setIfInBounds_toArray, List.set_cons_zero, List.set_cons_succ])
  refine wpAnyH_take (i := 18) (v := ?_) rfl (by kernel_rfl) (by kernel_rfl) (by kernel_rfl) (fun _ _ _ h => h) (Or.inl ⟨by rfl, ?_⟩) (by assumption) ?_
  rotate_left
  · intro w hSw
    (try dsimp only at hSw)
    go_simp
    all_goals (with_reducible rfl)
  (try simp only [Act.put, List.getElem_toArray, List.getElem_cons_succ, List.getElem_cons_zero, List.setIfInBounds_toArray, List.set_cons_zero, List.set_cons_succ])
  refine wpAnyH_take (i := 19) (v := ?_) rfl (by kernel_rfl) (by kernel_rfl) (by kernel_rfl) (fun _ _ _ h => h) (Or.inl ⟨by rfl, ?_⟩) (by assumption) ?_
  rotate_left
  · intro w hSw
    (try dsimp only at hSw)
    go_simp
    all_goals (with_reducible rfl)
  (try simp only [Act.put, List.getElem_toArray, List.getElem_cons_succ, List.getElem_cons_zero, List.setIfInBounds_toArray, List.set_cons_zero, List.set_cons_succ])
  refine wpAnyH_take (i := 20) (v := ?_) rfl (by kernel_rfl) (by kernel_rfl) (by kernel_rfl) (fun _ _ _ h => h) (Or.inl ⟨by rfl, ?_⟩) (by assumption) ?_
  rotate_left
  · intro w hSw
    (try dsimp only at hSw)
    go_simp
    all_goals (with_reducible rfl)
  (try simp only [Act.put, List.getElem_toArray, List.getElem_cons_succ, List.getElem_cons_zero, List.setIfInBounds_toArray, List.set_cons_zero, List.set_cons_succ])
  have hba2 : ¬ gset F2 bx pl pm w.heap.size := fun hg => ((z1.trans z2).g _ hg).elim HBA.out fun hge => by have := KZ.out; omega
  refine wpAnyH_ready (rs := [21]) (by kernel_rfl) (by simp) ?_
  refine AllReadyH.cons rfl (fun K hK => ?_) AllReadyH.nil
  (try rw [if_pos (by rfl)])
  go_simp
  refine (recovers_calls b2 hwf).mono ?_
  rintro e w3 ⟨rfl, F3, T3, D3, X3, pl3, pm3, b3, z3, hc3, hw3⟩
  refine hK.out _ _ ?_ (fun hHeld => ?_)
  · exact ⟨b3.c0, b3.c2, z3.kp.cell hHeld.2.2.1 hba2, z3.kp.cell hHeld.2.2.2 hba2⟩
  clear hK K
  (try simp only [Act.put, List.getElem_toArray, List.getElem_cons_succ, List.getElem_cons_zero, List.setIfInBounds_toArray, List.set_cons_zero, List.set_cons_succ])
  refine wpAnyH_take (i := 22) (v := ?_) rfl (by kernel_rfl) (by kernel_rfl) (by kernel_rfl) (fun _ _ _ h => h) (Or.inl ⟨by rfl, ?_⟩) (by assumption) ?_
  rotate_left
  · intro w hSw
    (try dsimp only at hSw)
    go_simp
    all_goals (with_reducible rfl)
  (try simp only [Act.put, List.getElem_toArray, List.getElem_cons_succ, List.getElem_cons_zero, List.setIfInBounds_toArray, List.set_cons_zero, List.set_cons_succ])
  refine wpAnyH_take (i := 23) (v := ?_) rfl (by kernel_rfl) (by kernel_rfl) (by kernel_rfl) (fun _ _ _ h => h) (Or.inl ⟨by rfl, ?_⟩) (by assumption) ?_
  rotate_left
  · intro w hSw
    (try dsimp only at hSw)
    go_simp
    all_goals (with_reducible rfl)
  (try simp only [Act.put, List.getElem_toArray, List.getElem_cons_succ, List.getElem_cons_zero, List.setIfInBounds_toArray, List.set_cons_zero, List.set_cons_succ])
  refine wpAnyH_done (by kernel_rfl) ?_ _
  go_simp
  have Z := Lib.hid (((XStep.of_nob KAL.out).trans (XStep.of_nob KDR.out)).trans ((z1.trans z2).trans z3))
  have B3 := Lib.hid b3
  clear hHeld z1 z2 z3 b1 b2 b3 c0 c2 x1 x2 hba1 hba2
  go_wp2_with fail
  go_ret
  exact ⟨rfl, F3, T3, D3, X3, _, _, B3.out, Z.out, hc3.trans HFIT.out.1, Nat.le_trans hw3 HFIT.out.2⟩
set_option maxRecDepth 100000 in
set_option maxHeartbeats 8000000 in
theorem one_idle {wh : Int} (j0 : (wh == 0) = false) (j1 : (wh == 1) = false) (j2 : (wh == 2) = false) (j3 : (wh == 3) = false) (j4 : (wh == 4) = false) (j5 : (wh == 5) = false) (j6 : (wh == 6) = false) (j7 : (wh == 7) = false) (j8 : (wh == 8) = false) (j9 : (wh == 9) = false) (h : OneArg w0 w bx p r F T D X pl pm many b keep B1 B2 d1 d2) :
    Calls Tryd.prog 38 #[.pointer (some ⟨bx, 0, none⟩), .agg #[.int .i64 wh, .int .i64 many, .slice B1 b.length d1, .slice B2 keep.length d2]] w (OnePost w0 bx p r F w D pl pm) := by
  have hba : ¬ gset F bx pl pm w.heap.size := fun hg => absurd (h.both.lt _ hg) (Nat.lt_irrefl _)
  have kal : Kp NoB w (w.alloc (.cells #[.int .i64 wh, .int .i64 many, .slice B1 b.length d1, .slice B2 keep.length d2] 71)) := (Kp.refl _ _).alloc _
  obtain ⟨x1, x2, x3, hz⟩ := actc_cells w wh many (.slice B1 b.length d1) (.slice B2 keep.length d2) 71
  have hA := h.nob kal
  have c0 := hA.both.c0
  have c1 := hA.both.c1
  have c2 := hA.both.c2
  have c3 := hA.both.c3
  have HA := Lib.hid hA
  have KAL := Lib.hid kal
  have HZ := Lib.hid hz
  have HBA := Lib.hid hba
  clear h hA kal hz hba
  clear c0 c1 c2 c3 x1 x2 x3
  go_enter Tryd.func38, Tryd.ntmps38
  go_wp2_with fail
  go_ret
  exact ⟨rfl, F, T, D, X, _, _, HA.out.both, XStep.of_nob KAL.out, rfl, Nat.le_succ _⟩
theorem lone_calls (h : BothAt w0 w bx p r F T D D X X pl pm) (x : AR) (u1 u2 : Value) (hb : BS (fun k => k < w0.heap.size) w u1 x.b) (hk : Vals (fun k => k < w0.heap.size) w u2 (x.keep.map (.int .i64))) (hx : x.ok) (hbl : x.b.length ≤ 60) (hw : D.waits.length ≤ 50000) :
    Calls Tryd.prog 38 #[.pointer (some ⟨bx, 0, none⟩), .agg #[.int .i64 x.what, .int .i64 x.many, u1, u2]] w (OnePost w0 bx p r F w D pl pm) := by
  obtain ⟨wh, many, b, keep⟩ := x
  obtain ⟨hi1, hi2, hi3⟩ := hx
  obtain ⟨B1, d1, rfl⟩ := hb.len
  obtain ⟨B2, d2, rfl⟩ := hk.len
  rw [List.length_map] at *
  simp only at hi1 hi2 hi3 hb hk hbl ⊢
  have ha : OneArg w0 w bx p r F T D X pl pm many b keep B1 B2 d1 d2 := ⟨h, hb, hk, hi2, hi3, hbl, hw⟩
  by_cases h5 : wh = 0 ∨ wh = 1 ∨ wh = 2 ∨ wh = 3 ∨ wh = 4
  · cases X with
    | none => exact one_append_none h5 ha
    | some x => exact one_append_some h5 ha
  by_cases e5 : wh = 5
  · subst e5
    cases X with
    | none => exact one_sync_none ha
    | some x => exact one_sync_some ha
  by_cases e6 : wh = 6
  · subst e6; exact one_crash ha
  by_cases e7 : wh = 7
  · subst e7; exact one_fill ha
  by_cases e8 : wh = 8
  · subst e8; exact one_rec ha
  by_cases e9 : wh = 9
  · subst e9; exact one_write ha
  exact one_idle (by simp; omega) (by simp; omega) (by simp; omega) (by simp; omega) (by simp; omega) (by simp; omega) (by simp; omega) (by simp; omega) (by simp; omega) (by simp; omega) ha
end
end Go.Proofs.YtgjaggnpheoehaaDoor
