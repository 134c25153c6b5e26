/- The walk of the law HashBlocks: it returns true. -/
import Derived.Test.YtdplpcmpjkcocaaDoorShaT
import Derived.Test.YtdplpcmpjkcocaaDoorShaEq
import Derived.Deep.RegionHeld3
import Derived.Shelf.RegionOpen
set_option linter.unusedVariables false
set_option linter.unusedSimpArgs false
namespace Go.Proofs.YtdplpcmpjkcocaaDoor
open Go.RowKit

theorem BS.empty (S : Nat → Prop) (w : World) (A : Addr) : BS S w (.slice (some A) 0 0) [] := ⟨some A, 0, rfl, Nat.le_refl _, by decide, (fun h => by cases h), fun h => absurd h (by simp)⟩
theorem sha_none_ne : shaN [] ≠ z20 := by rw [sha_none]; decide

set_option maxRecDepth 100000 in
set_option maxHeartbeats 8000000 in
theorem hashBlocks_walk (lb : List UInt8) (vb : Value) (n : Nat) (w : World) (hT : HashOk w) (hn : n < 256) (hb : BS AllB w vb lb) :
    Calls Tryd.prog 5 #[vb, .int .u8 (n : Int)] w fun e w' => e = .returned (.bool true) ∧ Kp NoB w w' := by
  obtain ⟨kb, vb', hm2, hs2, hb'⟩ := BS.clip byteT hb 300 300 rfl
  have hbl : (lb.take 300).length ≤ 300 := by simp; omega
  obtain ⟨A2, c2, rfl⟩ := hb.len
  generalize lb.take 300 = b at *
  clear hb
  have HT := Lib.hid hT
  clear hT
  have hmk : ∀ W, (Instr.makeSlice 22 (.int .i64 (n : Int)) (.int .i64 (n : Int))).run Tryd.prog W = .ok (.slice (some ⟨W.heap.size, 0, none⟩) n n) (W.alloc (.cells (madeCells #[.int .u8 0] n) 5)) := fun W => make_bytes byteT n (by omega) W
  have os := Own.made 5 w n (by omega)
  have kA : Kp NoB w (w.alloc (.cells (madeCells #[.int .u8 0] n) 5)) := (Kp.refl _ _).alloc _
  obtain ⟨Ab, cb, rfl⟩ := hb'.len
  have HB := Lib.hid hb'
  have OS := Lib.hid os
  have KA := Lib.hid kA
  have hz := zero20
  clear hb' os kA
  go_enter Tryd.func5, Tryd.ntmps5
  go_wp2_with (first
    | ((with_reducible refine gate_dst (N := 17) rfl ?_); go_must (refine wp_appK (w0 := w) byteT NoB rfl _ _ rfl _ _ (List.replicate n 0) b rfl rfl AllB OS.out KA.out (HB.out.nob KA.out) (by simp; omega) ?_); intro v2 w2 ho2 hk2; obtain ⟨A3, c3, rfl⟩ := ho2.bs.len; have hbs := ho2.bs.all; rw [List.length_append, List.length_replicate] at hbs; have HO2 := Lib.hid hbs; clear hbs; have HK2 := Lib.hid hk2; clear ho2 hk2)
    | ((with_reducible refine gate_dst (N := 21) rfl ?_); go_must (refine wp_cutE byteT rfl _ _ rfl AllB _ _ rfl HO2.out n (by simp) .i64 rfl ?_); intro v3 hv3; rw [List.drop_left' (by simp)] at hv3; have HV3 := Lib.hid hv3; clear hv3)
    | fail)
  clear hm2 hs2 hmk
  have a7 := Arr.made 23 w2 (bvs z20) (by rw [bvs_length]; decide)
  have k7 : Kp NoB w2 (w2.alloc (.cells (bvs z20).toArray 23)) := (Kp.refl _ _).alloc _
  have hb4 := (HB.out.nob HK2.out).nob k7
  have hv4 := HV3.out.nob k7
  have ht4 := (HT.out.nob HK2.out).nob k7
  have K04 := Lib.hid (HK2.out.trans k7)
  generalize w2.alloc (.cells (bvs z20).toArray 23) = w4 at *
  have C7a : ∀ W, Kp NoB w4 W → Calls Tryd.prog 7 #[v3] W fun e w' => e = .returned (.agg (bvs (shaN b)).toArray) ∧ Kp NoB W w' := fun W k => sha_calls b v3 W (ht4.nob k) (hv4.nob k) (by omega)
  have C7b : ∀ W, Kp NoB w4 W → Calls Tryd.prog 7 #[.slice Ab b.length cb] W fun e w' => e = .returned (.agg (bvs (shaN b)).toArray) ∧ Kp NoB W w' := fun W k => sha_calls b _ W (ht4.nob k) (hb4.nob k) (by omega)
  have C9a : ∀ W, Kp NoB w4 W → Calls Tryd.prog 9 #[.slice none 0 0, v3] W fun e w' => e = .returned (.agg (bvs (hmacN [] b)).toArray) ∧ Kp NoB W w' := fun W k => hmac_calls [] b _ v3 W (ht4.nob k) (BS.nil _ _) (hv4.nob k) (by simp) (by omega)
  have C9b : ∀ W A, Kp NoB w4 W → Calls Tryd.prog 9 #[.slice (some A) 0 0, .slice Ab b.length cb] W fun e w' => e = .returned (.agg (bvs (hmacN [] b)).toArray) ∧ Kp NoB W w' := fun W A k => hmac_calls [] b _ _ W (ht4.nob k) (BS.empty _ _ A) (hb4.nob k) (by simp) (by omega)
  obtain ⟨S0, hS0, hl0, hn0⟩ : ∃ S0, S0 = shaN [] ∧ S0.length = 20 ∧ S0 ≠ z20 := ⟨_, rfl, shaN_length _, sha_none_ne⟩
  have C7n : ∀ W, Kp NoB w4 W → Calls Tryd.prog 7 #[.slice none 0 0] W fun e w' => e = .returned (.agg (bvs S0).toArray) ∧ Kp NoB W w' := fun W k => by rw [hS0]; exact sha_calls [] _ W (ht4.nob k) (BS.nil _ _) (by simp)
  have C11 : ∀ W, Kp NoB w4 W → Calls Tryd.prog 11 #[] W fun e w' => e = .returned (.bool true) ∧ Kp NoB W w' := fun W k => tells_calls W (ht4.nob k)
  have HLS := Lib.hid (shaN_length b)
  have HLM : Hid ((hmacN [] b).length = 20) := Lib.hid (shaN_length _)
  have HL0 := Lib.hid hl0
  have HN0 := Lib.hid hn0
  have hld := fun W (k : Kp NoB w4 W) => (a7.nob k).range
  have LD := Lib.hid hld
  generalize shaN b = S1 at *
  generalize hmacN [] b = M1 at *
  clear hS0 hl0 hn0
  clear hz hld a7 k7 HB HV3 hb4 hv4 ht4 OS KA
  generalize hg7 : w2.heap.size = g7 at *
  clear hg7
  go_wp2_with fail
  refine wp_region_held_drew (S := (fun w' => Kp NoB w4 w')) (by kernel_rfl) (Kp.refl _ _).drew (fun hHeld => ?_)
  refine wpAnyH_take (i := 0) (v := ?_) rfl (by kernel_rfl) (by kernel_rfl) (by kernel_rfl) (fun _ _ _ h => h) (Or.inl ⟨by rfl, ?_⟩) (by assumption) ?_
  rotate_left
  · intro w hSw
    (try dsimp only at hSw)
    go_simp
    all_goals (with_reducible rfl)
  (try simp only [Act.put, List.setIfInBounds_toArray, List.set_cons_zero, List.set_cons_succ])
  refine wpAnyH_take (i := 2) (v := ?_) rfl (by kernel_rfl) (by kernel_rfl) (by kernel_rfl) (fun _ _ _ h => h) (Or.inl ⟨by rfl, ?_⟩) (by assumption) ?_
  rotate_left
  · intro w hSw
    (try dsimp only at hSw)
    go_simp
    all_goals (with_reducible rfl)
  (try simp only [Act.put, List.setIfInBounds_toArray, List.set_cons_zero, List.set_cons_succ])
  refine wpAnyH_ready (rs := [1]) (by kernel_rfl) (by simp) ?_
  refine AllReadyH.cons rfl (fun K hK => ?_) AllReadyH.nil
  (try rw [if_pos (by rfl)])
  go_simp
  refine (C7a _ hHeld).mono ?_
  rintro e w1 ⟨rfl, k1⟩
  refine hK.out _ _ ?_ (fun hHeld => ?_)
  · exact hHeld.trans k1
  clear hK K
  (try simp only [Act.put, List.setIfInBounds_toArray, List.set_cons_zero, List.set_cons_succ])
  refine wpAnyH_ready (rs := [3]) (by kernel_rfl) (by simp) ?_
  refine AllReadyH.cons rfl (fun K hK => ?_) AllReadyH.nil
  (try rw [if_pos (by rfl)])
  go_simp
  refine (C7b _ hHeld).mono ?_
  rintro e w2 ⟨rfl, k2⟩
  refine hK.out _ _ ?_ (fun hHeld => ?_)
  · exact hHeld.trans k2
  clear hK K
  (try simp only [Act.put, List.setIfInBounds_toArray, List.set_cons_zero, List.set_cons_succ])
  refine wpAnyH_take (i := 4) (v := .bool true) rfl (by kernel_rfl) (by kernel_rfl) (by kernel_rfl) (fun _ _ _ h => h) (yieldsIf_same20 (by rfl) _ _ _ rfl S1 rfl rfl HLS.out) (by assumption) ?_
  (try simp only [Act.put, List.setIfInBounds_toArray, List.set_cons_zero, List.set_cons_succ])
  refine wpAnyH_take (i := 5) (v := ?_) rfl (by kernel_rfl) (by kernel_rfl) (by kernel_rfl) (fun _ _ _ h => h) (Or.inl ⟨by rfl, ?_⟩) (by assumption) ?_
  rotate_left
  · intro w hSw
    (try dsimp only at hSw)
    go_simp
    all_goals (with_reducible rfl)
  (try simp only [Act.put, List.setIfInBounds_toArray, List.set_cons_zero, List.set_cons_succ])
  refine wpAnyH_take (i := 6) (v := ?_) rfl (by kernel_rfl) (by kernel_rfl) (by kernel_rfl) (fun _ _ _ h => h) (Or.inl ⟨by rfl, ?_⟩) (by assumption) ?_
  rotate_left
  · intro w hSw
    (try dsimp only at hSw)
    go_simp
    all_goals (with_reducible rfl)
  (try simp only [Act.put, List.setIfInBounds_toArray, List.set_cons_zero, List.set_cons_succ])
  refine wpAnyH_take (i := 9) (v := ?_) rfl (by kernel_rfl) (by kernel_rfl) (by kernel_rfl) (fun _ _ _ h => h) (Or.inl ⟨by rfl, ?_⟩) (by assumption) ?_
  rotate_left
  · intro w hSw
    (try dsimp only at hSw)
    go_simp
    all_goals (with_reducible rfl)
  (try simp only [Act.put, List.setIfInBounds_toArray, List.set_cons_zero, List.set_cons_succ])
  refine wpAnyH_ready (rs := [7, 8]) (by kernel_rfl) (by simp) ?_
  refine AllReadyH.cons rfl (fun K hK => ?_) (AllReadyH.cons rfl (fun K hK => ?_) AllReadyH.nil)
  · (try rw [if_pos (by rfl)])
    go_simp
    refine (C9a _ hHeld).mono ?_
    rintro e w3 ⟨rfl, k3⟩
    refine hK.out _ _ ?_ (fun hHeld => ?_)
    · exact hHeld.trans k3
    clear hK K
    (try simp only [Act.put, List.setIfInBounds_toArray, List.set_cons_zero, List.set_cons_succ])
    refine wpAnyH_ready (rs := [8]) (by kernel_rfl) (by simp) ?_
    refine AllReadyH.cons rfl (fun K hK => ?_) AllReadyH.nil
    (try rw [if_pos (by rfl)])
    go_simp
    refine hK.out _ _ ?_ (fun hHeld => ?_)
    · exact hHeld.alloc _
    clear hK K
    (try simp only [Act.put, List.setIfInBounds_toArray, List.set_cons_zero, List.set_cons_succ])
    refine wpAnyH_ready (rs := [10]) (by kernel_rfl) (by simp) ?_
    refine AllReadyH.cons rfl (fun K hK => ?_) AllReadyH.nil
    (try rw [if_pos (by rfl)])
    go_simp
    refine (C9b _ _ hHeld).mono ?_
    rintro e w5 ⟨rfl, k5⟩
    refine hK.out _ _ ?_ (fun hHeld => ?_)
    · exact hHeld.trans k5
    clear hK K
    (try simp only [Act.put, List.setIfInBounds_toArray, List.set_cons_zero, List.set_cons_succ])
    refine wpAnyH_take (i := 11) (v := .bool true) rfl (by kernel_rfl) (by kernel_rfl) (by kernel_rfl) (fun _ _ _ h => h) (yieldsIf_same20 (by rfl) _ _ _ rfl M1 rfl rfl HLM.out) (by assumption) ?_
    (try simp only [Act.put, List.setIfInBounds_toArray, List.set_cons_zero, List.set_cons_succ])
    refine wpAnyH_take (i := 12) (v := ?_) rfl (by kernel_rfl) (by kernel_rfl) (by kernel_rfl) (fun _ _ _ h => h) (Or.inl ⟨by rfl, ?_⟩) (by assumption) ?_
    rotate_left
    · intro w hSw
      (try dsimp only at hSw)
      go_simp
      all_goals (with_reducible rfl)
    (try simp only [Act.put, List.setIfInBounds_toArray, List.set_cons_zero, List.set_cons_succ])
    refine wpAnyH_take (i := 13) (v := ?_) rfl (by kernel_rfl) (by kernel_rfl) (by kernel_rfl) (fun _ _ _ h => h) (Or.inl ⟨by rfl, ?_⟩) (by assumption) ?_
    rotate_left
    · intro w hSw
      (try dsimp only at hSw)
      go_simp
      all_goals (with_reducible rfl)
    (try simp only [Act.put, List.setIfInBounds_toArray, List.set_cons_zero, List.set_cons_succ])
    refine wpAnyH_take (i := 15) (v := .agg (bvs z20).toArray) rfl (by kernel_rfl) (by kernel_rfl) (by kernel_rfl) (fun _ _ _ h => h) (yieldsIf_load_mid (by rfl) 23 _ rfl g7 0 rfl (bvs z20) _ LD.out Tryd.underlying23 rfl (by rw [bvs_length]; kernel_rfl)) (by assumption) ?_
    (try simp only [Act.put, List.setIfInBounds_toArray, List.set_cons_zero, List.set_cons_succ])
    refine wpAnyH_ready (rs := [14]) (by kernel_rfl) (by simp) ?_
    refine AllReadyH.cons rfl (fun K hK => ?_) AllReadyH.nil
    (try rw [if_pos (by rfl)])
    go_simp
    refine (C7n _ hHeld).mono ?_
    rintro e w6 ⟨rfl, k6⟩
    refine hK.out _ _ ?_ (fun hHeld => ?_)
    · exact hHeld.trans k6
    clear hK K
    (try simp only [Act.put, List.setIfInBounds_toArray, List.set_cons_zero, List.set_cons_succ])
    refine wpAnyH_take (i := 16) (v := .bool true) rfl (by kernel_rfl) (by kernel_rfl) (by kernel_rfl) (fun _ _ _ h => h) (yieldsIf_other20 (by rfl) _ _ _ rfl S0 z20 rfl rfl HL0.out rfl HN0.out) (by assumption) ?_
    (try simp only [Act.put, List.setIfInBounds_toArray, List.set_cons_zero, List.set_cons_succ])
    refine wpAnyH_take (i := 17) (v := ?_) rfl (by kernel_rfl) (by kernel_rfl) (by kernel_rfl) (fun _ _ _ h => h) (Or.inl ⟨by rfl, ?_⟩) (by assumption) ?_
    rotate_left
    · intro w hSw
      (try dsimp only at hSw)
      go_simp
      all_goals (with_reducible rfl)
    (try simp only [Act.put, List.setIfInBounds_toArray, List.set_cons_zero, List.set_cons_succ])
    refine wpAnyH_take (i := 18) (v := ?_) rfl (by kernel_rfl) (by kernel_rfl) (by kernel_rfl) (fun _ _ _ h => h) (Or.inl ⟨by rfl, ?_⟩) (by assumption) ?_
    rotate_left
    · intro w hSw
      (try dsimp only at hSw)
      go_simp
      all_goals (with_reducible rfl)
    (try simp only [Act.put, List.setIfInBounds_toArray, List.set_cons_zero, List.set_cons_succ])
    refine wpAnyH_ready (rs := [19]) (by kernel_rfl) (by simp) ?_
    refine AllReadyH.cons rfl (fun K hK => ?_) AllReadyH.nil
    (try rw [if_pos (by rfl)])
    go_simp
    refine (C11 _ hHeld).mono ?_
    rintro e w7 ⟨rfl, k7⟩
    refine hK.out _ _ ?_ (fun hHeld => ?_)
    · exact hHeld.trans k7
    clear hK K
    (try simp only [Act.put, List.setIfInBounds_toArray, List.set_cons_zero, List.set_cons_succ])
    refine wpAnyH_take (i := 20) (v := ?_) rfl (by kernel_rfl) (by kernel_rfl) (by kernel_rfl) (fun _ _ _ h => h) (Or.inl ⟨by rfl, ?_⟩) (by assumption) ?_
    rotate_left
    · intro w hSw
      (try dsimp only at hSw)
      go_simp
      all_goals (with_reducible rfl)
    (try simp only [Act.put, List.setIfInBounds_toArray, List.set_cons_zero, List.set_cons_succ])
    refine wpAnyH_take (i := 21) (v := ?_) rfl (by kernel_rfl) (by kernel_rfl) (by kernel_rfl) (fun _ _ _ h => h) (Or.inl ⟨by rfl, ?_⟩) (by assumption) ?_
    rotate_left
    · intro w hSw
      (try dsimp only at hSw)
      go_simp
      all_goals (with_reducible rfl)
    (try simp only [Act.put, List.setIfInBounds_toArray, List.set_cons_zero, List.set_cons_succ])
    refine wpAnyH_done (by kernel_rfl) ?_ _
    go_simp
    go_wp2
    go_ret
    exact ⟨rfl, K04.out.trans hHeld⟩
  · (try rw [if_pos (by rfl)])
    go_simp
    refine hK.out _ _ ?_ (fun hHeld => ?_)
    · exact hHeld.alloc _
    clear hK K
    (try simp only [Act.put, List.setIfInBounds_toArray, List.set_cons_zero, List.set_cons_succ])
    refine wpAnyH_ready (rs := [7]) (by kernel_rfl) (by simp) ?_
    refine AllReadyH.cons rfl (fun K hK => ?_) AllReadyH.nil
    (try rw [if_pos (by rfl)])
    go_simp
    refine (C9a _ hHeld).mono ?_
    rintro e w3 ⟨rfl, k3⟩
    refine hK.out _ _ ?_ (fun hHeld => ?_)
    · exact hHeld.trans k3
    clear hK K
    (try simp only [Act.put, List.setIfInBounds_toArray, List.set_cons_zero, List.set_cons_succ])
    refine wpAnyH_ready (rs := [10]) (by kernel_rfl) (by simp) ?_
    refine AllReadyH.cons rfl (fun K hK => ?_) AllReadyH.nil
    (try rw [if_pos (by rfl)])
    go_simp
    refine (C9b _ _ hHeld).mono ?_
    rintro e w5 ⟨rfl, k5⟩
    refine hK.out _ _ ?_ (fun hHeld => ?_)
    · exact hHeld.trans k5
    clear hK K
    (try simp only [Act.put, List.setIfInBounds_toArray, List.set_cons_zero, List.set_cons_succ])
    refine wpAnyH_take (i := 11) (v := .bool true) rfl (by kernel_rfl) (by kernel_rfl) (by kernel_rfl) (fun _ _ _ h => h) (yieldsIf_same20 (by rfl) _ _ _ rfl M1 rfl rfl HLM.out) (by assumption) ?_
    (try simp only [Act.put, List.setIfInBounds_toArray, List.set_cons_zero, List.set_cons_succ])
    refine wpAnyH_take (i := 12) (v := ?_) rfl (by kernel_rfl) (by kernel_rfl) (by kernel_rfl) (fun _ _ _ h => h) (Or.inl ⟨by rfl, ?_⟩) (by assumption) ?_
    rotate_left
    · intro w hSw
      (try dsimp only at hSw)
      go_simp
      all_goals (with_reducible rfl)
    (try simp only [Act.put, List.setIfInBounds_toArray, List.set_cons_zero, List.set_cons_succ])
    refine wpAnyH_take (i := 13) (v := ?_) rfl (by kernel_rfl) (by kernel_rfl) (by kernel_rfl) (fun _ _ _ h => h) (Or.inl ⟨by rfl, ?_⟩) (by assumption) ?_
    rotate_left
    · intro w hSw
      (try dsimp only at hSw)
      go_simp
      all_goals (with_reducible rfl)
    (try simp only [Act.put, List.setIfInBounds_toArray, List.set_cons_zero, List.set_cons_succ])
    refine wpAnyH_take (i := 15) (v := .agg (bvs z20).toArray) rfl (by kernel_rfl) (by kernel_rfl) (by kernel_rfl) (fun _ _ _ h => h) (yieldsIf_load_mid (by rfl) 23 _ rfl g7 0 rfl (bvs z20) _ LD.out Tryd.underlying23 rfl (by rw [bvs_length]; kernel_rfl)) (by assumption) ?_
    (try simp only [Act.put, List.setIfInBounds_toArray, List.set_cons_zero, List.set_cons_succ])
    refine wpAnyH_ready (rs := [14]) (by kernel_rfl) (by simp) ?_
    refine AllReadyH.cons rfl (fun K hK => ?_) AllReadyH.nil
    (try rw [if_pos (by rfl)])
    go_simp
    refine (C7n _ hHeld).mono ?_
    rintro e w6 ⟨rfl, k6⟩
    refine hK.out _ _ ?_ (fun hHeld => ?_)
    · exact hHeld.trans k6
    clear hK K
    (try simp only [Act.put, List.setIfInBounds_toArray, List.set_cons_zero, List.set_cons_succ])
    refine wpAnyH_take (i := 16) (v := .bool true) rfl (by kernel_rfl) (by kernel_rfl) (by kernel_rfl) (fun _ _ _ h => h) (yieldsIf_other20 (by rfl) _ _ _ rfl S0 z20 rfl rfl HL0.out rfl HN0.out) (by assumption) ?_
    (try simp only [Act.put, List.setIfInBounds_toArray, List.set_cons_zero, List.set_cons_succ])
    refine wpAnyH_take (i := 17) (v := ?_) rfl (by kernel_rfl) (by kernel_rfl) (by kernel_rfl) (fun _ _ _ h => h) (Or.inl ⟨by rfl, ?_⟩) (by assumption) ?_
    rotate_left
    · intro w hSw
      (try dsimp only at hSw)
      go_simp
      all_goals (with_reducible rfl)
    (try simp only [Act.put, List.setIfInBounds_toArray, List.set_cons_zero, List.set_cons_succ])
    refine wpAnyH_take (i := 18) (v := ?_) rfl (by kernel_rfl) (by kernel_rfl) (by kernel_rfl) (fun _ _ _ h => h) (Or.inl ⟨by rfl, ?_⟩) (by assumption) ?_
    rotate_left
    · intro w hSw
      (try dsimp only at hSw)
      go_simp
      all_goals (with_reducible rfl)
    (try simp only [Act.put, List.setIfInBounds_toArray, List.set_cons_zero, List.set_cons_succ])
    refine wpAnyH_ready (rs := [19]) (by kernel_rfl) (by simp) ?_
    refine AllReadyH.cons rfl (fun K hK => ?_) AllReadyH.nil
    (try rw [if_pos (by rfl)])
    go_simp
    refine (C11 _ hHeld).mono ?_
    rintro e w7 ⟨rfl, k7⟩
    refine hK.out _ _ ?_ (fun hHeld => ?_)
    · exact hHeld.trans k7
    clear hK K
    (try simp only [Act.put, List.setIfInBounds_toArray, List.set_cons_zero, List.set_cons_succ])
    refine wpAnyH_take (i := 20) (v := ?_) rfl (by kernel_rfl) (by kernel_rfl) (by kernel_rfl) (fun _ _ _ h => h) (Or.inl ⟨by rfl, ?_⟩) (by assumption) ?_
    rotate_left
    · intro w hSw
      (try dsimp only at hSw)
      go_simp
      all_goals (with_reducible rfl)
    (try simp only [Act.put, List.setIfInBounds_toArray, List.set_cons_zero, List.set_cons_succ])
    refine wpAnyH_take (i := 21) (v := ?_) rfl (by kernel_rfl) (by kernel_rfl) (by kernel_rfl) (fun _ _ _ h => h) (Or.inl ⟨by rfl, ?_⟩) (by assumption) ?_
    rotate_left
    · intro w hSw
      (try dsimp only at hSw)
      go_simp
      all_goals (with_reducible rfl)
    (try simp only [Act.put, List.setIfInBounds_toArray, List.set_cons_zero, List.set_cons_succ])
    refine wpAnyH_done (by kernel_rfl) ?_ _
    go_simp
    go_wp2
    go_ret
    exact ⟨rfl, K04.out.trans hHeld⟩
end Go.Proofs.YtdplpcmpjkcocaaDoor
