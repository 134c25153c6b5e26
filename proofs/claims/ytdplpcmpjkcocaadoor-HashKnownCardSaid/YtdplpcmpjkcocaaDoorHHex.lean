/- HashKnown's closure hex. -/
import Derived.Test.YtdplpcmpjkcocaaDoorHMany
import Derived.Deep.RegionHeld3
import Derived.Shelf.RegionOpen
set_option linter.unusedVariables false
set_option linter.unusedSimpArgs false
namespace Go.Proofs.YtdplpcmpjkcocaaDoor
open Go.RowKit

section
variable {P : Program} {t e : TypeId} (B : ByteT P t e)
include B
theorem owp_string {W : World} {o : Oper} {a : Act} {K : Act → World → Prop} {Q : Exit → Act → World → Prop} (x : Operand) (dst : TypeId) (hd : P.underlying dst = some .string) (ho : o.op = .convert t dst x) (S : Nat → Prop) (v : Value) (l : List UInt8) (hx : a.eval x = v) (hv : BS S W v l)
    (h : K (a.put o.dst (.string ⟨l.toArray⟩)) W) : o.wp P a W K Q := by
  have hr : (execOp a.eval o).run P W = .ok (.value (.string ⟨l.toArray⟩)) W := by simp [execOp, ho, hx, run_string B hv dst hd, Result.andThen]
  unfold Oper.wp
  rw [hr]
  exact h
end
theorem idx20 (l : List UInt8) (hl : l.length = 20) (t : Nat) (ht : t < 20) (W : World) : (Instr.index 23 (.agg (bvs l).toArray) (.int .i64 (t : Int))).run Tryd.prog W = .ok (.int .u8 ((l.getD t 0).toNat : Int)) W := by
  have hg2 : (bvs l)[t]? = some (.int .u8 ((l.getD t 0).toNat : Int)) := by
    rw [bvs_get l t (by omega), List.getD_eq_getElem?_getD, List.getElem?_eq_getElem (by omega)]
    rfl
  simp [Instr.index, go_sem, Tryd.underlying23, ht, hg2]
theorem hexL_snoc (l : List UInt8) (k : Nat) (h : k < l.length) : hexL (l.take (k + 1)) = hexL (l.take k) ++ [hexD ((l.getD k 0).toNat / 16), hexD ((l.getD k 0).toNat % 16)] := by
  unfold hexL
  rw [List.take_succ_eq_append_getElem h, List.flatMap_append, List.getD_eq_getElem?_getD, List.getElem?_eq_getElem h]
  simp
theorem hexL_length : ∀ l : List UInt8, (hexL l).length = 2 * l.length
  | [] => rfl
  | c :: l => by
    have := hexL_length l
    simp only [hexL, List.flatMap_cons, List.length_append, List.length_cons, List.length_nil] at this ⊢
    omega
set_option maxRecDepth 100000 in
set_option maxHeartbeats 2000000 in
theorem hex_calls (l : List UInt8) (hl : l.length = 20) (w : World) :
    Calls Tryd.prog 12 #[.agg (bvs l).toArray] w fun e w' => e = .returned (.string ⟨(hexL l).toArray⟩) ∧ Kp NoB w w' := by
  have a1 := Arr.made 23 w (bvs l) (by rw [bvs_length, hl]; decide)
  have k1 : Kp NoB w (w.alloc (.cells (bvs l).toArray 23)) := (Kp.refl _ _).alloc _
  have hr1 := a1.range
  have HL := Lib.hid hl
  have HR1 := Lib.hid hr1
  have K1 := Lib.hid k1
  clear a1 k1 hr1 hl
  go_enter Tryd.func12, Tryd.ntmps12
  go_wp2_with (first
    | ((with_reducible refine gate_dst (N := 6) rfl ?_); go_must (refine wpList_load_mid rfl 23 _ rfl w.heap.size 0 rfl (bvs l) _ HR1.out Tryd.underlying23 rfl (by rw [bvs_length, HL.out]; kernel_rfl) ?_))
    | fail)
  have k1 := K1.out
  generalize w.alloc (.cells (bvs l).toArray 23) = w1 at *
  clear HR1 K1
  go_loopw [3, 7] (fun s i wr => ∃ k : Nat, k ≤ 20 ∧ i = .int .i64 (k : Int) ∧ s = .string ⟨(hexL (l.take k)).toArray⟩ ∧ Kp NoB w wr) (fun _ i _ => 20 - (intOf i).toNat)
  case atStart => exact ⟨0, Nat.zero_le _, rfl, rfl, k1⟩
  case round =>
    obtain ⟨k, hk, rfl, rfl, hq⟩ := hrel
    clear k1
    by_cases hlt : k < 20
    · have hix := idx20 l HL.out k hlt
      have hsn := hexL_snoc l k (by rw [HL.out]; exact hlt)
      have hx := (l.getD k 0).toNat_lt
      have hle : (hexL (l.take k)).length ≤ 40 := by rw [hexL_length]; simp; omega
      generalize l.getD k 0 = c at *
      generalize hh1 : hexL (l.take (k + 1)) = h1 at *
      generalize hexL (l.take k) = h0 at *
      have d1 := digit_at (c.toNat / 16) (by omega)
      have d2 := digit_at (c.toNat % 16) (by omega)
      generalize hexD (c.toNat / 16) = x1 at *
      generalize hexD (c.toNat % 16) = x2 at *
      have e1 : ((c.toNat / 16 : Nat) : Int) = (c.toNat : Int) / 16 := rfl
      rw [e1] at d1
      have e2 : ((c.toNat % 16 : Nat) : Int) = (c.toNat : Int) % 16 := rfl
      rw [e2] at d2
      have e3 : bits .and .u8 (c.toNat : Int) 15 = (c.toNat : Int) % 16 := by
        have h := u8_and_nat c.toNat 15 (by omega) (by decide)
        rw [show c.toNat &&& 15 = c.toNat % 16 from Nat.and_two_pow_sub_one_eq_mod c.toNat 4] at h
        exact h
      clear e1 e2
      have hle9 : ¬ (9223372036854775807 < h0.length + 2) := by omega
      have HSN := Lib.hid hsn
      have HH1 := Lib.hid hh1
      have HQ := Lib.hid hq
      clear hsn hh1 hq
      go_wp2_with fail
      -- <R
      refine wp_region_held_drew (S := (fun w' => Kp NoB wr w')) (by kernel_rfl) (Kp.refl _ _).drew (fun hHeld => ?_)
      refine wpAnyH_take (i := 0) (v := ?_) rfl (by kernel_rfl) (by kernel_rfl) (by kernel_rfl) (fun _ _ _ h => h) (Or.inl ⟨by rfl, ?_⟩) (by assumption) ?_
      rotate_left
      · intro w hSw
        (try dsimp only at hSw)
        go_simp
        all_goals (with_reducible rfl)
      (try simp only [Act.put, List.getElem_toArray, List.getElem_cons_succ, List.getElem_cons_zero, List.setIfInBounds_toArray, List.set_cons_zero, List.set_cons_succ])
      refine wpAnyH_take (i := 1) (v := ?_) rfl (by kernel_rfl) (by kernel_rfl) (by kernel_rfl) (fun _ _ _ h => h) (Or.inl ⟨by rfl, ?_⟩) (by assumption) ?_
      rotate_left
      · intro w hSw
        (try dsimp only at hSw)
        go_simp
        all_goals (with_reducible rfl)
      (try simp only [Act.put, List.getElem_toArray, List.getElem_cons_succ, List.getElem_cons_zero, List.setIfInBounds_toArray, List.set_cons_zero, List.set_cons_succ])
      refine wpAnyH_take (i := 2) (v := ?_) rfl (by kernel_rfl) (by kernel_rfl) (by kernel_rfl) (fun _ _ _ h => h) (Or.inl ⟨by rfl, ?_⟩) (by assumption) ?_
      rotate_left
      · intro w hSw
        (try dsimp only at hSw)
        go_simp
        all_goals (with_reducible rfl)
      (try simp only [Act.put, List.getElem_toArray, List.getElem_cons_succ, List.getElem_cons_zero, List.setIfInBounds_toArray, List.set_cons_zero, List.set_cons_succ])
      refine wpAnyH_take (i := 3) (v := ?_) rfl (by kernel_rfl) (by kernel_rfl) (by kernel_rfl) (fun _ _ _ h => h) (Or.inl ⟨by rfl, ?_⟩) (by assumption) ?_
      rotate_left
      · intro w hSw
        (try dsimp only at hSw)
        go_simp
        all_goals (with_reducible rfl)
      (try simp only [Act.put, List.getElem_toArray, List.getElem_cons_succ, List.getElem_cons_zero, List.setIfInBounds_toArray, List.set_cons_zero, List.set_cons_succ])
      refine wpAnyH_take (i := 4) (v := ?_) rfl (by kernel_rfl) (by kernel_rfl) (by kernel_rfl) (fun _ _ _ h => h) (Or.inl ⟨by rfl, ?_⟩) (by assumption) ?_
      rotate_left
      · intro w hSw
        (try dsimp only at hSw)
        go_simp
        all_goals (with_reducible rfl)
      (try simp only [Act.put, List.getElem_toArray, List.getElem_cons_succ, List.getElem_cons_zero, List.setIfInBounds_toArray, List.set_cons_zero, List.set_cons_succ])
      refine wpAnyH_take (i := 5) (v := ?_) rfl (by kernel_rfl) (by kernel_rfl) (by kernel_rfl) (fun _ _ _ h => h) (Or.inl ⟨by rfl, ?_⟩) (by assumption) ?_
      rotate_left
      · intro w hSw
        (try dsimp only at hSw)
        go_simp
        all_goals (with_reducible rfl)
      (try simp only [Act.put, List.getElem_toArray, List.getElem_cons_succ, List.getElem_cons_zero, List.setIfInBounds_toArray, List.set_cons_zero, List.set_cons_succ])
      refine wpAnyH_take (i := 6) (v := ?_) rfl (by kernel_rfl) (by kernel_rfl) (by kernel_rfl) (fun _ _ _ h => h) (Or.inl ⟨by rfl, ?_⟩) (by assumption) ?_
      rotate_left
      · intro w hSw
        (try dsimp only at hSw)
        go_simp
        all_goals (with_reducible rfl)
      (try simp only [Act.put, List.getElem_toArray, List.getElem_cons_succ, List.getElem_cons_zero, List.setIfInBounds_toArray, List.set_cons_zero, List.set_cons_succ])
      refine wpAnyH_ready (rs := [7]) (by kernel_rfl) (by simp) ?_
      refine AllReadyH.cons rfl (fun K hK => ?_) AllReadyH.nil
      (try rw [if_pos (by rfl)])
      go_simp
      refine hK.out _ _ ?_ (fun hHeld => ?_)
      · exact hHeld.alloc _
      clear hK K
      (try simp only [Act.put, List.getElem_toArray, List.getElem_cons_succ, List.getElem_cons_zero, List.setIfInBounds_toArray, List.set_cons_zero, List.set_cons_succ])
      refine wpAnyH_ready (rs := [8]) (by kernel_rfl) (by simp) ?_
      refine AllReadyH.cons rfl (fun K hK => ?_) AllReadyH.nil
      (try rw [if_pos (by rfl)])
      refine owp_string byteT _ 9 Tryd.underlying9 rfl AllB _ [x1, x2] rfl (BS.lit _ _ _ _ [x1, x2] 2 rfl rfl (by simp)).all ?_
      refine hK.out _ _ ?_ (fun hHeld => ?_)
      · exact hHeld
      clear hK K
      (try simp only [Act.put, List.getElem_toArray, List.getElem_cons_succ, List.getElem_cons_zero, List.setIfInBounds_toArray, List.set_cons_zero, List.set_cons_succ])
      refine wpAnyH_take (i := 9) (v := ?_) rfl (by kernel_rfl) (by kernel_rfl) (by kernel_rfl) (fun _ _ _ h => h) (Or.inl ⟨by rfl, ?_⟩) (by assumption) ?_
      rotate_left
      · intro w hSw
        (try dsimp only at hSw)
        go_simp
        all_goals (with_reducible rfl)
      (try simp only [Act.put, List.getElem_toArray, List.getElem_cons_succ, List.getElem_cons_zero, List.setIfInBounds_toArray, List.set_cons_zero, List.set_cons_succ])
      refine wpAnyH_take (i := 10) (v := ?_) rfl (by kernel_rfl) (by kernel_rfl) (by kernel_rfl) (fun _ _ _ h => h) (Or.inl ⟨by rfl, ?_⟩) (by assumption) ?_
      rotate_left
      · intro w hSw
        (try dsimp only at hSw)
        go_simp
        all_goals (with_reducible rfl)
      (try simp only [Act.put, List.getElem_toArray, List.getElem_cons_succ, List.getElem_cons_zero, List.setIfInBounds_toArray, List.set_cons_zero, List.set_cons_succ])
      refine wpAnyH_done (by kernel_rfl) ?_ _
      go_simp
      go_wp2_with fail
      -- R>
      go_roundw
      case measure => simp [intOf]; omega
      case rel => exact ⟨k + 1, by omega, by go_num, by rw [HH1.out, HSN.out, bytes_append], (HQ.out.drew).alloc _⟩
    · obtain rfl : k = 20 := by omega
      rw [List.take_of_length_le (by rw [HL.out]; exact Nat.le_refl _)]
      go_wp2_with fail
      go_ret
      exact ⟨rfl, hq⟩
end Go.Proofs.YtdplpcmpjkcocaaDoor
