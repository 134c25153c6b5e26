/- A disk's bytes: bytes laid over others (over), a clone. -/
import Derived.Test.YtgjaggnpheoehaaDoorProg
import Derived.Test.YtgjaggnpheoehaaDoorBase
import Derived.Test.YtgjaggnpheoehaaDoorVals
import Derived.Laws.CopyOwn
set_option linter.unusedVariables false
set_option linter.unusedSimpArgs false
namespace Go.Proofs.YtgjaggnpheoehaaDoor
open Go.RowKit

theorem byteD : ByteT Tryd.prog 22 5 := ⟨Tryd.underlying22, by kernel_rfl, Tryd.underlying5⟩

/-- Bytes laid over others at a place, 0 between. -/
def padL (to : List UInt8) (n : Nat) : List UInt8 := to ++ List.replicate (n - to.length) 0
def patchL (l : List UInt8) (at' : Nat) (m : List UInt8) : List UInt8 := l.take at' ++ (m ++ l.drop (at' + m.length))
def overL (to : List UInt8) (at' : Nat) (b : List UInt8) : List UInt8 := if b.length = 0 then to else patchL (padL to (at' + b.length)) at' b
theorem length_padL (to : List UInt8) (n : Nat) : (padL to n).length = max to.length n := by simp [padL]; omega
theorem length_patchL (l : List UInt8) (at' : Nat) (m : List UInt8) (h : at' + m.length ≤ l.length) : (patchL l at' m).length = l.length := by simp [patchL]; omega
theorem length_overL (to : List UInt8) (at' : Nat) (b : List UInt8) : (overL to at' b).length = if b.length = 0 then to.length else max to.length (at' + b.length) := by
  unfold overL
  split
  · rfl
  · rw [length_patchL _ _ _ (by rw [length_padL]; omega), length_padL]
theorem patch_get (l : List UInt8) (at' : Nat) (m : List UInt8) (h : at' + m.length ≤ l.length) (k : Nat) : (patchL l at' m).getD k 0 = if at' ≤ k ∧ k < at' + m.length then m.getD (k - at') 0 else l.getD k 0 := by
  unfold patchL
  by_cases h1 : k < at'
  · rw [if_neg (by omega), List.getD_eq_getElem?_getD, List.getElem?_append_left (by simp; omega), List.getElem?_take_of_lt h1, ← List.getD_eq_getElem?_getD]
  · have hl : (l.take at').length = at' := by simp; omega
    rw [List.getD_eq_getElem?_getD, List.getElem?_append_right (by omega), hl]
    by_cases h2 : k < at' + m.length
    · rw [if_pos ⟨by omega, h2⟩, List.getElem?_append_left (by omega), ← List.getD_eq_getElem?_getD]
    · rw [if_neg (by omega), List.getElem?_append_right (by omega), List.getElem?_drop, ← List.getD_eq_getElem?_getD]
      congr 1
      omega
theorem pad_get (to : List UInt8) (n k : Nat) : (padL to n).getD k 0 = to.getD k 0 := by
  unfold padL
  rw [List.getD_eq_getElem?_getD, List.getD_eq_getElem?_getD]
  by_cases h : k < to.length
  · rw [List.getElem?_append_left h]
  · rw [List.getElem?_append_right (by omega), List.getElem?_eq_none (show to.length ≤ k by omega), List.getElem?_replicate]
    split <;> rfl
theorem over_get (to : List UInt8) (at' : Nat) (b : List UInt8) (k : Nat) : (overL to at' b).getD k 0 = if at' ≤ k ∧ k < at' + b.length then b.getD (k - at') 0 else to.getD k 0 := by
  unfold overL
  split
  · rw [if_neg (by omega)]
  · rw [patch_get _ _ _ (by rw [length_padL]; omega), pad_get]

section
variable {P : Program} {t e : TypeId} (B : ByteT P t e)
include B
variable {ops : Array Oper} {rest : List Oper} {o : Oper} {a : Act} {Q : Exit → Act → World → Prop}
/-- copy(v[at:], x) into an owned row. -/
theorem wp_copyB {W : World} (hgd : o.guard = none) (d s : Operand) (ho : o.op = .call { callee := .builtin .copy, args := #[d, s], argTypes := #[t, t] }) (base g n cap at' dLen dCap : Nat) (x : Value) (l m : List UInt8) (hd : a.eval d = .slice (some ⟨g, at', none⟩) dLen dCap) (hs : a.eval s = x)
    (S : Nat → Prop) (hown : Own e W base (.slice (some ⟨g, 0, none⟩) n cap) l) (hx : BS S W x m) (h0 : 0 < m.length) (hdl : m.length ≤ dLen) (hfit : at' + m.length ≤ l.length)
    (h : ∀ w', Own e w' base (.slice (some ⟨g, 0, none⟩) n cap) (patchL l at' m) → Kp (fun k => k = g) W w' → wpList P ops Q rest (a.put o.dst (goInt m.length)) w') : wpList P ops Q (o :: rest) a W := by
  obtain ⟨i0, hi, hzz⟩ := Option.map_eq_some_iff.1 B.info
  simp only [Prod.mk.injEq] at hzz
  obtain ⟨b, off, c, rfl, hmc, hcell⟩ := hx.pos m.length rfl h0
  obtain ⟨h1, h2⟩ := hown
  rcases h2 with ⟨he, _⟩ | ⟨g', cap', cur, he, hb, hg, h3, h4, h5, h6⟩
  · cases he
  · injection he with e1 e2 e3
    injection e1 with e1
    injection e1 with e1
    subst e1 e2 e3
    have hcs : cur.size = cap := by omega
    have hlen : (bvs m).length = m.length := bvs_length m
    have hg' := setRow_heap W g cur ((cur.toList.take at' ++ (bvs m ++ cur.toList.drop (at' + (bvs m).length))).toArray) e (0, 0) hg
    have hs' : (cur.toList.take at' ++ (bvs m ++ cur.toList.drop (at' + (bvs m).length))).length = cap := by simp [hlen, hcs]; omega
    have := wpList_copy_own (P := P) (Q := Q) (rest := rest) (ops := ops) hgd d s t t ho e B.sl (by rw [hi]; simp [hzz]) g at' dLen dCap ⟨b, off, none⟩ m.length c hd hs cur e hg (bvs m) (by rw [hlen]; exact (Nat.min_eq_left hdl).symm) (by
      intro j u hu
      have hj : j < m.length := by
        have := (List.getElem?_eq_some_iff.1 hu).1
        simpa [bvs] using this
      rw [bvs_get m j hj] at hu
      obtain rfl := Option.some.inj hu
      rw [Addr.add_lit]
      exact hcell j hj) (by rw [hlen, hcs]; omega) (bvs_one m)
    rw [hlen] at this hg' hs'
    refine this (h _ ?_ ?_)
    · have hpl := length_patchL l at' m hfit
      refine ⟨by rw [bvs_length, Nat.mul_one], .inr ⟨g, cap, _, by rw [hpl], hb, hg', by rw [hpl]; exact h3, h4, ?_, ?_⟩⟩
      · rw [List.size_toArray, hs', Nat.mul_one]
      · rw [hpl, Nat.mul_one]
        rw [Nat.mul_one] at h6
        have e1 : cur.toList.take at' = (bvs l).take at' := by rw [← h6, List.take_take, Nat.min_eq_left (by omega)]
        simp only [List.toList_toArray]
        have e2 : bvs (patchL l at' m) = cur.toList.take at' ++ (bvs m ++ (cur.toList.take l.length).drop (at' + m.length)) := by
          rw [e1, h6]
          simp [patchL, bvs]
        rw [e2]
        have n1 : (cur.toList.take at').length = at' := by simp [hcs]; omega
        rw [List.take_append, n1, List.take_append, hlen, List.take_of_length_le (l := cur.toList.take at') (by rw [n1]; omega), List.take_of_length_le (l := bvs m) (by rw [hlen]; omega), List.drop_take, Nat.sub_sub]
    · exact ⟨rfl, rfl, rfl, by simp [World.setRow], fun k _ hk => setRow_other W g k _ hk⟩
end

/-- slices.Clone of bytes. -/
theorem cloneD_calls (l : List UInt8) (v : Value) (w : World) (hv : BS AllB w v l) (hl : l.length ≤ 140737488355328) :
    Calls Tryd.prog 52 #[v] w fun e w' => ∃ v', e = .returned v' ∧ Own 5 w' w.heap.size v' l ∧ Kp NoB w w' := by
  obtain ⟨A, c, he, _, _, hn, _⟩ := id hv
  rcases A with _ | ad
  · have h0 := hn rfl
    subst he
    have hl0 : l = [] := by
      obtain ⟨A', c', he', h1, _, h2, _⟩ := id hv
      injection he' with e1 e2 e3
      have := h2 e1.symm
      exact List.eq_nil_of_length_eq_zero (by omega)
    subst hl0
    subst h0
    clear hv hn hl
    have hnil := fun w : World => Lib.run_eql_slice_nil (P := Tryd.prog) w 22 5 none 0 0 0 0 Tryd.underlying22
    go_enter Tryd.func52, Tryd.ntmps52
    go_wp2
    go_ret
    exact ⟨_, rfl, Own.nil _ _ _, Kp.refl _ _⟩
  · subst he
    clear hn
    have hne := fun w : World => Lib.run_eql_slice_nil (P := Tryd.prog) w 22 5 (some ad) l.length c 0 0 Tryd.underlying22
    have HV := Lib.hid hv
    clear hv
    go_enter Tryd.func52, Tryd.ntmps52
    go_wp2_with ((with_reducible refine gate_dst (N := 7) rfl ?_); go_must (refine wp_appK (w0 := w) byteD NoB rfl _ _ rfl _ _ [] l rfl rfl AllB (Own.lit _ _ _ [] 0 rfl rfl (by simp)) ((Kp.refl _ _).alloc _) (HV.out.nob ((Kp.refl _ _).alloc _)) (by simpa using hl) ?_); intro v' w' ho hk)
    go_ret
    exact ⟨_, rfl, by simpa using ho, hk⟩

set_option maxRecDepth 100000 in
set_option maxHeartbeats 2000000 in
/-- over: bytes laid over an owned row. -/
theorem over_calls (to b : List UInt8) (at' : Nat) (vt vb : Value) (w : World) (S : Nat → Prop) (ht : Own 5 w 0 vt to) (hb : BS S w vb b) (hS : ∀ k, S k → vt.ownBlock ≠ some k) (hat : at' ≤ 1048576) (hbl : b.length ≤ 1048576) (hto : to.length ≤ 1048576) :
    Calls Tryd.prog 61 #[vt, .int .i64 at', vb] w fun e w' => ∃ v', e = .returned v' ∧ Own 5 w' 0 v' (overL to at' b) ∧ Kp (fun k => vt.ownBlock = some k) w w' ∧ (∀ k, v'.ownBlock = some k → vt.ownBlock = some k ∨ w.heap.size ≤ k) := by
  obtain ⟨A, c, rfl⟩ := hb.len
  obtain ⟨At, ct, rfl⟩ := ht.bs.len
  by_cases h0 : b.length = 0
  · have e0 : overL to at' b = to := by unfold overL; rw [if_pos h0]
    rw [e0]
    have h0i : ((b.length : Int) == 0) = true := by simp [h0]
    have HT := Lib.hid ht
    clear h0 hS hb ht e0
    go_enter Tryd.func61, Tryd.ntmps61
    go_wp2
    go_ret
    exact ⟨_, rfl, HT.out, Kp.refl _ _, fun k h => .inl h⟩
  · obtain ⟨m, hm⟩ : ∃ m, m = at' + b.length - to.length := ⟨_, rfl⟩
    have e0 : overL to at' b = patchL (to ++ List.replicate m 0) at' b := by unfold overL padL; rw [if_neg h0, hm]
    rw [e0]
    have h0i : ((b.length : Int) == 0) = false := beq_eq_false_iff_ne.2 (by omega)
    have hmax : ∀ (W' : World) ts ty, (Builtin.max_ ts ty #[.int .i64 ((at' : Int) + b.length - to.length), .int .i64 0]).run Tryd.prog W' = .ok (.int .i64 (m : Int)) W' := by
      intro W' ts ty
      rw [run_max_int2]
      have e1 : (if (0 : Int) > (at' : Int) + b.length - to.length then (0 : Int) else (at' : Int) + b.length - to.length) = (m : Int) := by split <;> omega
      rw [e1]
    have hml : m ≤ 2097152 := by omega
    have hfit : at' + b.length ≤ to.length + m := by omega
    have H0 := Lib.hid h0
    have HM := Lib.hid hm
    clear h0 e0 hm
    go_enter Tryd.func61, Tryd.ntmps61
    go_wp2
    go_loopw [0, 19] (fun x i wr => ∃ j : Nat, j ≤ m ∧ i = .int .i64 j ∧ Own 5 wr 0 x (to ++ List.replicate j 0) ∧ Kp (fun k => (Value.slice At to.length ct).ownBlock = some k) w wr ∧ (∀ k, x.ownBlock = some k → (Value.slice At to.length ct).ownBlock = some k ∨ w.heap.size ≤ k)) (fun _ i _ => m - (intOf i).toNat)
    case atStart => exact ⟨0, Nat.zero_le _, rfl, by simpa using ht, Kp.refl _ _, fun k h => .inl h⟩
    case round =>
      obtain ⟨j, hj, rfl, ho, hk, hx⟩ := hrel
      by_cases hlt : j < m
      · obtain ⟨Ax, cx, rfl⟩ := ho.bs.len
        have HO := Lib.hid ho
        have HX := Lib.hid hx
        have HK := Lib.hid hk
        clear ho hx hk hmax ht hb hS
        go_wp2_with (first
          | ((with_reducible refine gate_dst (N := 23) rfl ?_); go_must (refine wp_app byteD rfl _ _ rfl 0 _ _ (to ++ List.replicate j 0) [0] rfl rfl (fun b => wr.heap.size ≤ b) (World.ownsRow.alloc HO.out _) (BS.lit _ _ _ _ [0] 1 rfl rfl (by simp)) (by simp; omega) (Nat.zero_le _) ?_); intro v2 w2 ho2 hg2 hb2)
          | fail)
        have ho3 : Own 5 w2 0 v2 (to ++ List.replicate (j + 1) 0) := by
          rw [List.append_assoc] at ho2
          rw [List.replicate_succ']
          exact ho2
        have hk3 : Kp (fun k => (Value.slice At to.length ct).ownBlock = some k) w w2 := by
          refine (HK.out.alloc (.cells #[.int .u8 0] 5)).grown hg2 fun k h => ?_
          rcases HX.out k h with h | h
          · exact .inr h
          · exact .inl h
        have hx3 : ∀ k, v2.ownBlock = some k → (Value.slice At to.length ct).ownBlock = some k ∨ w.heap.size ≤ k := by
          intro k h
          rcases hb2 with h1 | h1
          · exact HX.out k (h1.symm.trans h)
          · have hsz := HK.out.size
            right
            rw [h1] at h
            injection h with h
            simp at h
            omega
        have HO3 := Lib.hid ho3
        have HK3 := Lib.hid hk3
        have HX3 := Lib.hid hx3
        clear ho2 hg2 hb2 ho3 hk3 hx3
        go_wp2
        go_roundw
        case rel => exact ⟨j + 1, by omega, by go_num, HO3.out, HK3.out, HX3.out⟩
        case measure => simp [intOf]; omega
      · obtain rfl : j = m := by omega
        have hlen : (to ++ List.replicate j (0 : UInt8)).length = to.length + j := by simp
        have H0' := H0.out
        obtain ⟨Ax, cx, rfl⟩ := ho.bs.len
        obtain ⟨g, rfl, _, hglt⟩ := ho.form (by rw [hlen]; omega)
        have hbw : BS S wr (.slice A b.length c) b := hb.kp hk fun k _ h1 h2 => hS k h1 h2
        have hcl := ho.2
        rw [hlen] at ho ⊢
        have HO := Lib.hid ho
        have HX := Lib.hid hx
        have HK := Lib.hid hk
        have HBW := Lib.hid hbw
        have hcx : to.length + j ≤ cx := by
          rcases hcl with ⟨he, _⟩ | ⟨g', cap', cur', he, _, _, h3, _⟩
          · cases he
          · injection he with _ _ e3
            rw [hlen] at h3
            omega
        have hne : ¬ (cx = at') := by omega
        clear ho hx hk hmax hb hS ht hbw hcl hlen H0'
        go_wp2_with (first
          | ((with_reducible refine gate_dst (N := 29) rfl ?_); go_must (refine wp_copyB byteD rfl _ _ rfl 0 g _ cx at' _ _ _ (to ++ List.replicate j 0) b rfl rfl S HO.out HBW.out (by have := H0.out; omega) (by omega) (by simp; omega) ?_); intro w2 ho2 hk2)
          | fail)
        go_ret
        refine ⟨_, rfl, ho2, HK.out.step hk2 ?_, HX.out⟩
        rintro k hk1 rfl
        rcases HX.out k rfl with h | h
        · exact h
        · omega
end Go.Proofs.YtgjaggnpheoehaaDoor
