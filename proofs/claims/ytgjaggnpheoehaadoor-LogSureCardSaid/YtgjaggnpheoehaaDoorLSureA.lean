/- bytes.Clone; the sum ahead of a payload; whether torn bytes are a frame by chance. -/
import Derived.Test.YtgjaggnpheoehaaDoorLFew
import Derived.Test.YtgjaggnpheoehaaDoorLSureP
import Derived.Deep.RegionHeld3
import Derived.Shelf.RegionOpen
set_option linter.unusedVariables false
set_option linter.unusedSimpArgs false
namespace Go.Proofs.YtgjaggnpheoehaaDoor
open Go.RowKit

theorem bclone_calls (l : List UInt8) (v : Value) (w : World) (hv : BS AllB w v l) (hl : l.length ≤ 140737488355328) :
    Calls Tryd.prog 42 #[v] w fun e w' => ∃ v', e = .returned v' ∧ Own 5 w' w.heap.size v' l ∧ Kp NoB w w' := by
  obtain ⟨A, c, he, _, _, hn, _⟩ := id hv
  rcases A with _ | ad
  · have h0 := hn rfl
    subst he
    have hl0 : l = [] := by
      obtain ⟨A', c', he', h1, _, h2, _⟩ := id hv
      injection he' with e1 e2 e3
      have := h2 e1.symm
      exact List.eq_nil_of_length_eq_zero (by omega)
    subst hl0
    subst h0
    clear hv hn hl
    have hnil := fun w : World => Lib.run_eql_slice_nil (P := Tryd.prog) w 22 5 none 0 0 0 0 Tryd.underlying22
    go_enter Tryd.func42, Tryd.ntmps42
    go_wp2
    go_ret
    exact ⟨_, rfl, Own.nil _ _ _, Kp.refl _ _⟩
  · subst he
    clear hn
    have hne := fun w : World => Lib.run_eql_slice_nil (P := Tryd.prog) w 22 5 (some ad) l.length c 0 0 Tryd.underlying22
    have HV := Lib.hid hv
    clear hv
    go_enter Tryd.func42, Tryd.ntmps42
    go_wp2_with ((with_reducible refine gate_dst (N := 7) rfl ?_); go_must (refine wp_appK (w0 := w) byteT NoB rfl _ _ rfl _ _ [] l rfl rfl AllB (Own.lit _ _ _ [] 0 rfl rfl (by simp)) ((Kp.refl _ _).alloc _) (HV.out.nob ((Kp.refl _ _).alloc _)) (by simpa using hl) ?_); intro v' w' ho hk)
    go_ret
    exact ⟨_, rfl, by simpa using ho, hk⟩

set_option maxRecDepth 100000 in
theorem ahead_calls (A : List (List UInt8)) (us : List Value) (va : Value) (s : Int) (k : Nat) (w : World) (hT : TabOk w) (hv : Vals AllB w va us) (hr : RS AllB w us A) (hk : k ≤ A.length) (hA : A.length ≤ 1000000) :
    Calls Tryd.prog 68 #[.agg #[va, .int .i64 s], .int .i64 (k : Int)] w fun e w' => e = .returned (.int .u32 (chainS 0 1 (A.take k) : Nat)) ∧ Kp NoB w w' := by
  obtain ⟨Aa, ca, rfl⟩ := hv.len
  have hul := hr.1
  have ka : Kp NoB w (w.alloc (.cells #[.slice Aa us.length ca, .int .i64 s] 84)) := (Kp.refl _ _).alloc _
  have hb : (w.alloc (.cells #[.slice Aa us.length ca, .int .i64 s] 84)).cell? ⟨w.heap.size, 0, none⟩ = some (.slice Aa us.length ca) := by
    simp only [World.cell?, heap_alloc_new w (.cells #[.slice Aa us.length ca, .int .i64 s] 84)]
    rfl
  have HV := Lib.hid hv
  have HR := Lib.hid hr
  have HT := Lib.hid hT
  have KA := Lib.hid ka
  have HB := Lib.hid hb
  have HUL := Lib.hid hul
  clear hv hr hT ka hb hul
  go_enter Tryd.func68, Tryd.ntmps68
  go_wp2_with fail
  have KA := KA.out
  have HB := HB.out
  generalize w.alloc (.cells #[.slice Aa us.length ca, .int .i64 s] 84) = w1 at *
  have KA := Lib.hid KA
  have HB := Lib.hid HB
  go_loopw [5, 8] (fun x i wr => ∃ j : Nat, j ≤ k ∧ i = .int .i64 (j : Int) ∧ x = .int .u32 (chainS 0 1 (A.take j) : Nat) ∧ Kp NoB w1 wr) (fun _ i _ => k - (intOf i).toNat)
  case atStart => exact ⟨0, Nat.zero_le _, rfl, rfl, Kp.refl _ _⟩
  case round =>
    obtain ⟨j, hj, rfl, rfl, hq⟩ := hrel
    by_cases hlt : j < k
    · have hjA : j < A.length := by omega
      have hju : j < us.length := by rw [HUL.out]; omega
      have hc0 := hq.cell HB.out id
      have kw : Kp NoB w wr := KA.out.trans hq
      obtain ⟨g, off, rfl, hc⟩ := (HV.out.nob kw).at_ j hju
      have hbj := (HR.out.nob kw).2 j hju hjA
      have hsn := chainS_snoc (A.take j) A[j]
      rw [← take_snoc A j hjA] at hsn
      have htl : (A.take j).length = j := by simp; omega
      rw [htl] at hsn
      have hlt2 := chainS_lt (A.take j) 0 1 (by decide)
      generalize us[j] = u at *
      generalize hcn : chainS 0 1 (A.take (j + 1)) = sn at *
      generalize chainS 0 1 (A.take j) = sj at *
      generalize A[j] = p at *
      obtain ⟨Ap, cp, rfl⟩ := hbj.len
      have HSN := Lib.hid hsn
      have HCN := Lib.hid hcn
      have HBJ := Lib.hid hbj
      have HQ := Lib.hid hq
      have T1 := Lib.hid (HT.out.nob kw)
      clear hsn hcn hbj hq kw htl
      have hw1 : IntKind.u32.wrap ((j : Int) + 1) = (j : Int) + 1 := by rw [IntKind.wrap_u32]; omega
      go_wp2_with fail
      have hsc := sum_calls sj (j + 1) p (.slice Ap p.length cp) wr T1.out hlt2 (by omega) HBJ.out
      rw [← HSN.out] at hsc
      refine hsc.mono ?_
      rintro e w2 ⟨rfl, k2⟩
      clear hsc
      go_wp2_with fail
      go_roundw
      case measure => simp [intOf]; omega
      case rel => exact ⟨j + 1, by omega, by go_num, by rw [HCN.out], HQ.out.trans k2⟩
    · obtain rfl : j = k := by omega
      have kw : Kp NoB w wr := KA.out.trans hq
      go_wp2_with fail
      go_ret
      exact ⟨rfl, kw⟩

section
variable {P : Program} {t e : TypeId} (B : ByteT P t e)
include B
variable {ops : Array Oper} {rest : List Oper} {o : Oper} {a : Act} {Q : Exit → Act → World → Prop}
/-- copy into bytes 0. -/
theorem wp_copyZ {W : World} (hgd : o.guard = none) (d s : Operand) (ho : o.op = .call { callee := .builtin .copy, args := #[d, s], argTypes := #[t, t] }) (base g n : Nat) (x : Value) (m : List UInt8) (hd : a.eval d = .slice (some ⟨g, 0, none⟩) n n) (hs : a.eval s = x)
    (S : Nat → Prop) (hown : Own e W base (.slice (some ⟨g, 0, none⟩) n n) (List.replicate n 0)) (hx : BS S W x m) (hm : m.length ≤ n)
    (h : ∀ w', Own e w' base (.slice (some ⟨g, 0, none⟩) n n) (m ++ List.replicate (n - m.length) 0) → Kp (fun k => k = g) W w' → wpList P ops Q rest (a.put o.dst (goInt m.length)) w') : wpList P ops Q (o :: rest) a W := by
  obtain ⟨i0, hi, hzz⟩ := Option.map_eq_some_iff.1 B.info
  simp only [Prod.mk.injEq] at hzz
  have hsz : (P.info? e).map (·.size) = some 1 := by rw [hi]; simp [hzz]
  by_cases h0 : m.length = 0
  · obtain rfl := List.eq_nil_of_length_eq_zero h0
    obtain ⟨A, c, rfl⟩ := hx.len
    exact wpList_copy_nothing hgd d s t t ho e B.sl hsz _ _ _ _ _ _ hd hs (by simp) (h W (by simpa using hown) (Kp.refl _ _))
  · refine wp_copyB B hgd d s ho base g n n 0 n n x (List.replicate n 0) m hd hs S hown hx (by omega) hm (by rw [List.length_replicate]; omega) fun w' h1 h2 => h w' ?_ h2
    have e1 : patchL (List.replicate n (0 : UInt8)) 0 m = m ++ List.replicate (n - m.length) 0 := by simp [patchL]
    rwa [e1] at h1
end

set_option maxRecDepth 100000 in
set_option maxHeartbeats 8000000 in
theorem chance_calls (A : List (List UInt8)) (us : List Value) (va : Value) (s k j : Nat) (p : List UInt8) (vp : Value) (ks : List Int) (vk : Value) (w : World) (hT : TabOk w) (hv : Vals AllB w va us) (hr : RS AllB w us A) (hk : k < A.length) (hA : A.length ≤ 1000000) (hA16 : ∀ x ∈ A, x.length ≤ 16384)
    (hp : BS AllB w vp p) (hks : Vals AllB w vk (ks.map (.int .i64))) (hj : k = s + j) (hjk : j < ks.length) (hki : inI ks[j])
    (ho : openE (chainS 0 1 (A.take k)) (k + 1) (tornN (chainS 0 1 (A.take k)) (k + 1) A[k] ks[j]) = 0) (hpay : payN (tornN (chainS 0 1 (A.take k)) (k + 1) A[k] ks[j]) = p) :
    Calls Tryd.prog 43 #[.agg #[va, .int .i64 (s : Int)], .int .i64 (k : Int), vp, vk] w fun e w' => e = .returned (.bool true) ∧ Kp NoB w w' := by
  obtain ⟨Aa, ca, rfl⟩ := hv.len
  obtain ⟨Ak, ck, rfl⟩ := hks.len
  have hul := hr.1
  rw [List.length_map] at *
  have ka : Kp NoB w (w.alloc (.cells #[.slice Aa us.length ca, .int .i64 (s : Int)] 84)) := (Kp.refl _ _).alloc _
  have hb : ∀ i v, (#[.slice Aa us.length ca, .int .i64 (s : Int)] : Array Value)[i]? = some v → (w.alloc (.cells #[.slice Aa us.length ca, .int .i64 (s : Int)] 84)).cell? ⟨w.heap.size, i, none⟩ = some v := by
    intro i v hv
    simp only [World.cell?, heap_alloc_new w (.cells #[.slice Aa us.length ca, .int .i64 (s : Int)] 84)]
    exact hv
  have b0 : (w.alloc (.cells #[.slice Aa us.length ca, .int .i64 (s : Int)] 84)).cell? ⟨w.heap.size, 0, none⟩ = some (.slice Aa us.length ca) := hb 0 _ rfl
  have b1 : (w.alloc (.cells #[.slice Aa us.length ca, .int .i64 (s : Int)] 84)).cell? ⟨w.heap.size, 1, none⟩ = some (.int .i64 (s : Int)) := hb 1 _ rfl
  rw [hul] at *
  have HV := Lib.hid hv
  have HR := Lib.hid hr
  have HT := Lib.hid hT
  have HP := Lib.hid hp
  have HKS := Lib.hid hks
  have KA := Lib.hid ka
  have B0 := Lib.hid b0
  have B1 := Lib.hid b1
  have HO := Lib.hid ho
  have HPAY := Lib.hid hpay
  have HUL : Hid (us.length = A.length) := Lib.hid hr.1
  have hsub : (k : Int) - (s : Int) = (j : Int) := by omega
  have HJ := Lib.hid hj
  clear hv hr hT hp hks ka b0 b1 hb ho hpay hul hj
  have hw0 : IntKind.i64.wrap ((k : Int) - (s : Int)) = (j : Int) := by rw [hsub]; exact wrap_in (by omega) (by omega)
  clear hsub
  go_enter Tryd.func43, Tryd.ntmps43
  go_wp2_with fail
  have KA := KA.out
  have B0 := B0.out
  have B1 := B1.out
  generalize w.alloc (.cells #[.slice Aa A.length ca, .int .i64 (s : Int)] 84) = w1 at *
  have kd : Kp NoB w1 w1.drew := (Kp.refl NoB w1).drew
  have kad := KA.trans kd
  have c0 := kd.cell B0 id
  have c1 := kd.cell B1 id
  have hku : k < us.length := by rw [HUL.out]; omega
  obtain ⟨gr, offr, rfl, hcr⟩ := (HV.out.nob kad).at_ k hku
  have hbr := (HR.out.nob kad).2 k hku hk
  have hle := hA16 A[k] (List.getElem_mem hk)
  have hah := fun (W : World) (kw : Kp NoB w W) => ahead_calls A us _ (s : Int) k W (HT.out.nob kw) (HV.out.nob kw) (HR.out.nob kw) (by omega) hA
  rw [HUL.out] at hah
  have hS0 := chainS_lt (A.take k) 0 1 (by decide)
  have hO := HO.out
  have hPAY := HPAY.out
  generalize us[k] = u at *
  generalize A[k] = pk at *
  obtain ⟨kj, hkj⟩ : ∃ kj, kj = ks[j] := ⟨_, rfl⟩
  rw [← hkj] at hO hPAY hki
  obtain ⟨gk, offk, rfl, hck⟩ := HKS.out.at_ j (by rw [List.length_map]; exact hjk)
  rw [List.getElem_map, ← hkj] at hck
  generalize chainS 0 1 (A.take k) = sA at *
  obtain ⟨Ap, cp, rfl⟩ := hbr.len
  have HAH := Lib.hid hah
  have HO := Lib.hid hO
  have HPAY := Lib.hid hPAY
  have HBR := Lib.hid hbr
  have KAD := Lib.hid kad
  have HCK := Lib.hid hck
  have hw1 : IntKind.u32.wrap ((k : Int) + 1) = (k : Int) + 1 := by rw [IntKind.wrap_u32]; omega
  have hw2 : IntKind.i64.wrap ((k : Int) + 1) = (k : Int) + 1 := wrap_in (by omega) (by omega)
  clear kd kad hbr hah hO hPAY hkj hck
  refine wp_region_held_drew (S := (fun w' => Kp NoB w1.drew w')) (by kernel_rfl) (Kp.refl _ _) (fun hHeld => ?_)
  refine wpAnyH_take (i := 0) (v := ?_) rfl (by kernel_rfl) (by kernel_rfl) (by kernel_rfl) (fun _ _ _ h => h) (Or.inl ⟨by rfl, ?_⟩) (by assumption) ?_
  rotate_left
  · intro w hSw
    (try dsimp only at hSw)
    have x0 := hSw.cell c0 id
    have x1 := hSw.cell c1 id
    go_simp
    all_goals (with_reducible rfl)
  (try simp only [Act.put, List.getElem_toArray, List.getElem_cons_succ, List.getElem_cons_zero, List.setIfInBounds_toArray, List.set_cons_zero, List.set_cons_succ])
  refine wpAnyH_take (i := 1) (v := ?_) rfl (by kernel_rfl) (by kernel_rfl) (by kernel_rfl) (fun _ _ _ h => h) (Or.inl ⟨by rfl, ?_⟩) (by assumption) ?_
  rotate_left
  · intro w hSw
    (try dsimp only at hSw)
    go_simp
    all_goals (with_reducible rfl)
  (try simp only [Act.put, List.getElem_toArray, List.getElem_cons_succ, List.getElem_cons_zero, List.setIfInBounds_toArray, List.set_cons_zero, List.set_cons_succ])
  refine wpAnyH_take (i := 3) (v := ?_) rfl (by kernel_rfl) (by kernel_rfl) (by kernel_rfl) (fun _ _ _ h => h) (Or.inl ⟨by rfl, ?_⟩) (by assumption) ?_
  rotate_left
  · intro w hSw
    (try dsimp only at hSw)
    go_simp
    all_goals (with_reducible rfl)
  (try simp only [Act.put, List.getElem_toArray, List.getElem_cons_succ, List.getElem_cons_zero, List.setIfInBounds_toArray, List.set_cons_zero, List.set_cons_succ])
  refine wpAnyH_take (i := 4) (v := ?_) rfl (by kernel_rfl) (by kernel_rfl) (by kernel_rfl) (fun _ _ _ h => h) (Or.inl ⟨by rfl, ?_⟩) (by assumption) ?_
  rotate_left
  · intro w hSw
    (try dsimp only at hSw)
    go_simp
    all_goals (with_reducible rfl)
  (try simp only [Act.put, List.getElem_toArray, List.getElem_cons_succ, List.getElem_cons_zero, List.setIfInBounds_toArray, List.set_cons_zero, List.set_cons_succ])
  refine wpAnyH_take (i := 5) (v := ?_) rfl (by kernel_rfl) (by kernel_rfl) (by kernel_rfl) (fun _ _ _ h => h) (Or.inl ⟨by rfl, ?_⟩) (by assumption) ?_
  rotate_left
  · intro w hSw
    (try dsimp only at hSw)
    go_simp
    all_goals (with_reducible rfl)
  (try simp only [Act.put, List.getElem_toArray, List.getElem_cons_succ, List.getElem_cons_zero, List.setIfInBounds_toArray, List.set_cons_zero, List.set_cons_succ])
  refine wpAnyH_take (i := 6) (v := ?_) rfl (by kernel_rfl) (by kernel_rfl) (by kernel_rfl) (fun _ _ _ h => h) (Or.inl ⟨by rfl, ?_⟩) (by assumption) ?_
  rotate_left
  · intro w hSw
    (try dsimp only at hSw)
    go_simp
    all_goals (with_reducible rfl)
  (try simp only [Act.put, List.getElem_toArray, List.getElem_cons_succ, List.getElem_cons_zero, List.setIfInBounds_toArray, List.set_cons_zero, List.set_cons_succ])
  refine wpAnyH_take (i := 7) (v := ?_) rfl (by kernel_rfl) (by kernel_rfl) (by kernel_rfl) (fun _ _ _ h => h) (Or.inl ⟨by rfl, ?_⟩) (by assumption) ?_
  rotate_left
  · intro w hSw
    (try dsimp only at hSw)
    have x0 := hSw.cell c0 id
    go_simp
    all_goals (with_reducible rfl)
  (try simp only [Act.put, List.getElem_toArray, List.getElem_cons_succ, List.getElem_cons_zero, List.setIfInBounds_toArray, List.set_cons_zero, List.set_cons_succ])
  refine wpAnyH_take (i := 8) (v := ?_) rfl (by kernel_rfl) (by kernel_rfl) (by kernel_rfl) (fun _ _ _ h => h) (Or.inl ⟨by rfl, ?_⟩) (by assumption) ?_
  rotate_left
  · intro w hSw
    (try dsimp only at hSw)
    go_simp
    all_goals (with_reducible rfl)
  (try simp only [Act.put, List.getElem_toArray, List.getElem_cons_succ, List.getElem_cons_zero, List.setIfInBounds_toArray, List.set_cons_zero, List.set_cons_succ])
  refine wpAnyH_take (i := 9) (v := ?_) rfl (by kernel_rfl) (by kernel_rfl) (by kernel_rfl) (fun _ _ _ h => h) (Or.inl ⟨by rfl, ?_⟩) (by assumption) ?_
  rotate_left
  · intro w hSw
    (try dsimp only at hSw)
    go_simp
    all_goals (with_reducible rfl)
  (try simp only [Act.put, List.getElem_toArray, List.getElem_cons_succ, List.getElem_cons_zero, List.setIfInBounds_toArray, List.set_cons_zero, List.set_cons_succ])
  refine wpAnyH_take (i := 10) (v := ?_) rfl (by kernel_rfl) (by kernel_rfl) (by kernel_rfl) (fun _ _ _ h => h) (Or.inl ⟨by rfl, ?_⟩) (by assumption) ?_
  rotate_left
  · intro w hSw
    (try dsimp only at hSw)
    have x1 := hSw.cell hcr id
    go_simp
    all_goals (with_reducible rfl)
  (try simp only [Act.put, List.getElem_toArray, List.getElem_cons_succ, List.getElem_cons_zero, List.setIfInBounds_toArray, List.set_cons_zero, List.set_cons_succ])
  refine wpAnyH_ready (rs := [2]) (by kernel_rfl) (by simp) ?_
  refine AllReadyH.cons rfl (fun K hK => ?_) AllReadyH.nil
  (try rw [if_pos (by rfl)])
  go_simp
  refine (HAH.out _ KAD.out).mono ?_
  rintro e w2 ⟨rfl, k2⟩
  refine hK.out _ _ ?_ (fun hHeld => ?_)
  · exact hHeld.trans k2
  clear hK K
  (try simp only [Act.put, List.getElem_toArray, List.getElem_cons_succ, List.getElem_cons_zero, List.setIfInBounds_toArray, List.set_cons_zero, List.set_cons_succ])
  refine wpAnyH_ready (rs := [11]) (by kernel_rfl) (by simp) ?_
  refine AllReadyH.cons rfl (fun K hK => ?_) AllReadyH.nil
  (try rw [if_pos (by rfl)])
  go_simp
  refine (seal_calls sA (k + 1) pk _ w2 (HT.out.nob (KAD.out.trans hHeld)) hS0 (by omega) (HBR.out.nob hHeld) hle).mono ?_
  rintro e w3 ⟨v3, rfl, o3, k3⟩
  refine hK.out _ _ ?_ (fun hHeld => ?_)
  · exact hHeld.trans k3
  clear hK K
  (try simp only [Act.put, List.getElem_toArray, List.getElem_cons_succ, List.getElem_cons_zero, List.setIfInBounds_toArray, List.set_cons_zero, List.set_cons_succ])
  refine wpAnyH_take (i := 12) (v := ?_) rfl (by kernel_rfl) (by kernel_rfl) (by kernel_rfl) (fun _ _ _ h => h) (Or.inl ⟨by rfl, ?_⟩) (by assumption) ?_
  rotate_left
  · intro w hSw
    (try dsimp only at hSw)
    go_simp
    all_goals (with_reducible rfl)
  (try simp only [Act.put, List.getElem_toArray, List.getElem_cons_succ, List.getElem_cons_zero, List.setIfInBounds_toArray, List.set_cons_zero, List.set_cons_succ])
  refine wpAnyH_take (i := 13) (v := ?_) rfl (by kernel_rfl) (by kernel_rfl) (by kernel_rfl) (fun _ _ _ h => h) (Or.inl ⟨by rfl, ?_⟩) (by assumption) ?_
  rotate_left
  · intro w hSw
    (try dsimp only at hSw)
    go_simp
    all_goals (with_reducible rfl)
  (try simp only [Act.put, List.getElem_toArray, List.getElem_cons_succ, List.getElem_cons_zero, List.setIfInBounds_toArray, List.set_cons_zero, List.set_cons_succ])
  refine wpAnyH_take (i := 14) (v := ?_) rfl (by kernel_rfl) (by kernel_rfl) (by kernel_rfl) (fun _ _ _ h => h) (Or.inl ⟨by rfl, ?_⟩) (by assumption) ?_
  rotate_left
  · intro w hSw
    (try dsimp only at hSw)
    go_simp
    all_goals (with_reducible rfl)
  (try simp only [Act.put, List.getElem_toArray, List.getElem_cons_succ, List.getElem_cons_zero, List.setIfInBounds_toArray, List.set_cons_zero, List.set_cons_succ])
  refine wpAnyH_take (i := 15) (v := ?_) rfl (by kernel_rfl) (by kernel_rfl) (by kernel_rfl) (fun _ _ _ h => h) (Or.inl ⟨by rfl, ?_⟩) (by assumption) ?_
  rotate_left
  · intro w hSw
    (try dsimp only at hSw)
    go_simp
    all_goals (with_reducible rfl)
  (try simp only [Act.put, List.getElem_toArray, List.getElem_cons_succ, List.getElem_cons_zero, List.setIfInBounds_toArray, List.set_cons_zero, List.set_cons_succ])
  refine wpAnyH_take (i := 16) (v := ?_) rfl (by kernel_rfl) (by kernel_rfl) (by kernel_rfl) (fun _ _ _ h => h) (Or.inl ⟨by rfl, ?_⟩) (by assumption) ?_
  rotate_left
  · intro w hSw
    (try dsimp only at hSw)
    go_simp
    all_goals (with_reducible rfl)
  (try simp only [Act.put, List.getElem_toArray, List.getElem_cons_succ, List.getElem_cons_zero, List.setIfInBounds_toArray, List.set_cons_zero, List.set_cons_succ])
  refine wpAnyH_done (by kernel_rfl) ?_ _
  go_simp
  have hsl := length_sealN sA (k + 1) pk
  obtain ⟨N, hN⟩ : ∃ N, N = 10 + pk.length := ⟨_, rfl⟩
  rw [← hN] at hsl
  obtain ⟨A3, c3, rfl⟩ := o3.bs.len
  rw [hsl] at o3 ⊢
  have b3 := o3.bs.all
  have k3' := KAD.out.trans (hHeld)
  have hN2 : N ≤ 20000 := by omega
  have hmk : ∀ W, (Instr.makeSlice 22 (.int .i64 (N : Int)) (.int .i64 (N : Int))).run Tryd.prog W = .ok (.slice (some ⟨W.heap.size, 0, none⟩) N N) (W.alloc (.cells (madeCells #[.int .u8 0] N) 5)) := fun W => make_bytes byteT N (by omega) W
  have os := Own.made 5 w3 N (by omega)
  have kal : Kp NoB w3 (w3.alloc (.cells (madeCells #[.int .u8 0] N) 5)) := (Kp.refl _ _).alloc _
  obtain ⟨kk, hkk⟩ : ∃ kk : Nat, kk = min kj.toNat N := ⟨_, rfl⟩
  obtain ⟨m1, hm1⟩ : ∃ m1, m1 = min kj (N : Int) := ⟨_, rfl⟩
  have hmin : ∀ (W' : World) ts ty, (Builtin.min_ ts ty #[.int .i64 kj, .int .i64 (N : Int)]).run Tryd.prog W' = .ok (.int .i64 m1) W' := by
    intro W' ts ty
    rw [run_min_int2]
    congr 2
    split <;> omega
  have hmax : ∀ (W' : World) ts ty, (Builtin.max_ ts ty #[.int .i64 m1, .int .i64 0]).run Tryd.prog W' = .ok (.int .i64 (kk : Int)) W' := by
    intro W' ts ty
    rw [run_max_int2]
    congr 2
    split <;> omega
  obtain ⟨vc, hca, hcut, hbc⟩ := run_cut byteT (b3.nob kal) 0 kk (Nat.zero_le _) (by rw [hsl, hkk]; exact Nat.min_le_right _ _) none (some (.int .i64 (kk : Int))) (.inl ⟨rfl, rfl⟩) (.inr ⟨.i64, rfl⟩)
  clear hca
  rw [List.drop_zero] at hbc
  have htl : ((sealN sA (k + 1) pk).take kk).length = kk := by rw [List.length_take, hsl, hkk]; omega
  have htorn : (sealN sA (k + 1) pk).take kk ++ List.replicate (N - ((sealN sA (k + 1) pk).take kk).length) 0 = tornN sA (k + 1) pk kj := by
    rw [htl]
    unfold tornN
    rw [← hN, hkk]
    congr 1
    · rcases Nat.le_total kj.toNat N with h | h
      · rw [Nat.min_eq_left h]
      · rw [Nat.min_eq_right h, List.take_of_length_le (by omega), List.take_of_length_le (by omega)]
    · congr 1
      omega
  obtain ⟨Avc, cvc, rfl⟩ := hbc.len
  rw [htl] at hbc hcut
  have hck := (HKS.out.nob (k3'.trans kal))
  have hck2 := (k3'.trans kal).cell HCK.out id
  have x0 := (hHeld.trans kal).cell c0 id
  have x1 := (hHeld.trans kal).cell c1 id
  have OS := Lib.hid os
  have HBC := Lib.hid hbc
  have KAL := Lib.hid (k3'.trans kal)
  have KW3 := Lib.hid k3'
  have HLW := Lib.hid (World.block_lt_of_cell? w3 _ (hHeld.cell c0 id))
  have HTL := Lib.hid htl
  have HTORN := Lib.hid htorn
  have HKN : Hid (kk ≤ N) := Lib.hid (by omega)
  have HNN := Lib.hid hN
  have HSL := Lib.hid hsl
  clear o3 b3 os hbc k3' hck hHeld kal htl htorn hkk hN hsl c0 c1 hcr hm1
  go_wp2_with (first
    | ((with_reducible refine gate_dst (N := 65) rfl ?_); go_must (refine wp_copyZ byteT rfl _ _ rfl w3.heap.size w3.heap.size N _ ((sealN sA (k + 1) pk).take kk) rfl rfl AllB OS.out HBC.out (by rw [HTL.out]; exact HKN.out) ?_); intro w4 o4 k4; have hlow : ¬ (w.heap.size = w3.heap.size) := Nat.ne_of_lt HLW.out; have x0 := k4.cell x0 hlow; have x1 := k4.cell x1 hlow)
    | fail)
  rw [HTORN.out] at o4
  have kf : Kp NoB w w4 := by
    refine KAL.out.step k4 fun i hi h => ?_
    have h1 : i = w3.heap.size := h
    have h2 := KW3.out.size
    omega
  have b4 := o4.bs.all
  have KF := Lib.hid kf
  have B4 := Lib.hid b4
  clear hmk hmin hmax hcut hck2 o4 k4 b4 kf
  refine (HAH.out w4 KF.out).mono ?_
  rintro e w5 ⟨rfl, k5⟩
  go_wp2_with fail
  refine (open_right sA (k + 1) (tornN sA (k + 1) pk kj) _ w5 (HT.out.nob (KF.out.trans k5)) hS0 (by omega) (B4.out.nob k5) HO.out).mono ?_
  rintro e w6 ⟨v6, rfl, o6, k6⟩
  rw [HPAY.out] at o6
  obtain ⟨A6, c6, rfl⟩ := o6.bs.len
  obtain ⟨Apv, cpv, hpv⟩ := HP.out.len
  have heq := equal_calls p p _ vp w6 o6.bs.all (HP.out.nob ((KF.out.trans k5).trans k6))
  rw [show (p == p) = true by simp] at heq
  have HEQ := Lib.hid heq
  have K6 := Lib.hid ((KF.out.trans k5).trans k6)
  subst hpv
  clear heq o6 k5 k6
  go_wp2_with fail
  refine HEQ.out.mono ?_
  rintro e wz ⟨rfl, rfl⟩
  go_wp2_with fail
  go_ret
  exact ⟨rfl, K6.out⟩
end Go.Proofs.YtgjaggnpheoehaaDoor
