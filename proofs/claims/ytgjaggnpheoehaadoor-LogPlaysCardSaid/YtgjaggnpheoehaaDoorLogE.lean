/- Words for the walks of the laws of the log: rows that lie apart from a log and its disk; same. -/
import Derived.Test.YtgjaggnpheoehaaDoorLogN
set_option linter.unusedVariables false
set_option linter.unusedSimpArgs false
namespace Go.Proofs.YtgjaggnpheoehaaDoor
open Go.RowKit

/-- A row of the call's own lies apart. -/
def Apart (b : Nat) (F R : Nat → Prop) (v : Value) : Prop := ∀ g, v.ownBlock = some g → ¬ F g ∧ ¬ R g ∧ g ≠ b
theorem Apart.nil (b : Nat) (F R : Nat → Prop) : Apart b F R (.slice none 0 0) := fun g h => by simp [Value.ownBlock] at h
theorem Apart.lstep {b : Nat} {F R F' R' : Nat → Prop} {w w' : World} {v : Value} {us : List Value} {e : TypeId} {base : Nat} (h : Apart b F R v) (ho : Own1 e w base v us) (k : LStep b F R w w' F' R') : Apart b F' R' v := fun g hg =>
  ⟨fun hf => (k.f g hf).elim (h g hg).1 fun h => by have := (ho.lt g hg).2; omega, fun hf => (k.r g hf).elim (h g hg).2.1 fun h => by have := (ho.lt g hg).2; omega, (h g hg).2.2⟩
theorem Own1.lstep {b : Nat} {F R F' R' : Nat → Prop} {w w' : World} {v : Value} {us : List Value} {e : TypeId} {base : Nat} (ho : Own1 e w base v us) (h : Apart b F R v) (k : LStep b F R w w' F' R') : Own1 e w' base v us :=
  ho.kp k.kp fun g _ hg hf => hf.elim (h g hg).1 (h g hg).2.2
theorem LD.grow {w0 w w' : World} {b : Nat} {q : Addr} {F R X : Nat → Prop} {ps : List (List UInt8)} {s : Nat} {D : DD} (h : LD w0 w b q F R ps s D) (k : Kp X w w') (hX : ∀ i, X i → w0.heap.size ≤ i ∧ ¬ F i ∧ ¬ R i ∧ i ≠ b) : LD w0 w' b q F R ps s D :=
  ⟨h.log.kp k fun hb => (hX b hb).2.2.2 rfl, h.dsk.kp k fun i _ hi => ⟨(hX i hi).2.1, (hX i hi).2.2.1⟩, h.nF, h.nR, ⟨h.made.kp.step k fun i hi hx => by have := (hX i hx).1; omega, h.made.new⟩, h.bn, h.tab⟩
theorem LD.lt {w0 w : World} {b : Nat} {q : Addr} {F R : Nat → Prop} {ps : List (List UInt8)} {s : Nat} {D : DD} (h : LD w0 w b q F R ps s D) : ∀ k, F k ∨ R k ∨ k = b → k < w.heap.size := fun k hk => by
  rcases hk with hk | hk | hk
  · exact h.dsk.lt k hk
  · exact (h.dsk.hR k hk).1
  · subst hk; exact h.log.lt
/-- append(v, u) onto a row of slices. -/
theorem wp_pushL {w0 W : World} {ops : Array Oper} {rest : List Oper} {o : Oper} {a : Act} {Q : Exit → Act → World → Prop} (hgd : o.guard = none) (s y : Operand) (ho : o.op = .call { callee := .builtin .append, args := #[s, y], argTypes := #[41, 41] }) (v u : Value) (us : List Value) (g off c : Nat) (hs : a.eval s = v) (hy : a.eval y = .slice (some ⟨g, off, none⟩) 1 c)
    {b : Nat} {F R : Nat → Prop} (hown : Own1 22 W w0.heap.size v us) (hap : Apart b F R v) (hlt : ∀ k, F k ∨ R k ∨ k = b → k < W.heap.size) (hk : w0.heap.size ≤ W.heap.size) (hc : W.cell? ⟨g, off, none⟩ = some u) (h1 : u.oneCell' = true) (hl : (us.length + 1) * 24 ≤ 140737488355328)
    (h : ∀ v' w', Own1 22 w' w0.heap.size v' (us ++ [u]) → Apart b F R v' → Kp (fun k => v.ownBlock = some k) W w' → wpList Tryd.prog ops Q rest (a.put o.dst v') w') : wpList Tryd.prog ops Q (o :: rest) a W := by
  obtain ⟨v', w', h1, h2, h3, h4⟩ := run_push rowL o.type hown g off c hc h1 hl hk
  refine Lib.wpList_append_run W hgd s y _ _ ho v _ hs hy v' w' h1 (h v' w' h2 (fun i hi => ?_) (Kp.of_grown h3))
  rcases h4 with h4 | h4
  · rw [h4] at hi; exact hap i hi
  · rw [h4] at hi
    injection hi with hi
    exact ⟨fun hf => by have := hlt i (.inl hf); omega, fun hf => by have := hlt i (.inr (.inl hf)); omega, fun hf => by have := hlt i (.inr (.inr hf)); omega⟩
/-- us[:n]. -/
theorem Vals.cut0 {S : Nat → Prop} {W : World} {A : Option Addr} {m c : Nat} {us : List Value} (hv : Vals S W (.slice A m c) us) (n : Nat) (hn : n ≤ us.length) :
    (∀ W', (Instr.slice 41 (.slice A m c) none (some (.int .i64 (n : Int))) none).run Tryd.prog W' = .ok (.slice A n c) W') ∧ Vals S W (.slice A n c) (us.take n) := by
  obtain ⟨i0, hi0, hzz⟩ := Option.map_eq_some_iff.1 rowL.info
  simp only [Prod.mk.injEq] at hzz
  obtain ⟨hz0, hz1, hz2⟩ := hzz
  obtain ⟨A', c', he, hc, hm, hnn, hr⟩ := hv
  injection he with e1 e2 e3
  subst e1 e2 e3
  refine ⟨fun W' => ?_, A, c, by simp; omega, by simp; omega, hm, hnn, fun h0 => ?_⟩
  · have hic : n ≤ c := by omega
    have hb2 : ((n : Int)).toNat = n := by omega
    simp [Instr.slice, Instr.sliceBounds, Instr.sliceBound, run_underlying rowL.sl, sizeOf, typeInfo, hi0, hz1, asIntOf, hc, hic, hn]
    intro _
    cases A with
    | none => rfl
    | some x => obtain ⟨b, f, sp⟩ := x; cases sp <;> simp [Addr.add]
  · obtain ⟨b, off, rfl, hS, hcell⟩ := hr (by simp at h0; omega)
    refine ⟨b, off, rfl, hS, fun j hj => ?_⟩
    have hj' : j < us.length := by simp at hj; omega
    rw [hcell j hj']
    simp
theorem RS.take {S : Nat → Prop} {w : World} {us : List Value} {ls : List (List UInt8)} (h : RS S w us ls) (n : Nat) : RS S w (us.take n) (ls.take n) :=
  ⟨by simp [h.1], fun j h1 h2 => by
    have := h.2 j (by simp at h1; omega) (by simp at h2; omega)
    simpa using this⟩
theorem RS.all {S : Nat → Prop} {w : World} {us : List Value} {ls : List (List UInt8)} (h : RS S w us ls) : RS AllB w us ls := h.mono fun _ _ _ => trivial
theorem Vals.all {S : Nat → Prop} {w : World} {v : Value} {us : List Value} (h : Vals S w v us) : Vals AllB w v us := h.mono fun _ _ _ => trivial

set_option maxRecDepth 100000 in
theorem equalF_yes (ps : List (List UInt8)) (ua ub : List Value) (va vb : Value) (w : World) (ha : Vals AllB w va ua) (hb : Vals AllB w vb ub) (ra : RS AllB w ua ps) (rb : RS AllB w ub ps) :
    Calls Tryd.prog 60 #[va, vb, .func (.func 39) #[] #[]] w fun e w' => e = .returned (.bool true) ∧ w = w' := by
  obtain ⟨Aa, ca, rfl⟩ := ha.len
  obtain ⟨Ab, cb, rfl⟩ := hb.len
  have hla := ra.1
  have hlb := rb.1
  rw [hla] at ha ⊢
  rw [hlb] at hb ⊢
  have hmx : ps.length ≤ 9223372036854775807 := by
    obtain ⟨_, _, he, h1, h2, _⟩ := id ha
    rw [← hla]
    omega
  have HA := Lib.hid ha
  have HB := Lib.hid hb
  have RA := Lib.hid ra
  have RB := Lib.hid rb
  have HLA := Lib.hid hla
  have HLB := Lib.hid hlb
  clear ha hb ra rb hla hlb
  go_enter Tryd.func60, Tryd.ntmps60
  go_wp2
  go_loopw [17] (fun i wr => ∃ k : Nat, k ≤ ps.length ∧ i = .int .i64 (k : Int) ∧ w = wr) (fun i _ => ps.length - (intOf i).toNat)
  case atStart => exact ⟨0, Nat.zero_le _, rfl, rfl⟩
  case round =>
    obtain ⟨k, hk, rfl, rfl⟩ := hrel
    by_cases hlt : k < ps.length
    · obtain ⟨b1, o1, e1, hc1⟩ := HA.out.at_ k (by rw [HLA.out]; exact hlt)
      obtain ⟨b2, o2, e2, hc2⟩ := HB.out.at_ k (by rw [HLB.out]; exact hlt)
      subst e1 e2
      have r1 := RA.out.2 k (by rw [HLA.out]; exact hlt) hlt
      have r2 := RB.out.2 k (by rw [HLB.out]; exact hlt) hlt
      generalize ua[k]'(by rw [HLA.out]; exact hlt) = u1 at *
      generalize ub[k]'(by rw [HLB.out]; exact hlt) = u2 at *
      have heq := equal_calls ps[k] ps[k] u1 u2 w r1 r2
      rw [show (ps[k] == ps[k]) = true by simp] at heq
      obtain ⟨A1, d1, rfl⟩ := r1.len
      obtain ⟨A2, d2, rfl⟩ := r2.len
      have HEQ := Lib.hid heq
      clear heq r1 r2
      generalize ps[k].length = n1 at *
      go_wp2_with fail
      refine HEQ.out.mono ?_
      rintro e wz ⟨rfl, rfl⟩
      go_wp2_with fail
      go_roundw
      case measure => simp [intOf]; omega
      case rel => exact ⟨k + 1, by omega, by go_num, by trivial⟩
    · obtain rfl : k = ps.length := by omega
      go_wp2_with fail
      go_ret
      exact ⟨rfl, rfl⟩
theorem same_yes (ps : List (List UInt8)) (ua ub : List Value) (va vb : Value) (w : World) (ha : Vals AllB w va ua) (hb : Vals AllB w vb ub) (ra : RS AllB w ua ps) (rb : RS AllB w ub ps) :
    Calls Tryd.prog 27 #[va, vb] w fun e w' => e = .returned (.bool true) ∧ w = w' := by
  have h := equalF_yes ps ua ub va vb w ha hb ra rb
  obtain ⟨Aa, ca, rfl⟩ := ha.len
  obtain ⟨Ab, cb, rfl⟩ := hb.len
  have H := Lib.hid h
  clear h
  go_enter Tryd.func27, Tryd.ntmps27
  go_wp2_with fail
  refine H.out.mono ?_
  rintro e wz ⟨rfl, rfl⟩
  go_wp2
  go_ret
  exact ⟨rfl, rfl⟩
theorem read_zeros (ps : List (List UInt8)) (z : Nat) : readL (standL ps z) (lenC ps : Nat) 4000 = List.replicate (min 4000 z) 0 := by
  unfold readL
  rw [if_neg (by rw [standL_length]; omega)]
  unfold standL
  rw [Int.toNat_natCast, show lenC ps = (chainB 0 1 ps).length from rfl, List.drop_left]
  simp
end Go.Proofs.YtgjaggnpheoehaaDoor
