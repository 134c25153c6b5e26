/- Steps of the law LogSure's model: a payload more; the first ones alone. -/
import Derived.Test.YtgjaggnpheoehaaDoorLSureC
set_option linter.unusedVariables false
set_option linter.unusedSimpArgs false
namespace Go.Proofs.YtgjaggnpheoehaaDoor
open Go.RowKit

/-- What is read of old blocks was so at the start. -/
theorem BS.back {w0 w : World} {v : Value} {l : List UInt8} (h : BS (fun b => b < w0.heap.size) w v l) (k : Kp NoB w0 w) : BS AllB w0 v l := by
  obtain ⟨A, c, rfl, hc, hm, hn, hr⟩ := h
  refine ⟨A, c, rfl, hc, hm, hn, fun h0 => ?_⟩
  obtain ⟨b, off, rfl, hS, hcell⟩ := hr h0
  exact ⟨b, off, rfl, trivial, fun j hj => (World.cell?_of_block (k.block b hS id)).symm.trans (hcell j hj)⟩
theorem Vals.back {w0 w : World} {v : Value} {us : List Value} (h : Vals (fun b => b < w0.heap.size) w v us) (k : Kp NoB w0 w) : Vals AllB w0 v us := by
  obtain ⟨A, c, rfl, hc, hm, hn, hr⟩ := h
  refine ⟨A, c, rfl, hc, hm, hn, fun h0 => ?_⟩
  obtain ⟨b, off, rfl, hS, hcell⟩ := hr h0
  exact ⟨b, off, rfl, trivial, fun j hj => (World.cell?_of_block (k.block b hS id)).symm.trans (hcell j hj)⟩
section
variable {w0 w w7 w8 w9 : World} {q : Addr} {bm b : Nat} {F R : Nat → Prop} {L A : List (List UInt8)} {sL sM n : Nat} {D : DD} {va rv : Value} {us xs : List Value}
/-- A payload's clone is appended to the model's. -/
theorem SI.push {p : List UInt8} {v7 v9 : Value} (h : SI w0 w q bm b F R L sL D A sM va us rv n xs) (o7 : Own 5 w7 w.heap.size v7 p) (k7 : Kp NoB w w7) (k8 : Kp NoB w7 w8)
    (own9 : Own1 22 w9 w0.heap.size v9 (us ++ [v7])) (c9 : v9.ownBlock = va.ownBlock ∨ v9.ownBlock = some w8.heap.size) (k9 : Kp (fun k => va.ownBlock = some k) w8 w9) :
    SI w0 (w9.setCell ⟨bm, 0, none⟩ v9) q bm b F R L sL D (A ++ [p]) sM v9 (us ++ [v7]) rv n xs := by
  have h8 := (h.nob k7).nob k8
  have hva := fun g hg => (h.own.lt g hg).2
  have s78 : w.heap.size ≤ w7.heap.size := k7.size
  have s8 : w7.heap.size ≤ w8.heap.size := k8.size
  have hlt := h.ld.lt
  have hbm := h.a2.2.2.2.2
  refine h8.setAll k9 own9 (fun g hg => c9.elim (fun e => .inl (by rw [← e]; exact hg)) fun e => .inr (by rw [e] at hg; injection hg with hg; omega)) ?_
  have r1 : RS (fun k => (¬ F k ∧ k ≠ b ∧ k ≠ bm ∧ ¬ va.ownBlock = some k) ∧ k < w8.heap.size) w8 us A := h8.rows.mono fun i hi hS => ⟨hS, hi⟩
  have r2 := (r1.kp k9 fun i _ hi hf => hi.1.2.2.2 hf).mono (T := fun k => ¬ F k ∧ k ≠ b ∧ k ≠ bm ∧ ¬ v9.ownBlock = some k) fun i _ hi => ⟨hi.1.1, hi.1.2.1, hi.1.2.2.1, fun hf => c9.elim (fun e => hi.1.2.2.2 (by rw [← e]; exact hf)) fun e => by rw [e] at hf; injection hf with hf; have := hi.2; omega⟩
  have o8 : BS (fun k => w.heap.size ≤ k ∧ k < w8.heap.size) w8 v7 p := (o7.nob k8).bs.mono fun i hi hS => ⟨hS.1, hi⟩
  have o9 : BS (fun k => w.heap.size ≤ k ∧ k < w8.heap.size) w9 v7 p := o8.kp k9 fun i _ hi hf => by have := hva i hf; omega
  refine r2.snoc (o9.mono fun i _ hi => ⟨fun hf => by have := hlt i (.inl hf); omega, fun hf => by have := hlt i (.inr (.inr hf)); omega, by omega, fun hf => c9.elim (fun e => by rw [e] at hf; have := hva i hf; omega) fun e => by rw [e] at hf; injection hf with hf; omega⟩)
/-- The model's first so many payloads alone. -/
theorem SI.trim {Ad : Option Addr} {m c : Nat} (h : SI w0 w q bm b F R L sL D A sM (.slice Ad m c) us rv n xs) (k : Nat) (hk : k ≤ us.length) :
    SI w0 ((w.setCell ⟨bm, 0, none⟩ (.slice Ad k c)).setCell ⟨bm, 1, none⟩ (.int .i64 (k : Int))) q bm b F R L sL D (A.take k) k (.slice Ad k c) (us.take k) rv n xs := by
  have e : (Value.slice Ad k c).ownBlock = (Value.slice Ad m c).ownBlock := by cases Ad <;> rfl
  exact (h.setAll (Kp.refl _ _) (h.own.cut k hk) (fun g hg => .inl (by rw [← e]; exact hg)) (by rw [e]; exact h.rows.take k)).setSure k
end
end Go.Proofs.YtgjaggnpheoehaaDoor
