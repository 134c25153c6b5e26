/- What stands in a round of the law LogSure: the log, the model, the acts, all apart. -/
import Derived.Test.YtgjaggnpheoehaaDoorLSureA
set_option linter.unusedVariables false
set_option linter.unusedSimpArgs false
namespace Go.Proofs.YtgjaggnpheoehaaDoor
open Go.RowKit

structure SI (w0 w : World) (q : Addr) (bm b : Nat) (F R : Nat → Prop) (L : List (List UInt8)) (sL : Nat) (D : DD) (A : List (List UInt8)) (sM : Nat) (va : Value) (us : List Value) (rv : Value) (n : Nat) (xs : List Value) : Prop where
  ld : LD w0 w b q F R L sL D
  m0 : w.cell? ⟨bm, 0, none⟩ = some va
  m1 : w.cell? ⟨bm, 1, none⟩ = some (.int .i64 (sM : Int))
  mf : ∀ i, i < 2 → w.frozen? ⟨bm, i, none⟩ = false
  own : Own1 22 w w0.heap.size va us
  rows : RS (fun k => ¬ F k ∧ k ≠ b ∧ k ≠ bm ∧ ¬ va.ownBlock = some k) w us A
  a1 : ∀ g, va.ownBlock = some g → ¬ F g ∧ ¬ R g ∧ g ≠ b ∧ g ≠ bm
  a2 : ¬ F bm ∧ ¬ R bm ∧ bm ≠ b ∧ w0.heap.size ≤ bm ∧ bm < w.heap.size
  act : w.ownsRow w0.heap.size 71 4 rv n xs
  a3 : ∀ g, rv.ownBlock = some g → ¬ F g ∧ ¬ R g ∧ g ≠ b ∧ g ≠ bm ∧ ¬ va.ownBlock = some g

section
variable {w0 w w' : World} {q : Addr} {bm b : Nat} {F R F' R' : Nat → Prop} {L L' A : List (List UInt8)} {sL sL' sM n : Nat} {D D' : DD} {va rv : Value} {us xs : List Value}
theorem SI.nob (h : SI w0 w q bm b F R L sL D A sM va us rv n xs) (k : Kp NoB w w') : SI w0 w' q bm b F R L sL D A sM va us rv n xs :=
  ⟨h.ld.nob k, k.cell h.m0 id, k.cell h.m1 id, fun i hi => (k.frozen (p := ⟨bm, i, none⟩) h.a2.2.2.2.2 id).trans (h.mf i hi), h.own.nob k, h.rows.nob k, h.a1, ⟨h.a2.1, h.a2.2.1, h.a2.2.2.1, h.a2.2.2.2.1, Nat.lt_of_lt_of_le h.a2.2.2.2.2 k.size⟩, own_nob h.act k, h.a3⟩
/-- A step of the log. -/
theorem SI.log (h : SI w0 w q bm b F R L sL D A sM va us rv n xs) (hs : LStep b F R w w' F' R') (hl : LD w0 w' b q F' R' L' sL' D') : SI w0 w' q bm b F' R' L' sL' D' A sM va us rv n xs := by
  have hFb : ¬ (F bm ∨ bm = b) := fun h' => h'.elim h.a2.1 h.a2.2.2.1
  have nF : ∀ g, g < w.heap.size → ¬ F g → ¬ F' g := fun g hg hf hf' => (hs.f g hf').elim hf fun h => by omega
  have nR : ∀ g, g < w.heap.size → ¬ R g → ¬ R' g := fun g hg hf hf' => (hs.r g hf').elim hf fun h => by omega
  have hlo := fun g hg => (h.own.lt g hg).2
  have hla := fun g hg => (World.ownsRow.lt h.act g hg).2
  refine ⟨hl, hs.kp.cell h.m0 hFb, hs.kp.cell h.m1 hFb, fun i hi => (hs.kp.frozen (p := ⟨bm, i, none⟩) h.a2.2.2.2.2 hFb).trans (h.mf i hi), h.own.kp hs.kp fun g _ hg hf => hf.elim (h.a1 g hg).1 (h.a1 g hg).2.2.1, ?_, fun g hg => ⟨nF g (hlo g hg) (h.a1 g hg).1, nR g (hlo g hg) (h.a1 g hg).2.1, (h.a1 g hg).2.2⟩, ⟨nF bm h.a2.2.2.2.2 h.a2.1, nR bm h.a2.2.2.2.2 h.a2.2.1, h.a2.2.2.1, h.a2.2.2.2.1, Nat.lt_of_lt_of_le h.a2.2.2.2.2 hs.kp.size⟩,
    own_kp h.act hs.kp fun g hg hf => hf.elim (h.a3 g hg).1 (h.a3 g hg).2.2.1, fun g hg => ⟨nF g (hla g hg) (h.a3 g hg).1, nR g (hla g hg) (h.a3 g hg).2.1, (h.a3 g hg).2.2⟩⟩
  refine ((h.rows.mono (T := fun k => (¬ F k ∧ k ≠ b ∧ k ≠ bm ∧ ¬ va.ownBlock = some k) ∧ k < w.heap.size) fun i hi h => ⟨h, hi⟩).kp hs.kp fun i _ hi hf => hf.elim hi.1.1 hi.1.2.1).mono fun i _ hi => ⟨nF i hi.2 hi.1.1, hi.1.2⟩
/-- The log is another one, which stands in a new block. -/
theorem SI.newlog {b' : Nat} (h : SI w0 w q bm b F R L sL D A sM va us rv n xs) (hs : Step F R w w' F' R') (hb : w.heap.size ≤ b') (hl : LD w0 w' b' q F' R' L' sL' D') : SI w0 w' q bm b' F' R' L' sL' D' A sM va us rv n xs := by
  have nF : ∀ g, g < w.heap.size → ¬ F g → ¬ F' g := fun g hg hf hf' => (hs.f g hf').elim hf fun h => by omega
  have nR : ∀ g, g < w.heap.size → ¬ R g → ¬ R' g := fun g hg hf hf' => (hs.r g hf').elim hf fun h => by omega
  have hlo := fun g hg => (h.own.lt g hg).2
  have hla := fun g hg => (World.ownsRow.lt h.act g hg).2
  have hbm := h.a2.2.2.2.2
  refine ⟨hl, hs.kp.cell h.m0 h.a2.1, hs.kp.cell h.m1 h.a2.1, fun i hi => (hs.kp.frozen (p := ⟨bm, i, none⟩) hbm h.a2.1).trans (h.mf i hi), h.own.kp hs.kp fun g _ hg hf => (h.a1 g hg).1 hf, ?_, fun g hg => ⟨nF g (hlo g hg) (h.a1 g hg).1, nR g (hlo g hg) (h.a1 g hg).2.1, by have := hlo g hg; omega, (h.a1 g hg).2.2.2⟩, ⟨nF bm hbm h.a2.1, nR bm hbm h.a2.2.1, by omega, h.a2.2.2.2.1, Nat.lt_of_lt_of_le hbm hs.kp.size⟩,
    own_kp h.act hs.kp fun g hg hf => (h.a3 g hg).1 hf, fun g hg => ⟨nF g (hla g hg) (h.a3 g hg).1, nR g (hla g hg) (h.a3 g hg).2.1, by have := hla g hg; omega, (h.a3 g hg).2.2.2⟩⟩
  refine ((h.rows.mono (T := fun k => (¬ F k ∧ k ≠ b ∧ k ≠ bm ∧ ¬ va.ownBlock = some k) ∧ k < w.heap.size) fun i hi h => ⟨h, hi⟩).kp hs.kp fun i _ hi hf => hi.1.1 hf).mono fun i _ hi => ⟨nF i hi.2 hi.1.1, by have := hi.2; omega, hi.1.2.2⟩
/-- A store into the model. -/
theorem kp_bm (w : World) (bm i : Nat) (v : Value) : Kp (fun k => k = bm) w (w.setCell ⟨bm, i, none⟩ v) := (Kp.refl (fun k => k = bm) w).setCell (p := ⟨bm, i, none⟩) (.inr rfl) v
theorem SI.setSure (h : SI w0 w q bm b F R L sL D A sM va us rv n xs) (s : Nat) : SI w0 (w.setCell ⟨bm, 1, none⟩ (.int .i64 (s : Int))) q bm b F R L sL D A s va us rv n xs := by
  have k := kp_bm w bm 1 (.int .i64 (s : Int))
  exact ⟨h.ld.grow k fun i hi => by have h1 : i = bm := hi; subst h1; exact ⟨h.a2.2.2.2.1, h.a2.1, h.a2.2.1, h.a2.2.2.1⟩, cell_set_other h.m0 _ (by decide), cell_set_same h.m1 _, fun i hi => by rw [World.frozen?_setCell]; exact h.mf i hi, h.own.kp k fun g _ hg hf => (h.a1 g hg).2.2.2 hf, h.rows.kp k fun i _ hi hf => hi.2.2.1 hf, h.a1, ⟨h.a2.1, h.a2.2.1, h.a2.2.2.1, h.a2.2.2.2.1, Nat.lt_of_lt_of_le h.a2.2.2.2.2 k.size⟩, own_kp h.act k fun g hg hf => (h.a3 g hg).2.2.2.1 hf, h.a3⟩
/-- The model's payloads are other ones: what the row's append left, then the store. -/
theorem SI.setAll {va' : Value} {us' : List Value} {A' : List (List UInt8)} (h : SI w0 w q bm b F R L sL D A sM va us rv n xs) (k : Kp (fun i => va.ownBlock = some i) w w') (own' : Own1 22 w' w0.heap.size va' us')
    (hnew : ∀ g, va'.ownBlock = some g → va.ownBlock = some g ∨ w.heap.size ≤ g) (rows' : RS (fun k => ¬ F k ∧ k ≠ b ∧ k ≠ bm ∧ ¬ va'.ownBlock = some k) w' us' A') : SI w0 (w'.setCell ⟨bm, 0, none⟩ va') q bm b F R L sL D A' sM va' us' rv n xs := by
  have kb := kp_bm w' bm 0 va'
  have hb : ¬ va.ownBlock = some bm := fun hb => (h.a1 bm hb).2.2.2 rfl
  have hlt := h.ld.lt
  have a1' : ∀ g, va'.ownBlock = some g → ¬ F g ∧ ¬ R g ∧ g ≠ b ∧ g ≠ bm := fun g hg => by
    rcases hnew g hg with h1 | h1
    · exact h.a1 g h1
    · exact ⟨fun hf => by have := hlt g (.inl hf); omega, fun hf => by have := hlt g (.inr (.inl hf)); omega, fun hf => by have := hlt g (.inr (.inr hf)); omega, fun hf => by have := h.a2.2.2.2.2; omega⟩
  have hla := fun g hg => (World.ownsRow.lt h.act g hg).2
  have m1' := k.cell h.m1 hb
  have m0' := k.cell h.m0 hb
  have ld1 := h.ld.grow k fun i hi => ⟨(h.own.lt i hi).1, (h.a1 i hi).1, (h.a1 i hi).2.1, (h.a1 i hi).2.2.1⟩
  exact ⟨ld1.grow kb fun i hi => by have h1 : i = bm := hi; subst h1; exact ⟨h.a2.2.2.2.1, h.a2.1, h.a2.2.1, h.a2.2.2.1⟩, cell_set_same m0' _, cell_set_other m1' _ (by decide),
    fun i hi => by rw [World.frozen?_setCell]; exact (k.frozen (p := ⟨bm, i, none⟩) h.a2.2.2.2.2 hb).trans (h.mf i hi), own'.kp kb fun g _ hg hf => (a1' g hg).2.2.2 hf, rows'.kp kb fun i _ hi hf => hi.2.2.1 hf, a1',
    ⟨h.a2.1, h.a2.2.1, h.a2.2.2.1, h.a2.2.2.2.1, Nat.lt_of_lt_of_le h.a2.2.2.2.2 (Nat.le_trans k.size kb.size)⟩, own_kp (own_kp h.act k fun g hg hf => (h.a3 g hg).2.2.2.2 hf) kb fun g hg hf => (h.a3 g hg).2.2.2.1 hf,
    fun g hg => ⟨(h.a3 g hg).1, (h.a3 g hg).2.1, (h.a3 g hg).2.2.1, (h.a3 g hg).2.2.2.1, fun hf => (hnew g hf).elim (h.a3 g hg).2.2.2.2 fun h1 => by have := hla g hg; omega⟩⟩
theorem SI.kp0 (h : SI w0 w q bm b F R L sL D A sM va us rv n xs) : Kp NoB w0 w := h.ld.made.kp
end
/-- A first part of an own row. -/
theorem Own1.cut {e : TypeId} {w : World} {base : Nat} {Ad : Option Addr} {m c : Nat} {us : List Value} (h : Own1 e w base (.slice Ad m c) us) (k : Nat) (hk : k ≤ us.length) : Own1 e w base (.slice Ad k c) (us.take k) := by
  unfold Own1 at h ⊢
  have hl : (us.take k).length = k := by simp; omega
  refine ⟨by rw [hl, Nat.mul_one], ?_⟩
  rcases h.2 with ⟨he, h0⟩ | ⟨g, cap, cur, he, hb, hg, h1, h2, h3, h4⟩
  · injection he with e1 e2 e3
    subst e1 e3
    have : k = 0 := by omega
    subst this
    exact .inl ⟨rfl, by simp⟩
  · injection he with e1 e2 e3
    subst e1 e3
    refine .inr ⟨g, c, cur, by rw [hl], hb, hg, by omega, h2, h3, ?_⟩
    rw [hl, Nat.mul_one]
    rw [Nat.mul_one] at h4
    rw [← h4, List.take_take, Nat.min_eq_left hk]
/-- The log's disk in the law LogSure. -/
def dSure (L : List (List UInt8)) (s z0 z : Nat) : DD := ⟨3000, false, standL (L.take s) z0, standL L z, waitsF (lenC (L.take s)) (chainS 0 1 (L.take s)) (s + 1) (L.drop s)⟩
theorem dSure_rec (L : List (List UInt8)) (z : Nat) : (⟨3000, false, standL L z, standL L z, []⟩ : DD) = dSure L L.length z z := by
  unfold dSure
  rw [List.take_length, List.drop_length]
  rfl
theorem dSure_sync (L : List (List UInt8)) (s z0 z : Nat) : syncD (dSure L s z0 z) = dSure L L.length z z := by
  rw [← dSure_rec]
  rfl
theorem dSure_app (L : List (List UInt8)) (s z0 z : Nat) (p : List UInt8) (hs : s ≤ L.length) (h : appE (dSure L s z0 z) L p = 0) : appD (dSure L s z0 z) L p = dSure (L ++ [p]) s z0 (z - (10 + p.length)) := by
  rw [appD_is (dSure L s z0 z) L z p rfl h]
  unfold dSure
  have e1 : (L ++ [p]).take s = L.take s := List.take_append_of_le_length hs
  have e2 : (L ++ [p]).drop s = L.drop s ++ [p] := List.drop_append_of_le_length hs
  have hts : (L.take s).length = s := by simp; omega
  have eB : lenC (L.take s) + (chainB (chainS 0 1 (L.take s)) (s + 1) (L.drop s)).length = lenC L := by
    have := chainB_append (L.take s) (L.drop s) 0 1
    rw [List.take_append_drop, hts, Nat.add_comm 1 s] at this
    unfold lenC
    rw [this, List.length_append]
  have eS : chainS (chainS 0 1 (L.take s)) (s + 1) (L.drop s) = chainS 0 1 L := by
    have := chainS_append (L.take s) (L.drop s) 0 1
    rw [List.take_append_drop, hts, Nat.add_comm 1 s] at this
    exact this.symm
  rw [e1, e2, waitsF_snoc, eB, eS]
  congr 4
  congr 1
  rw [List.length_drop]
  omega
/-- What a crash of it leaves. -/
theorem dSure_crash (L : List (List UInt8)) (s z0 z : Nat) (ks : List Int) : crashL (dSure L s z0 z).sure (dSure L s z0 z).waits ks = chainB 0 1 (L.take s) ++ crashL (List.replicate z0 0) (waitsF 0 (chainS 0 1 (L.take s)) (s + 1) (L.drop s)) ks := by
  have h := crash_shift (L.drop s) ks (chainB 0 1 (L.take s)) (List.replicate z0 0) 0 (chainS 0 1 (L.take s)) (s + 1)
  rw [Nat.add_zero] at h
  exact h
end Go.Proofs.YtgjaggnpheoehaaDoor
