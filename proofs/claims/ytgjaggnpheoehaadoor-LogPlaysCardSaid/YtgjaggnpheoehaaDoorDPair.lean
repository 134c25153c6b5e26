/- Both disks side by side. -/
import Derived.Test.YtgjaggnpheoehaaDoorDRef2
set_option linter.unusedVariables false
set_option linter.unusedSimpArgs false
namespace Go.Proofs.YtgjaggnpheoehaaDoor
open Go.RowKit

/-- The program's disk reads D, the reference's reads E; F: the blocks that are theirs; T: those where waiting bytes lie. -/
def Pair (w : World) (F T : Nat → Prop) (p r : Value) (D E : DD) : Prop :=
  ∃ A R B S, DiskIs w A R p D ∧ RefIs w B S r E ∧ (∀ k, A k → ¬ B k ∧ ¬ S k) ∧ (∀ k, B k → ¬ R k) ∧ (∀ k, F k ↔ A k ∨ B k) ∧ (∀ k, T k ↔ R k ∨ S k)
structure PStep (F T : Nat → Prop) (w w' : World) (F' T' : Nat → Prop) : Prop where
  kp : Kp F w w'
  f : ∀ k, F' k → F k ∨ w.heap.size ≤ k
  t : ∀ k, T' k → T k ∨ w.heap.size ≤ k
theorem PStep.of_nob {F T : Nat → Prop} {w w' : World} (k : Kp NoB w w') : PStep F T w w' F T := ⟨k.weak, fun _ h => .inl h, fun _ h => .inl h⟩
theorem PStep.trans {F F1 F2 T T1 T2 : Nat → Prop} {a b c : World} (h : PStep F T a b F1 T1) (k : PStep F1 T1 b c F2 T2) : PStep F T a c F2 T2 :=
  ⟨h.kp.step k.kp fun i hi hf => (h.f i hf).elim id fun hge => absurd hi (by omega),
   fun i hi => (k.f i hi).elim (fun h1 => h.f i h1) (fun hge => .inr (Nat.le_trans h.kp.size hge)),
   fun i hi => (k.t i hi).elim (fun h1 => h.t i h1) (fun hge => .inr (Nat.le_trans h.kp.size hge))⟩
theorem Pair.kp {w w' : World} {F T X : Nat → Prop} {p r : Value} {D E : DD} (h : Pair w F T p r D E) (k : Kp X w w') (hX : ∀ i, i < w.heap.size → X i → ¬ F i ∧ ¬ T i) : Pair w' F T p r D E := by
  obtain ⟨A, R, B, S, h1, h2, h3, h4, h5, h6⟩ := h
  exact ⟨A, R, B, S, h1.kp k fun i hi hx => ⟨fun ha => (hX i hi hx).1 ((h5 i).2 (.inl ha)), fun hr => (hX i hi hx).2 ((h6 i).2 (.inl hr))⟩, h2.kp k fun i hi hx => ⟨fun ha => (hX i hi hx).1 ((h5 i).2 (.inr ha)), fun hr => (hX i hi hx).2 ((h6 i).2 (.inr hr))⟩, h3, h4, h5, h6⟩
theorem Pair.nob {w w' : World} {F T : Nat → Prop} {p r : Value} {D E : DD} (h : Pair w F T p r D E) (k : Kp NoB w w') : Pair w' F T p r D E := h.kp k fun _ _ h => h.elim
theorem Pair.lt {w : World} {F T : Nat → Prop} {p r : Value} {D E : DD} (h : Pair w F T p r D E) : ∀ k, F k → k < w.heap.size := by
  obtain ⟨A, R, B, S, h1, h2, h3, h4, h5, h6⟩ := h
  exact fun k hk => ((h5 k).1 hk).elim (h1.lt k) (h2.lt k)
theorem Pair.ltT {w : World} {F T : Nat → Prop} {p r : Value} {D E : DD} (h : Pair w F T p r D E) : ∀ k, T k → k < w.heap.size := by
  obtain ⟨A, R, B, S, h1, h2, h3, h4, h5, h6⟩ := h
  exact fun k hk => ((h6 k).1 hk).elim (fun h => (h1.hR k h).1) (fun h => (h2.hR k h).1)
theorem Pair.ptr {w : World} {F T : Nat → Prop} {p r : Value} {D E : DD} (h : Pair w F T p r D E) : ∃ p0 r0, p = .pointer (some p0) ∧ r = .pointer (some r0) := by
  obtain ⟨A, R, B, S, h1, h2, _⟩ := h
  obtain ⟨p0, rfl⟩ := h1.ptr
  obtain ⟨r0, rfl⟩ := h2.ptr
  exact ⟨p0, r0, rfl, rfl⟩
/-- The program's disk, and what a call on it leaves of both. -/
theorem Pair.disk {w : World} {F T : Nat → Prop} {p r : Value} {D E : DD} (h : Pair w F T p r D E) :
    ∃ A R, DiskIs w A R p D ∧ (∀ k, A k → F k) ∧ ∀ w' A' R' D', DiskIs w' A' R' p D' → Step A R w w' A' R' → ∃ F' T', Pair w' F' T' p r D' E ∧ PStep F T w w' F' T' := by
  obtain ⟨A, R, B, S, h1, h2, h3, h4, h5, h6⟩ := h
  refine ⟨A, R, h1, fun k hk => (h5 k).2 (.inl hk), fun w' A' R' D' d s => ⟨fun k => A' k ∨ B k, fun k => R' k ∨ S k, ⟨A', R', B, S, d, h2.kp s.kp fun i _ ha => h3 i ha, fun k hk => ?_, fun k hk hr => ?_, fun k => Iff.rfl, fun k => Iff.rfl⟩, ?_⟩⟩
  · rcases s.f k hk with h | h
    · exact h3 k h
    · exact ⟨fun hb => by have := h2.lt k hb; omega, fun hs => by have := (h2.hR k hs).1; omega⟩
  · rcases s.r k hr with h | h
    · exact h4 k hk h
    · have := h2.lt k hk; omega
  · exact ⟨s.kp.mono fun k _ hk => (h5 k).2 (.inl hk), fun k hk => by
      rcases hk with hk | hk
      · exact (s.f k hk).imp (fun h => (h5 k).2 (.inl h)) id
      · exact .inl ((h5 k).2 (.inr hk)), fun k hk => by
      rcases hk with hk | hk
      · exact (s.r k hk).imp (fun h => (h6 k).2 (.inl h)) id
      · exact .inl ((h6 k).2 (.inr hk))⟩
/-- The reference's disk likewise. -/
theorem Pair.ref {w : World} {F T : Nat → Prop} {p r : Value} {D E : DD} (h : Pair w F T p r D E) :
    ∃ B S, RefIs w B S r E ∧ (∀ k, B k → F k) ∧ ∀ w' B' S' E', RefIs w' B' S' r E' → Step B S w w' B' S' → ∃ F' T', Pair w' F' T' p r D E' ∧ PStep F T w w' F' T' := by
  obtain ⟨A, R, B, S, h1, h2, h3, h4, h5, h6⟩ := h
  refine ⟨B, S, h2, fun k hk => (h5 k).2 (.inr hk), fun w' B' S' E' d s => ⟨fun k => A k ∨ B' k, fun k => R k ∨ S' k, ⟨A, R, B', S', h1.kp s.kp fun i _ hb => ⟨fun ha => (h3 i ha).1 hb, h4 i hb⟩, d, fun k hk => ⟨fun hb => ?_, fun hs => ?_⟩, fun k hk hr => ?_, fun k => Iff.rfl, fun k => Iff.rfl⟩, ?_⟩⟩
  · rcases s.f k hb with h | h
    · exact (h3 k hk).1 h
    · have := h1.lt k hk; omega
  · rcases s.r k hs with h | h
    · exact (h3 k hk).2 h
    · have := h1.lt k hk; omega
  · rcases s.f k hk with h | h
    · exact h4 k h hr
    · have := (h1.hR k hr).1; omega
  · exact ⟨s.kp.mono fun k _ hk => (h5 k).2 (.inr hk), fun k hk => by
      rcases hk with hk | hk
      · exact .inl ((h5 k).2 (.inl hk))
      · exact (s.f k hk).imp (fun h => (h5 k).2 (.inr h)) id, fun k hk => by
      rcases hk with hk | hk
      · exact .inl ((h6 k).2 (.inl hk))
      · exact (s.r k hk).imp (fun h => (h6 k).2 (.inr h)) id⟩
theorem Out.mono {A F : Nat → Prop} {w : World} (h : ∀ k, A k → F k) : ∀ k, Out F w k → Out A w k := fun k hk => ⟨hk.1, fun ha => hk.2 (h k ha)⟩
theorem BS.pstep {F F' T T' : Nat → Prop} {w w' : World} {v : Value} {l : List UInt8} (h : BS (Out F w) w v l) (k : PStep F T w w' F' T') : BS (Out F' w') w' v l :=
  (h.kp k.kp fun i _ hi => hi.2).mono fun i hi2 hi => ⟨hi2, fun hf => (k.f i hf).elim hi.2 fun hge => absurd hi.1 (by omega)⟩
/-- The field Full of the reference's disk is set. -/
theorem RefIs.setFull {w : World} {B S : Nat → Prop} {q : Nat} {E : DD} (h : RefIs w B S (.pointer (some ⟨q, 0, none⟩)) E) (on : Bool) :
    RefIs (w.setCell ⟨q, 1, none⟩ (.bool on)) B S (.pointer (some ⟨q, 0, none⟩)) { E with full := on } ∧ Step B S w (w.setCell ⟨q, 1, none⟩ (.bool on)) B S := by
  obtain ⟨b, vs, vw, ws, he, h⟩ := h
  injection he with he
  injection he with he
  injection he with he
  subst he
  have kq : Kp (fun k => k = q) w (w.setCell ⟨q, 1, none⟩ (.bool on)) := kp_set
  have s6 := kq.size
  refine ⟨⟨q, vs, vw, ws, rfl, ?_⟩, ⟨kq.mono fun k _ hk => hk ▸ h.hb, fun k hk => .inl hk, fun k hk => .inl hk⟩⟩
  exact { f0 := set_far h.f0 (by decide), f1 := set_same h.f1, f2 := set_far h.f2 (by decide), f3 := set_far h.f3 (by decide),
          fz := fun i hi => by rw [World.frozen?_setCell]; exact h.fz i hi
          os := h.os.kp kq fun k _ hk he => (h.hR k hk).2 (he ▸ h.hb)
          ow := own_kp h.ow kq h.nb
          rs := h.rs.kp kq fun k _ hk he => (h.hR k hk).2 (he ▸ h.hb)
          nb := h.nb, hb := h.hb, hF := h.hF
          lt := fun k hk => Nat.lt_of_lt_of_le (h.lt k hk) s6
          hR := fun k hk => ⟨Nat.lt_of_lt_of_le (h.hR k hk).1 s6, (h.hR k hk).2⟩
          c1 := h.c1, c2 := h.c2, c4 := h.c4, hs := h.hs }
theorem RefIs.full {w : World} {B S : Nat → Prop} {p : Value} {E : DD} (h : RefIs w B S p E) : ∃ q vw, p = .pointer (some ⟨q, 0, none⟩) ∧ w.cell? ⟨q, 1, none⟩ = some (.bool E.full) ∧ w.frozen? ⟨q, 1, none⟩ = false ∧ w.cell? ⟨q, 3, none⟩ = some vw ∧ ∃ A c, vw = .slice A E.waits.length c := by
  obtain ⟨b, vs, vw, ws, he, h⟩ := h
  exact ⟨b, vw, he, h.f1, h.fz 1 (by decide), h.f3, own2_len h.ow⟩
end Go.Proofs.YtgjaggnpheoehaaDoor
