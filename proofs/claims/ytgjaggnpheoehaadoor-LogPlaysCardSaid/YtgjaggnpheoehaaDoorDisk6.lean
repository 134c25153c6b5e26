/- Words for the laws of a disk: literals, what lies outside, bytes.Equal. -/
import Derived.Test.YtgjaggnpheoehaaDoorDisk5
set_option linter.unusedVariables false
set_option linter.unusedSimpArgs false
namespace Go.Proofs.YtgjaggnpheoehaaDoor
open Go.RowKit

theorem Vals.lit (e : TypeId) (w : World) (us : List Value) (n : Nat) (hn : us.length = n) (hl : us.length ≤ 1000000) (fr : Nat × Nat) :
    Vals (fun b => w.heap.size ≤ b) (w.alloc (.cells us.toArray e fr)) (.slice (some ⟨w.heap.size, 0, none⟩) n n) us := by
  subst hn
  refine ⟨_, us.length, rfl, Nat.le_refl _, by omega, (fun h => by cases h), fun h0 => ⟨_, 0, rfl, Nat.le_refl _, fun j hj => ?_⟩⟩
  have hh : (w.alloc (.cells us.toArray e fr)).heap[w.heap.size]? = some (.cells us.toArray e fr) := heap_alloc_new w _
  simp only [World.cell?, hh]
  simp [hj]
theorem DiskIs.fresh {w : World} {F R : Nat → Prop} {p : Value} {D : DD} (h : DiskIs w F R p D) (w' : World) : ∀ b, b < w'.heap.size → w.heap.size ≤ b → Out F w' b := by
  obtain ⟨q, vs, ve, vw, ws, rfl, h⟩ := h
  exact fun b h1 h2 => ⟨h1, fun hf => by have := h.lt b hf; omega⟩
/-- Old blocks: none of a disk that the call made. -/
theorem out_old {w0 w : World} {F : Nat → Prop} (hF : ∀ k, F k → w0.heap.size ≤ k) (hs : w0.heap.size ≤ w.heap.size) : ∀ b, b < w0.heap.size → Out F w b := fun b hb => ⟨by omega, fun hf => by have := hF b hf; omega⟩

set_option maxRecDepth 100000 in
theorem equal_calls (l m : List UInt8) (v x : Value) (w : World) (hv : BS AllB w v l) (hx : BS AllB w x m) :
    Calls Tryd.prog 39 #[v, x] w fun e w' => e = .returned (.bool (l == m)) ∧ w = w' := by
  obtain ⟨A, c, rfl⟩ := hv.len
  obtain ⟨A', c', rfl⟩ := hx.len
  have k1 := run_string byteD hv 9 Tryd.underlying9
  have k2 := run_string byteD hx 9 Tryd.underlying9
  clear hv hx
  go_enter Tryd.func39, Tryd.ntmps39
  go_wp2
  go_ret
  exact ⟨rfl, rfl⟩

/-- A disk that the call made, since w0. -/
structure Made (w0 : World) (F : Nat → Prop) (w : World) : Prop where
  kp : Kp NoB w0 w
  new : ∀ k, F k → w0.heap.size ≤ k
theorem Made.step {w0 w w' : World} {F R F' R' : Nat → Prop} (h : Made w0 F w) (k : Step F R w w' F' R') : Made w0 F' w' :=
  ⟨h.kp.step k.kp fun i hi hf => absurd (h.new i hf) (by omega), fun i hi => (k.f i hi).elim (h.new i) fun hge => Nat.le_trans h.kp.size hge⟩
theorem Made.nob {w0 w w' : World} {F : Nat → Prop} (h : Made w0 F w) (k : Kp NoB w w') : Made w0 F w' := ⟨h.kp.trans k, h.new⟩
theorem Made.old {w0 w : World} {F : Nat → Prop} (h : Made w0 F w) {v : Value} {l : List UInt8} (hb : BS AllB w0 v l) : BS (Out F w) w v l :=
  (hb.lt.nob h.kp).mono fun b _ hb => ⟨Nat.lt_of_lt_of_le hb h.kp.size, fun hf => by have := h.new b hf; omega⟩
theorem Made.oldV {w0 w : World} {F : Nat → Prop} (h : Made w0 F w) {v : Value} {us : List Value} (hb : Vals AllB w0 v us) : Vals (Out F w) w v us :=
  ((hb.mono (T := fun b => b < w0.heap.size) fun _ h _ => h).nob h.kp).mono fun b _ hb => ⟨Nat.lt_of_lt_of_le hb h.kp.size, fun hf => by have := h.new b hf; omega⟩

/-- Write of a literal. -/
theorem writeL_calls {w : World} {F R : Nat → Prop} {p : Value} {D : DD} (h : DiskIs w F R p D) (a : Int) (l : List UInt8) (n : Nat) (cs : Array Value) (hcs : cs = (bvs l).toArray) (hn : n = l.length) (hl : l.length ≤ 1000000) (ha : -9223372036854775808 ≤ a ∧ a ≤ 9223372036854775807) (hw : D.waits.length ≤ 1000000) :
    Calls Tryd.prog 45 #[p, .int .i64 a, .slice (some ⟨w.heap.size, 0, none⟩) n n] (w.alloc (.cells cs 5)) fun e w' => e = .returned (.int .i64 (writeE D a l : Nat)) ∧ ∃ F' R', DiskIs w' F' R' p (writeD D a l) ∧ Step F R w w' F' R' := by
  have kA : Kp NoB w (w.alloc (.cells cs 5)) := (Kp.refl _ _).alloc _
  refine (write_calls (h.nob kA) a l _ ((BS.lit 5 w cs (0, 0) l n hcs hn hl).mono (h.fresh _)) ha hw).mono ?_
  rintro e w' ⟨he, F', R', hd, hs⟩
  exact ⟨he, F', R', hd, (Step.of_nob kA).trans hs⟩
/-- Crash that keeps a literal. -/
theorem crashL_calls {w : World} {F R : Nat → Prop} {p : Value} {D : DD} (h : DiskIs w F R p D) (ks : List Int) (n : Nat) (cs : Array Value) (hcs : cs = (ks.map (Value.int .i64)).toArray) (hn : ks.length = n) (hl : ks.length ≤ 1000000) (hk : ∀ k ∈ ks, -9223372036854775808 ≤ k ∧ k ≤ 9223372036854775807) (hw : D.waits.length ≤ 1000000) :
    Calls Tryd.prog 31 #[p, .slice (some ⟨w.heap.size, 0, none⟩) n n] (w.alloc (.cells cs 3)) fun e w' => e = .returned (.int .i64 0) ∧ ∃ F' R', DiskIs w' F' R' p { D with sure := crashL D.sure D.waits ks, seen := crashL D.sure D.waits ks, waits := [] } ∧ Step F R w w' F' R' := by
  subst hcs
  have kA : Kp NoB w (w.alloc (.cells (ks.map (Value.int .i64)).toArray 3)) := (Kp.refl _ _).alloc _
  refine (crash_calls (h.nob kA) ks _ ((Vals.lit 3 w (ks.map (Value.int .i64)) n (by simpa using hn) (by simpa using hl) (0, 0)).mono (h.fresh _)) hk hw).mono ?_
  rintro e w' ⟨he, F', R', hd, hs⟩
  exact ⟨he, F', R', hd, (Step.of_nob kA).trans hs⟩
/-- bytes.Equal with a literal. -/
theorem equalL_calls (l m : List UInt8) (v : Value) (w : World) (n : Nat) (cs : Array Value) (hcs : cs = (bvs m).toArray) (hn : n = m.length) (hl : m.length ≤ 1000000) (hv : BS AllB w v l) :
    Calls Tryd.prog 39 #[v, .slice (some ⟨w.heap.size, 0, none⟩) n n] (w.alloc (.cells cs 5)) fun e w' => e = .returned (.bool (l == m)) ∧ Kp NoB w w' := by
  have kA : Kp NoB w (w.alloc (.cells cs 5)) := (Kp.refl _ _).alloc _
  refine (equal_calls l m v _ _ (hv.nob kA) (BS.lit 5 w cs (0, 0) m n hcs hn hl).all).mono ?_
  rintro e w' ⟨he, rfl⟩
  exact ⟨he, kA⟩
theorem DiskIs.ptr {w : World} {F R : Nat → Prop} {p : Value} {D : DD} (h : DiskIs w F R p D) : ∃ q, p = .pointer (some q) := by
  obtain ⟨b, _, _, _, _, rfl, _⟩ := h
  exact ⟨_, rfl⟩
theorem DiskIs.lt {w : World} {F R : Nat → Prop} {p : Value} {D : DD} (h : DiskIs w F R p D) : ∀ k, F k → k < w.heap.size := by
  obtain ⟨b, _, _, _, _, _, h⟩ := h
  exact h.lt
theorem DiskIs.hR {w : World} {F R : Nat → Prop} {p : Value} {D : DD} (h : DiskIs w F R p D) : ∀ k, R k → k < w.heap.size ∧ ¬ F k := by
  obtain ⟨b, _, _, _, _, _, h⟩ := h
  exact h.hR
end Go.Proofs.YtgjaggnpheoehaaDoor
