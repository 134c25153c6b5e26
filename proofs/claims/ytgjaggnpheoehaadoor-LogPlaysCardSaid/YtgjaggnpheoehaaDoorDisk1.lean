/- A disk in memory, and its quiet calls. -/
import Derived.Test.YtgjaggnpheoehaaDoorDisk0
import Derived.StillTailTactics
import Derived.Deep.RegionHeld3
import Derived.Deep.DrawnRows
set_option linter.unusedVariables false
set_option linter.unusedSimpArgs false
namespace Go.Proofs.YtgjaggnpheoehaaDoor
open Go.RowKit

structure DD where
  cap : Nat
  full : Bool
  sure : List UInt8
  seen : List UInt8
  waits : List (Nat × List UInt8)
/-- The cells of the row of waiting writes. -/
def wrow : List (Nat × List UInt8) → List Value → List Value
  | (a, _) :: ds, v :: vs => .int .i64 (a : Int) :: v :: wrow ds vs
  | _, _ => []
theorem wrow_snoc : ∀ (ds : List (Nat × List UInt8)) (vs : List Value) (a : Nat) (b : List UInt8) (v : Value), vs.length = ds.length → wrow (ds ++ [(a, b)]) (vs ++ [v]) = wrow ds vs ++ [.int .i64 (a : Int), v]
  | [], [], _, _, _, _ => rfl
  | (x, y) :: ds, u :: vs, a, b, v, h => by
    simp only [List.cons_append, wrow]
    rw [wrow_snoc ds vs a b v (by simpa using h)]
  | [], _ :: _, _, _, _, h => by simp at h
  | _ :: _, [], _, _, _, h => by simp at h
theorem wrow_at : ∀ (ds : List (Nat × List UInt8)) (vs : List Value), vs.length = ds.length → ∀ j (h : j < ds.length) (h' : j < vs.length), (wrow ds vs)[2 * j]? = some (.int .i64 ((ds[j].1 : Nat) : Int)) ∧ (wrow ds vs)[2 * j + 1]? = some vs[j]
  | (x, y) :: ds, u :: vs, hl, 0, h, h' => ⟨rfl, rfl⟩
  | (x, y) :: ds, u :: vs, hl, j + 1, h, h' => by
    have := wrow_at ds vs (by simpa using hl) j (by simpa using h) (by simpa using h')
    simpa [wrow, Nat.mul_succ] using this
theorem wrow_length : ∀ (ds : List (Nat × List UInt8)) (vs : List Value), vs.length = ds.length → (wrow ds vs).length = ds.length * 2
  | [], [], _ => rfl
  | (x, y) :: ds, u :: vs, h => by
    simp only [wrow, List.length_cons, wrow_length ds vs (by simpa using h)]
    omega

/-- The disk at block b, its parts' values named. F: the blocks that are its own; R: those where the waiting bytes lie. -/
structure DiskAt (w : World) (F R : Nat → Prop) (b : Nat) (vs ve vw : Value) (ws : List Value) (D : DD) : Prop where
  f0 : w.cell? ⟨b, 0, none⟩ = some vs
  f1 : w.cell? ⟨b, 1, none⟩ = some ve
  f2 : w.cell? ⟨b, 2, none⟩ = some vw
  f3 : w.cell? ⟨b, 3, none⟩ = some (.int .i64 (D.cap : Int))
  f4 : w.cell? ⟨b, 4, none⟩ = some (.bool D.full)
  f5 : w.cell? ⟨b, 5, none⟩ = some (.bool true)
  fz : ∀ i, i < 6 → w.frozen? ⟨b, i, none⟩ = false
  os : Own 5 w 0 vs D.sure
  oe : Own 5 w 0 ve D.seen
  ow : w.ownsRow 0 103 2 vw D.waits.length (wrow D.waits ws)
  rs : RS R w ws (D.waits.map (·.2))
  nb : ∀ k, vs.ownBlock = some k ∨ ve.ownBlock = some k ∨ vw.ownBlock = some k → k ≠ b
  nse : ∀ k, vs.ownBlock = some k → ¬ ve.ownBlock = some k
  hb : F b
  hF : ∀ k, vs.ownBlock = some k ∨ ve.ownBlock = some k ∨ vw.ownBlock = some k → F k
  lt : ∀ k, F k → k < w.heap.size
  hR : ∀ k, R k → k < w.heap.size ∧ ¬ F k
  c1 : D.cap ≤ 1048576
  c2 : D.sure.length ≤ D.cap
  c3 : D.seen.length ≤ D.cap
  c4 : ∀ x ∈ D.waits, x.1 + x.2.length ≤ D.cap
def DiskIs (w : World) (F R : Nat → Prop) (p : Value) (D : DD) : Prop := ∃ b vs ve vw ws, p = .pointer (some ⟨b, 0, none⟩) ∧ DiskAt w F R b vs ve vw ws D
theorem Kp.frozen {F : Nat → Prop} {w w' : World} (h : Kp F w w') {p : Addr} (hp : p.block < w.heap.size) (hF : ¬ F p.block) : w'.frozen? p = w.frozen? p := by
  have := h.block p.block hp hF
  unfold World.frozen?
  rw [this]
theorem DiskAt.kp {w w' : World} {F R X : Nat → Prop} {b : Nat} {vs ve vw : Value} {ws : List Value} {D : DD} (h : DiskAt w F R b vs ve vw ws D) (k : Kp X w w') (hX : ∀ i, i < w.heap.size → X i → ¬ F i ∧ ¬ R i) : DiskAt w' F R b vs ve vw ws D := by
  have hb : ¬ X b := fun hx => (hX b (h.lt b h.hb) hx).1 h.hb
  have hv : ∀ i, vs.ownBlock = some i ∨ ve.ownBlock = some i ∨ vw.ownBlock = some i → ¬ X i := fun i hi hx => (hX i (h.lt i (h.hF i hi)) hx).1 (h.hF i hi)
  exact { f0 := k.cell h.f0 hb, f1 := k.cell h.f1 hb, f2 := k.cell h.f2 hb, f3 := k.cell h.f3 hb, f4 := k.cell h.f4 hb, f5 := k.cell h.f5 hb,
          fz := fun i hi => (k.frozen (p := ⟨b, i, none⟩) (h.lt b h.hb) hb).trans (h.fz i hi),
          os := h.os.kp k fun i _ hi => hv i (.inl hi), oe := h.oe.kp k fun i _ hi => hv i (.inr (.inl hi)), ow := own_kp h.ow k fun i hi => hv i (.inr (.inr hi)),
          rs := h.rs.kp k fun i hi hr hx => (hX i hi hx).2 hr, nb := h.nb, nse := h.nse, hb := h.hb, hF := h.hF,
          lt := fun i hi => Nat.lt_of_lt_of_le (h.lt i hi) k.size, hR := fun i hi => ⟨Nat.lt_of_lt_of_le (h.hR i hi).1 k.size, (h.hR i hi).2⟩,
          c1 := h.c1, c2 := h.c2, c3 := h.c3, c4 := h.c4 }
theorem DiskIs.kp {w w' : World} {F R X : Nat → Prop} {p : Value} {D : DD} (h : DiskIs w F R p D) (k : Kp X w w') (hX : ∀ i, i < w.heap.size → X i → ¬ F i ∧ ¬ R i) : DiskIs w' F R p D := by
  obtain ⟨b, vs, ve, vw, ws, rfl, h⟩ := h
  exact ⟨b, vs, ve, vw, ws, rfl, h.kp k hX⟩
theorem DiskIs.nob {w w' : World} {F R : Nat → Prop} {p : Value} {D : DD} (h : DiskIs w F R p D) (k : Kp NoB w w') : DiskIs w' F R p D := h.kp k fun _ _ h => h.elim
/-- What a call on a disk may do: change its own blocks, make new ones, take new ones in. -/
structure Step (F R : Nat → Prop) (w w' : World) (F' R' : Nat → Prop) : Prop where
  kp : Kp F w w'
  f : ∀ k, F' k → F k ∨ w.heap.size ≤ k
  r : ∀ k, R' k → R k ∨ w.heap.size ≤ k
theorem Step.of_nob {F R : Nat → Prop} {w w' : World} (k : Kp NoB w w') : Step F R w w' F R := ⟨k.weak, fun _ h => .inl h, fun _ h => .inl h⟩
theorem Step.trans {F R F1 R1 F2 R2 : Nat → Prop} {a b c : World} (h : Step F R a b F1 R1) (k : Step F1 R1 b c F2 R2) : Step F R a c F2 R2 :=
  ⟨h.kp.step k.kp fun i hi hf => (h.f i hf).elim id fun hge => absurd hi (by omega),
   fun i hi => (k.f i hi).elim (fun h1 => h.f i h1) (fun hge => .inr (Nat.le_trans h.kp.size hge)),
   fun i hi => (k.r i hi).elim (fun h1 => h.r i h1) (fun hge => .inr (Nat.le_trans h.kp.size hge))⟩
/-- What lies outside. -/
def Out (F : Nat → Prop) (w : World) : Nat → Prop := fun k => k < w.heap.size ∧ ¬ F k
theorem Step.out {F R F' R' : Nat → Prop} {w w' : World} (h : Step F R w w' F' R') : ∀ k, Out F w k → Out F' w' k := fun k hk =>
  ⟨Nat.lt_of_lt_of_le hk.1 h.kp.size, fun hf => (h.f k hf).elim hk.2 fun hge => absurd hk.1 (by omega)⟩
theorem BS.step {F R F' R' : Nat → Prop} {w w' : World} {v : Value} {l : List UInt8} (h : BS (Out F w) w v l) (k : Step F R w w' F' R') : BS (Out F' w') w' v l :=
  (h.kp k.kp fun i _ hi => hi.2).mono fun i _ hi => k.out i hi

set_option maxRecDepth 100000 in
theorem none_calls {w : World} {F R : Nat → Prop} {p : Value} {D : DD} (h : DiskIs w F R p D) :
    Calls Tryd.prog 58 #[p] w fun e w' => e = .returned (.bool false) ∧ w = w' := by
  obtain ⟨b, vs, ve, vw, ws, rfl, h⟩ := h
  have h5 := h.f5
  clear h
  go_enter Tryd.func58, Tryd.ntmps58
  go_wp2
  go_ret
  exact ⟨rfl, rfl⟩

set_option maxRecDepth 100000 in
theorem new_calls (c : Nat) (hc : c ≤ 1048576) (w : World) :
    Calls Tryd.prog 23 #[.int .i64 (c : Int)] w fun e w' => ∃ p, e = .returned (.tuple #[p, .int .i64 0]) ∧ DiskIs w' (fun k => k = w.heap.size) (fun _ => False) p ⟨c, false, [], [], []⟩ ∧ Kp NoB w w' := by
  go_enter Tryd.func23, Tryd.ntmps23
  go_wp2
  go_ret2
  have hh := heap_alloc_new w (.cells #[.slice none 0 0, .slice none 0 0, .slice none 0 0, .int .i64 (c : Int), .bool false, .bool true] 98)
  refine ⟨_, rfl, ⟨w.heap.size, .slice none 0 0, .slice none 0 0, .slice none 0 0, [], rfl, ?_⟩, (Kp.refl _ _).alloc _⟩
  have hc' : ∀ i v, (#[.slice none 0 0, .slice none 0 0, .slice none 0 0, .int .i64 (c : Int), .bool false, .bool true] : Array Value)[i]? = some v → (w.alloc (.cells #[.slice none 0 0, .slice none 0 0, .slice none 0 0, .int .i64 (c : Int), .bool false, .bool true] 98)).cell? ⟨w.heap.size, i, none⟩ = some v := by
    intro i v hv
    simp only [World.cell?, hh]
    exact hv
  exact { f0 := hc' 0 _ rfl, f1 := hc' 1 _ rfl, f2 := hc' 2 _ rfl, f3 := hc' 3 _ rfl, f4 := hc' 4 _ rfl, f5 := hc' 5 _ rfl,
          fz := fun i _ => by simp only [World.frozen?, hh]; simp,
          os := Own.nil _ _ _, oe := Own.nil _ _ _, ow := World.ownsRow_nil _ _ _ _, rs := RS.nil _ _, nb := fun k h => by simp [Value.ownBlock] at h, nse := fun k h => by simp [Value.ownBlock] at h,
          hb := rfl, hF := fun k h => by simp [Value.ownBlock] at h, lt := fun k h => by subst h; simp, hR := fun k h => h.elim,
          c1 := hc, c2 := Nat.zero_le _, c3 := Nat.zero_le _, c4 := fun x hx => by cases hx }

set_option maxRecDepth 100000 in
theorem end_calls {w : World} {F R : Nat → Prop} {p : Value} {D : DD} (h : DiskIs w F R p D) :
    Calls Tryd.prog 56 #[p] w fun e w' => e = .returned (.int .i64 (D.seen.length : Nat)) ∧ w = w' := by
  have hn := none_calls h
  obtain ⟨b, vs, ve, vw, ws, rfl, h⟩ := h
  have h1 := h.f1
  obtain ⟨A, c, rfl⟩ := h.oe.bs.len
  clear h
  go_enter Tryd.func56, Tryd.ntmps56
  go_wp2_with (go_at_call 58; refine hn.mono ?_; rintro e w1 ⟨rfl, rfl⟩)
  go_ret
  exact ⟨rfl, rfl⟩

set_option maxRecDepth 100000 in
theorem waits_calls {w : World} {F R : Nat → Prop} {p : Value} {D : DD} (h : DiskIs w F R p D) :
    Calls Tryd.prog 33 #[p] w fun e w' => e = .returned (.int .i64 (D.waits.length : Nat)) ∧ w = w' := by
  have hn := none_calls h
  obtain ⟨b, vs, ve, vw, ws, rfl, h⟩ := h
  have h2 := h.f2
  obtain ⟨A, c, rfl⟩ : ∃ A c, vw = .slice A D.waits.length c := by
    rcases h.ow.2 with ⟨rfl, h0⟩ | ⟨g, cap, cur, rfl, _⟩
    · exact ⟨none, 0, by rw [h0]⟩
    · exact ⟨_, _, rfl⟩
  clear h
  go_enter Tryd.func33, Tryd.ntmps33
  go_wp2_with (go_at_call 58; refine hn.mono ?_; rintro e w1 ⟨rfl, rfl⟩)
  go_ret
  exact ⟨rfl, rfl⟩
end Go.Proofs.YtgjaggnpheoehaaDoor
