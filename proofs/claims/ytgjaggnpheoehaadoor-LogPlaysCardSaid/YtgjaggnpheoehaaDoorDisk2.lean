/- Fill, Sync, Read of a disk. -/
import Derived.Test.YtgjaggnpheoehaaDoorDisk1
set_option linter.unusedVariables false
set_option linter.unusedSimpArgs false
namespace Go.Proofs.YtgjaggnpheoehaaDoor
open Go.RowKit

/-- The six cells. -/
structure Head (w : World) (b : Nat) (vs ve vw : Value) (c : Nat) (f : Bool) : Prop where
  f0 : w.cell? ⟨b, 0, none⟩ = some vs
  f1 : w.cell? ⟨b, 1, none⟩ = some ve
  f2 : w.cell? ⟨b, 2, none⟩ = some vw
  f3 : w.cell? ⟨b, 3, none⟩ = some (.int .i64 (c : Int))
  f4 : w.cell? ⟨b, 4, none⟩ = some (.bool f)
  f5 : w.cell? ⟨b, 5, none⟩ = some (.bool true)
  fz : ∀ i, i < 6 → w.frozen? ⟨b, i, none⟩ = false
theorem set_same {w : World} {a : Addr} {u v : Value} (h : w.cell? a = some u) : (w.setCell a v).cell? a = some v := World.cell?_setCell_same _ _ _ h
theorem set_far {w : World} {b i j : Nat} {u v : Value} (h : w.cell? ⟨b, j, none⟩ = some u) (hne : i ≠ j) : (w.setCell ⟨b, i, none⟩ v).cell? ⟨b, j, none⟩ = some u := by
  exact (World.cell?_setCell_other w ⟨b, i, none⟩ ⟨b, j, none⟩ v (by intro h; injection h with _ h; exact hne h)).trans h
theorem Head.set0 {w : World} {b c : Nat} {vs ve vw : Value} {f : Bool} (h : Head w b vs ve vw c f) (v : Value) : Head (w.setCell ⟨b, 0, none⟩ v) b v ve vw c f :=
  ⟨set_same h.f0, set_far h.f1 (by decide), set_far h.f2 (by decide), set_far h.f3 (by decide), set_far h.f4 (by decide), set_far h.f5 (by decide), fun i hi => by rw [World.frozen?_setCell]; exact h.fz i hi⟩
theorem Head.set1 {w : World} {b c : Nat} {vs ve vw : Value} {f : Bool} (h : Head w b vs ve vw c f) (v : Value) : Head (w.setCell ⟨b, 1, none⟩ v) b vs v vw c f :=
  ⟨set_far h.f0 (by decide), set_same h.f1, set_far h.f2 (by decide), set_far h.f3 (by decide), set_far h.f4 (by decide), set_far h.f5 (by decide), fun i hi => by rw [World.frozen?_setCell]; exact h.fz i hi⟩
theorem Head.set2 {w : World} {b c : Nat} {vs ve vw : Value} {f : Bool} (h : Head w b vs ve vw c f) (v : Value) : Head (w.setCell ⟨b, 2, none⟩ v) b vs ve v c f :=
  ⟨set_far h.f0 (by decide), set_far h.f1 (by decide), set_same h.f2, set_far h.f3 (by decide), set_far h.f4 (by decide), set_far h.f5 (by decide), fun i hi => by rw [World.frozen?_setCell]; exact h.fz i hi⟩
theorem Head.set4 {w : World} {b c : Nat} {vs ve vw : Value} {f : Bool} (h : Head w b vs ve vw c f) (v : Bool) : Head (w.setCell ⟨b, 4, none⟩ (.bool v)) b vs ve vw c v :=
  ⟨set_far h.f0 (by decide), set_far h.f1 (by decide), set_far h.f2 (by decide), set_far h.f3 (by decide), set_same h.f4, set_far h.f5 (by decide), fun i hi => by rw [World.frozen?_setCell]; exact h.fz i hi⟩
theorem Head.kp {w w' : World} {b c : Nat} {vs ve vw : Value} {f : Bool} {X : Nat → Prop} (h : Head w b vs ve vw c f) (k : Kp X w w') (hX : ¬ X b) : Head w' b vs ve vw c f :=
  ⟨k.cell h.f0 hX, k.cell h.f1 hX, k.cell h.f2 hX, k.cell h.f3 hX, k.cell h.f4 hX, k.cell h.f5 hX, fun i hi => (k.frozen (p := ⟨b, i, none⟩) (World.block_lt_of_cell? w ⟨b, 0, none⟩ h.f0) hX).trans (h.fz i hi)⟩
theorem DiskAt.head {w : World} {F R : Nat → Prop} {b : Nat} {vs ve vw : Value} {ws : List Value} {D : DD} (h : DiskAt w F R b vs ve vw ws D) : Head w b vs ve vw D.cap D.full := ⟨h.f0, h.f1, h.f2, h.f3, h.f4, h.f5, h.fz⟩
theorem kp_set {w : World} {b i : Nat} {v : Value} : Kp (fun k => k = b) w (w.setCell ⟨b, i, none⟩ v) := (Kp.refl (fun k => k = b) w).setCell (p := ⟨b, i, none⟩) (.inr rfl) v

set_option maxRecDepth 100000 in
theorem fill_calls {w : World} {F R : Nat → Prop} {p : Value} {D : DD} (h : DiskIs w F R p D) (on : Bool) :
    Calls Tryd.prog 44 #[p, .bool on] w fun e w' => e = .returned (.int .i64 0) ∧ DiskIs w' F R p { D with full := on } ∧ Step F R w w' F R := by
  have hn := none_calls h
  obtain ⟨b, vs, ve, vw, ws, rfl, h⟩ := h
  have h4 := h.f4
  have z4 := h.fz 4 (by decide)
  have H := Lib.hid h
  clear h
  go_enter Tryd.func44, Tryd.ntmps44
  go_wp2_with (go_at_call 58; refine hn.mono ?_; rintro e w1 ⟨rfl, rfl⟩)
  go_ret
  have h := H.out
  have hk : Kp (fun k => k = b) w (w.setCell ⟨b, 4, none⟩ (.bool on)) := kp_set
  have hd := h.head.set4 on
  have hx : ∀ i, vs.ownBlock = some i ∨ ve.ownBlock = some i ∨ vw.ownBlock = some i → ¬ i = b := h.nb
  refine ⟨rfl, ⟨b, vs, ve, vw, ws, rfl, ?_⟩, ⟨hk.mono fun i _ hi => hi ▸ h.hb, fun _ h => .inl h, fun _ h => .inl h⟩⟩
  exact { f0 := hd.f0, f1 := hd.f1, f2 := hd.f2, f3 := hd.f3, f4 := hd.f4, f5 := hd.f5, fz := hd.fz,
          os := h.os.kp hk fun i _ hi => hx i (.inl hi), oe := h.oe.kp hk fun i _ hi => hx i (.inr (.inl hi)), ow := own_kp h.ow hk fun i hi => hx i (.inr (.inr hi)),
          rs := h.rs.kp hk fun i _ hr hi => (h.hR i hr).2 (hi ▸ h.hb), nb := h.nb, nse := h.nse, hb := h.hb, hF := h.hF,
          lt := fun i hi => Nat.lt_of_lt_of_le (h.lt i hi) hk.size, hR := fun i hi => ⟨Nat.lt_of_lt_of_le (h.hR i hi).1 hk.size, (h.hR i hi).2⟩,
          c1 := h.c1, c2 := h.c2, c3 := h.c3, c4 := h.c4 }

set_option maxRecDepth 100000 in
theorem sync_calls {w : World} {F R : Nat → Prop} {p : Value} {D : DD} (h : DiskIs w F R p D) :
    Calls Tryd.prog 46 #[p] w fun e w' => e = .returned (.int .i64 0) ∧ ∃ F' R', DiskIs w' F' R' p { D with sure := D.seen, waits := [] } ∧ Step F R w w' F' R' := by
  have hn := none_calls h
  obtain ⟨b, vs, ve, vw, ws, rfl, h⟩ := h
  have h1 := h.f1
  have h0 := h.f0
  have h2 := h.f2
  have z0 := h.fz 0 (by decide)
  have z2 := h.fz 2 (by decide)
  have hbl := h.lt b h.hb
  have H := Lib.hid h
  have hcl := cloneD_calls D.seen ve w h.oe.bs.all (by have := h.c1; have := h.c3; omega)
  clear h
  go_enter Tryd.func46, Tryd.ntmps46
  go_wp2_with (first
    | (go_at_call 58; refine hn.mono ?_; rintro e w1 ⟨rfl, rfl⟩)
    | fail)
  refine hcl.mono ?_
  rintro e w1 ⟨v1, rfl, ho1, hk1⟩
  have g0 := hk1.cell h0 id
  have g2 := hk1.cell h2 id
  have y0 := (hk1.frozen (p := ⟨b, 0, none⟩) hbl id).trans z0
  have y2 := (hk1.frozen (p := ⟨b, 2, none⟩) hbl id).trans z2
  obtain ⟨A1, c1, rfl⟩ := ho1.bs.len
  have HO := Lib.hid ho1
  have HK := Lib.hid hk1
  clear hn hcl h0 h1 h2 z0 z2 ho1 hk1
  go_wp2_with fail
  go_ret
  have h := H.out
  have ho1 := HO.out
  have hk1 := HK.out
  generalize Value.slice A1 D.seen.length c1 = v1 at *
  have hk : Kp (fun k => k = b) w1 ((w1.setCell ⟨b, 0, none⟩ v1).setCell ⟨b, 2, none⟩ (.slice none 0 0)) := kp_set.trans kp_set
  have hd := ((h.head.kp hk1 id).set0 v1).set2 (.slice none 0 0)
  have hx : ∀ i, vs.ownBlock = some i ∨ ve.ownBlock = some i ∨ vw.ownBlock = some i → ¬ i = b := h.nb
  have hv1 := ho1.lt
  have hk02 : Kp (fun k => k = b) w ((w1.setCell ⟨b, 0, none⟩ v1).setCell ⟨b, 2, none⟩ (.slice none 0 0)) := hk1.weak.trans hk
  refine ⟨rfl, fun k => F k ∨ (w.heap.size ≤ k ∧ k < w1.heap.size), R, ⟨b, v1, ve, .slice none 0 0, [], rfl, ?_⟩, ⟨hk02.mono fun i _ hi => hi ▸ h.hb, fun k h => h.imp id And.left, fun _ h => .inl h⟩⟩
  have hsz := hk.size
  have hsz1 := hk1.size
  exact { f0 := hd.f0, f1 := hd.f1, f2 := hd.f2, f3 := hd.f3, f4 := hd.f4, f5 := hd.f5, fz := hd.fz,
          os := (ho1.low (Nat.zero_le _)).kp hk fun i _ hi => by have := hv1 i hi; omega, oe := (h.oe.nob hk1).kp hk fun i _ hi => hx i (.inr (.inl hi)), ow := World.ownsRow_nil _ _ _ _,
          rs := RS.nil _ _,
          nb := fun k hk => by
            rcases hk with hk | hk | hk
            · have := hv1 k hk; omega
            · exact hx k (.inr (.inl hk))
            · simp [Value.ownBlock] at hk
          nse := fun k hk hk' => by have := hv1 k hk; have := h.lt k (h.hF k (.inr (.inl hk'))); omega
          hb := .inl h.hb
          hF := fun k hk => by
            rcases hk with hk | hk | hk
            · exact .inr (hv1 k hk)
            · exact .inl (h.hF k (.inr (.inl hk)))
            · simp [Value.ownBlock] at hk
          lt := fun i hi => by
            rcases hi with hi | hi
            · have := h.lt i hi; omega
            · omega
          hR := fun i hi => ⟨by have := (h.hR i hi).1; omega, fun hf => by
            rcases hf with hf | hf
            · exact (h.hR i hi).2 hf
            · have := (h.hR i hi).1; omega⟩
          c1 := h.c1, c2 := h.c3, c3 := h.c3, c4 := fun x hx => by cases hx }

/-- What Read tells. -/
def readL (l : List UInt8) (a m : Int) : List UInt8 := if a < 0 ∨ m < 0 ∨ (l.length : Int) < a then [] else (l.drop a.toNat).take m.toNat

set_option maxRecDepth 100000 in
theorem read_calls {w : World} {F R : Nat → Prop} {p : Value} {D : DD} (h : DiskIs w F R p D) (a m : Int) (hm : m ≤ 9223372036854775807) (hm' : -9223372036854775808 ≤ m) (ha : a ≤ 9223372036854775807) :
    Calls Tryd.prog 32 #[p, .int .i64 a, .int .i64 m] w fun e w' => ∃ v, e = .returned v ∧ Own 5 w' w.heap.size v (readL D.seen a m) ∧ Kp NoB w w' := by
  have hn := none_calls h
  obtain ⟨b, vs, ve, vw, ws, rfl, h⟩ := h
  have h1 := h.f1
  have hoe := h.oe.bs.all
  have hel : D.seen.length ≤ 1048576 := by have := h.c1; have := h.c3; omega
  obtain ⟨Ae, ce, rfl⟩ := h.oe.bs.len
  clear h
  unfold readL
  by_cases hc : a < 0 ∨ m < 0 ∨ (D.seen.length : Int) < a
  · rw [if_pos hc]
    go_enter Tryd.func32, Tryd.ntmps32
    rcases (by omega : a < 0 ∨ ((0 : Int) ≤ a ∧ m < 0) ∨ ((0 : Int) ≤ a ∧ (0 : Int) ≤ m ∧ (D.seen.length : Int) < a)) with hc | ⟨h0, hc⟩ | ⟨h0, h2, hc⟩
    all_goals
      go_wp2_with (go_at_call 58; refine hn.mono ?_; rintro e w1 ⟨rfl, rfl⟩)
      go_ret
      exact ⟨_, rfl, Own.nil _ _ _, Kp.refl _ _⟩
  · rw [if_neg hc]
    obtain ⟨x, rfl⟩ : ∃ x : Nat, a = x := ⟨a.toNat, by omega⟩
    obtain ⟨y, rfl⟩ : ∃ y : Nat, m = y := ⟨m.toNat, by omega⟩
    have hx : x ≤ D.seen.length := by omega
    obtain ⟨k, hk⟩ : ∃ k, k = min y (D.seen.length - x) := ⟨_, rfl⟩
    have hmin : ∀ (W' : World) ts ty, (Builtin.min_ ts ty #[.int .i64 (y : Int), .int .i64 ((D.seen.length : Int) - x)]).run Tryd.prog W' = .ok (.int .i64 (k : Int)) W' := by
      intro W' ts ty
      rw [run_min_int2]
      have e1 : (if (D.seen.length : Int) - x < (y : Int) then (D.seen.length : Int) - x else (y : Int)) = (k : Int) := by split <;> omega
      rw [e1]
    obtain ⟨v', _, hs, hv'⟩ := run_cut byteD hoe x (x + k) (by omega) (by omega) (some (.int .i64 (x : Int))) (some (.int .i64 ((x + k : Nat) : Int))) (.inr ⟨.i64, rfl⟩) (.inr ⟨.i64, rfl⟩)
    have hsl : ∀ W', (Instr.slice 22 (.slice Ae D.seen.length ce) (some (.int .i64 (x : Int))) (some (.int .i64 ((x : Int) + k))) none).run Tryd.prog W' = .ok v' W' := by
      intro W'
      have := hs W'
      simpa using this
    have hfin : ((D.seen.take (x + k)).drop x) = (D.seen.drop x).take y := by
      rw [List.drop_take, show x + k - x = k by omega, hk]
      rcases Nat.le_total y (D.seen.length - x) with h | h
      · rw [Nat.min_eq_left h]
      · rw [Nat.min_eq_right h, List.take_of_length_le (by simp), List.take_of_length_le (by simp; omega)]
    have ex : ((x : Int)).toNat = x := rfl
    have ey : ((y : Int)).toNat = y := rfl
    rw [hfin] at hv'
    have e1 : IntKind.i64.wrap ((D.seen.length : Int) - x) = (D.seen.length : Int) - x := wrap_in (by omega) (by omega)
    have e2 : IntKind.i64.wrap ((x : Int) + k) = (x : Int) + k := wrap_in (by omega) (by omega)
    have i1 : ¬ ((x : Int) < 0) := by omega
    have i2 : ¬ ((y : Int) < 0) := by omega
    have i3 : ¬ ((x : Int) > (D.seen.length : Int)) := by omega
    have hll : ((D.seen.drop x).take y).length ≤ 1048576 := by simp; omega
    rw [ex, ey]
    generalize (D.seen.drop x).take y = rl at *
    have HE1 := Lib.hid e1
    have HE2 := Lib.hid e2
    clear hs hfin hc ex ey hk e1 e2
    go_enter Tryd.func32, Tryd.ntmps32
    go_wp2_with (go_at_call 58; refine hn.mono ?_; rintro e w1 ⟨rfl, rfl⟩)
    have e1 := HE1.out
    have e2 := HE2.out
    clear hn
    go_still_tail 17, (by kernel_rfl)
    change wpList _ _ _ _ _ w.drew
    clear e1 e2 hmin hsl
    have hkd := (Kp.refl NoB w).drew
    go_wp2_with (first
      | (go_at_call 52; refine (cloneD_calls rl v' _ (hv'.nob hkd) (by omega)).mono ?_; rintro e w1 ⟨v1, rfl, ho1, hk1⟩)
      | fail)
    go_ret
    exact ⟨_, rfl, ho1, hkd.trans hk1⟩
end Go.Proofs.YtgjaggnpheoehaaDoor
