/- Arrays in memory; the words of a block. -/
import Derived.Test.YtdplpcmpjkcocaaDoorShaA
import Derived.Deep.MidRow
import Derived.BigRegion
import Derived.StillTailTactics
set_option linter.unusedVariables false
set_option linter.unusedSimpArgs false
namespace Go.Proofs.YtdplpcmpjkcocaaDoor
open Go.RowKit

/-- The block b is an array of one-cell elements. -/
def Arr (t : TypeId) (w : World) (base b : Nat) (xs : List Value) : Prop := w.ownsRow base t 1 (.slice (some ⟨b, 0, none⟩) xs.length xs.length) xs.length xs
theorem Arr.kp {t : TypeId} {F : Nat → Prop} {w w' : World} {base b : Nat} {xs : List Value} (h : Arr t w base b xs) (k : Kp F w w') (hF : ¬ F b) : Arr t w' base b xs :=
  own_kp h k fun i hi => by injection hi with hi; subst hi; exact hF
theorem Arr.nob {t : TypeId} {w w' : World} {base b : Nat} {xs : List Value} (h : Arr t w base b xs) (k : Kp NoB w w') : Arr t w' base b xs := h.kp k id
theorem Arr.made (t : TypeId) (w : World) (xs : List Value) (hl : xs.length ≤ 1000000) : Arr t (w.alloc (.cells xs.toArray t)) w.heap.size w.heap.size xs :=
  World.ownsRow_lit (base := w.heap.size) (e := t) (size := 1) w xs.toArray xs.length (Nat.le_refl _) (by simp only [maxLen]; omega) (by simp)
theorem Arr.at_ {t : TypeId} {w : World} {base b : Nat} {xs : List Value} (h : Arr t w base b xs) (i : Nat) (hi : i < xs.length) : w.cell? ⟨b, i, none⟩ = some xs[i] := by
  rw [World.ownsRow.cellAt h i (by omega), List.getElem?_eq_getElem hi]
theorem Arr.fz {t : TypeId} {w : World} {base b : Nat} {xs : List Value} (h : Arr t w base b xs) (i : Nat) : w.frozen? ⟨b, i, none⟩ = false := World.ownsRow.frozenAt h i
theorem Arr.put {t : TypeId} {w : World} {base b : Nat} {xs : List Value} (h : Arr t w base b xs) (i : Nat) (v : Value) : Arr t (w.setCell ⟨b, i, none⟩ v) base b (xs.set i v) := by
  unfold Arr at h ⊢
  rw [List.length_set]
  exact (World.ownsRow.stored h i v).1
theorem Arr.range {t : TypeId} {w : World} {base b : Nat} {xs : List Value} (h : Arr t w base b xs) : w.rangeAt b 0 xs := fun j v hv => by
  rw [Nat.zero_add]
  exact (World.ownsRow.cellAt h j (by have := (List.getElem?_eq_some_iff.1 hv).1; omega)).trans hv
theorem Arr.there {t : TypeId} {w : World} {base b : Nat} {xs : List Value} (h : Arr t w base b xs) : w.there b 0 xs.length := fun j hj => by
  rw [Nat.zero_add]
  exact ⟨by rw [h.at_ j hj]; rfl, h.fz j⟩
theorem Arr.lt {t : TypeId} {w : World} {base b : Nat} {xs : List Value} (h : Arr t w base b xs) : base ≤ b ∧ b < w.heap.size := World.ownsRow.lt h b rfl
theorem Kp.setCells {F : Nat → Prop} {a : World} (b : Nat) (hb : a.heap.size ≤ b ∨ F b) : ∀ (vs : List Value) (o : Nat) (w : World), Kp F a w → Kp F a (w.setCells b o vs)
  | [], _, _, h => h
  | v :: vs, o, w, h => Kp.setCells b hb vs (o + 1) _ (h.setCell (p := ⟨b, o, none⟩) hb v)
theorem Arr.setAll {t : TypeId} {base b : Nat} : ∀ (vs xs : List Value) (o : Nat) (w : World), o + vs.length ≤ xs.length → Arr t w base b xs → Arr t (w.setCells b o vs) base b (xs.take o ++ (vs ++ xs.drop (o + vs.length)))
  | [], xs, o, w, hl, h => by simpa [World.setCells] using h
  | v :: vs, xs, o, w, hl, h => by
    have hl' : o + 1 + vs.length ≤ (xs.set o v).length := by simp at hl ⊢; omega
    have := Arr.setAll vs (xs.set o v) (o + 1) _ hl' (h.put o v)
    simp only [List.length_cons] at hl
    have e : (xs.set o v).take (o + 1) ++ (vs ++ (xs.set o v).drop (o + 1 + vs.length)) = xs.take o ++ (v :: vs ++ xs.drop (o + (v :: vs).length)) := by
      rw [List.take_succ_eq_append_getElem (by simp; omega), List.take_set_of_le (Nat.le_refl o), List.drop_set_of_lt (by omega)]
      simp [Nat.add_comm, Nat.add_left_comm]
    rw [e] at this
    exact this
theorem Arr.setWhole {t : TypeId} {w : World} {base b : Nat} {xs : List Value} (h : Arr t w base b xs) (vs : List Value) (hl : vs.length = xs.length) : Arr t (w.setCells b 0 vs) base b vs := by
  have := Arr.setAll vs xs 0 w (by omega) h
  simpa [hl] using this
theorem Arr.heap {t : TypeId} {w : World} {base b : Nat} {xs : List Value} (h : Arr t w base b xs) : w.heap[b]? = some (.cells xs.toArray t (0, 0)) := by
  rcases h.2 with ⟨he, _⟩ | ⟨g, cap, cur, he, _, hg, h1, h2, h3, h4⟩
  · cases he
  · injection he with e1 e2 e3
    injection e1 with e1
    injection e1 with e1
    subst e1
    subst e3
    have hc : cur.toList = xs := by
      rw [← h4]
      rw [List.take_of_length_le]
      simp only [Array.length_toList]
      omega
    rw [hg, ← hc]
/-- Words in cells. -/
def w32s (l : List Nat) : List Value := l.map fun (n : Nat) => Value.int .u32 (n : Int)
theorem w32s_length (l : List Nat) : (w32s l).length = l.length := by simp [w32s]
theorem w32s_one (l : List Nat) : ∀ u ∈ w32s l, u.oneCell' = true := by
  intro u hu
  obtain ⟨_, _, rfl⟩ := List.mem_map.1 hu
  rfl
theorem w32s_get (l : List Nat) (j : Nat) (h : j < (w32s l).length) : (w32s l)[j] = .int .u32 ((l.getD j 0 : Nat) : Int) := by
  simp only [w32s, List.length_map] at h
  simp only [w32s, List.getElem_map, List.getD_eq_getElem?_getD, List.getElem?_eq_getElem h, Option.getD_some]
theorem wordsTo_length (l : List UInt8) : ∀ t, (wordsTo l t).length = t
  | 0 => rfl
  | t + 1 => by simp [wordsTo, wordsTo_length l t]
theorem word4_lt (l : List UInt8) (j : Nat) : word4 l j < 4294967296 := by
  have h1 := (l.getD (4 * j) 0).toNat_lt
  have h2 := (l.getD (4 * j + 1) 0).toNat_lt
  have h3 := (l.getD (4 * j + 2) 0).toNat_lt
  have h4 := (l.getD (4 * j + 3) 0).toNat_lt
  unfold word4
  omega
theorem getD_lt (ws : List Nat) (h : ∀ x ∈ ws, x < 4294967296) (j : Nat) : ws.getD j 0 < 4294967296 := by
  rw [List.getD_eq_getElem?_getD]
  rcases Nat.lt_or_ge j ws.length with h1 | h1
  · rw [List.getElem?_eq_getElem h1]
    exact h _ (List.getElem_mem h1)
  · rw [List.getElem?_eq_none h1]
    decide
theorem wordsTo_lt (l : List UInt8) : ∀ t, ∀ x ∈ wordsTo l t, x < 4294967296
  | 0, x, h => by cases h
  | t + 1, x, h => by
    have ih := wordsTo_lt l t
    rcases List.mem_append.1 h with h | h
    · exact ih x h
    · simp only [List.mem_singleton] at h
      subst h
      unfold nextW
      split
      · exact word4_lt l t
      · exact rotN_lt _ 1 (xor_lt32 (xor_lt32 (xor_lt32 (getD_lt _ ih _) (getD_lt _ ih _)) (getD_lt _ ih _)) (getD_lt _ ih _)) (by simp)
/-- The array while it is filled: the words so far, then noughts. -/
def fillW (l : List UInt8) (t : Nat) : List Nat := wordsTo l t ++ List.replicate (80 - t) 0
theorem fillW_length (l : List UInt8) (t : Nat) (h : t ≤ 80) : (fillW l t).length = 80 := by simp [fillW, wordsTo_length]; omega
theorem fillW_get (l : List UInt8) (t j : Nat) (h : j < t) : (fillW l t).getD j 0 = (wordsTo l t).getD j 0 := by
  unfold fillW
  rw [List.getD_eq_getElem?_getD, List.getElem?_append_left (by rw [wordsTo_length]; exact h), ← List.getD_eq_getElem?_getD]
theorem fillW_set (l : List UInt8) (t : Nat) (h : t < 80) : (fillW l t).set t (nextW l (wordsTo l t) t) = fillW l (t + 1) := by
  unfold fillW
  rw [List.set_append_right _ _ (by rw [wordsTo_length]; exact Nat.le_refl _), wordsTo_length, Nat.sub_self, show 80 - t = (80 - (t + 1)) + 1 by omega, List.replicate_succ, List.set_cons_zero]
  simp [wordsTo]
theorem w32s_set (l : List Nat) (i n : Nat) : (w32s l).set i (.int .u32 (n : Int)) = w32s (l.set i n) := by simp [w32s, List.map_set]

theorem kp_set' {w : World} {b i : Nat} {v : Value} : Kp (fun k => k = b) w (w.setCell ⟨b, i, none⟩ v) := (Kp.refl (fun k => k = b) w).setCell (p := ⟨b, i, none⟩) (.inr rfl) v
def zeroW : List Nat := List.replicate 80 0
theorem zero80 (W : World) : (zeroValue 41).run Tryd.prog W = .ok (.agg (w32s zeroW).toArray) W := by kernel_rfl
theorem BS.at8 {S : Nat → Prop} {w : World} {A : Option Addr} {n c : Nat} {l : List UInt8} (h : BS S w (.slice A n c) l) (h0 : 0 < l.length) :
    ∃ b off, A = some ⟨b, off, none⟩ ∧ ∀ j, j < l.length → w.cell? ⟨b, off + j, none⟩ = some (.int .u8 ((l.getD j 0).toNat : Int)) := by
  obtain ⟨A', c', he, hc, _, _, hr⟩ := h
  injection he with e1 e2 e3
  subst e1
  obtain ⟨b, off, hA, _, hcell⟩ := hr h0
  refine ⟨b, off, hA, fun j hj => ?_⟩
  rw [hcell j hj, List.getD_eq_getElem?_getD, List.getElem?_eq_getElem hj]
  rfl
theorem word_bits (x0 x1 x2 x3 : Nat) (h0 : x0 < 256) (h1 : x1 < 256) (h2 : x2 < 256) (h3 : x3 < 256) :
    bits .or .u32 ((x0 : Int) * 16777216) ((x1 : Int) * 65536) = ((x0 * 256 + x1) * 65536 : Nat) ∧ bits .or .u32 (((x0 * 256 + x1) * 65536 : Nat) : Int) ((x2 : Int) * 256) = (((x0 * 256 + x1) * 256 + x2) * 256 : Nat) ∧ bits .or .u32 ((((x0 * 256 + x1) * 256 + x2) * 256 : Nat) : Int) (x3 : Int) = (((x0 * 256 + x1) * 256 + x2) * 256 + x3 : Nat) := by
  have a1 := u32_or_nat (x0 * 16777216) (x1 * 65536) (by omega) (by omega)
  have a2 := u32_or_nat ((x0 * 256 + x1) * 65536) (x2 * 256) (by omega) (by omega)
  have a3 := u32_or_nat (((x0 * 256 + x1) * 256 + x2) * 256) x3 (by omega) (by omega)
  have b1 := or_disj x0 (x1 * 65536) 24 (by omega)
  have b2 := or_disj (x0 * 256 + x1) (x2 * 256) 16 (by omega)
  have b3 := or_disj ((x0 * 256 + x1) * 256 + x2) x3 8 (by omega)
  simp only [Nat.reducePow] at b1 b2 b3
  rw [b1] at a1
  rw [b2] at a2
  rw [b3] at a3
  refine ⟨?_, ?_, a3⟩
  · have e : x0 * 16777216 + x1 * 65536 = (x0 * 256 + x1) * 65536 := by omega
    rw [e] at a1
    rw [← a1]; rfl
  · have e : (x0 * 256 + x1) * 65536 + x2 * 256 = ((x0 * 256 + x1) * 256 + x2) * 256 := by omega
    rw [e] at a2
    rw [← a2]; rfl

set_option maxRecDepth 100000 in
set_option maxHeartbeats 4000000 in
theorem words_calls (l : List UInt8) (v : Value) (w : World) (hv : BS AllB w v l) (hl : l.length = 64) :
    Calls Tryd.prog 21 #[v] w fun e w' => e = .returned (.agg (w32s (wordsTo l 80)).toArray) ∧ Kp NoB w w' := by
  obtain ⟨A, c, rfl⟩ := hv.len
  obtain ⟨g, off, rfl, hcell⟩ := hv.at8 (by omega)
  have HC := Lib.hid hcell
  have HL := Lib.hid hl
  have hal := zero80
  have a2 := Arr.made 41 w (w32s zeroW) (by rw [w32s_length]; decide)
  have a3 := Arr.made 41 (w.alloc (.cells (w32s zeroW).toArray 41)) (w32s zeroW) (by rw [w32s_length]; decide)
  have k1 : Kp NoB w (w.alloc (.cells (w32s zeroW).toArray 41)) := (Kp.refl _ _).alloc _
  have k2 := k1.alloc (.cells (w32s zeroW).toArray 41)
  have a2' := a2.nob (w' := (w.alloc (.cells (w32s zeroW).toArray 41)).alloc (.cells (w32s zeroW).toArray 41)) ((Kp.refl _ _).alloc _)
  have z1 : (w.alloc (.cells (w32s zeroW).toArray 41)).heap.size = w.heap.size + 1 := by simp
  rw [z1] at a3
  have A2 := Lib.hid a2'
  have A3 := Lib.hid a3
  have K2 := Lib.hid k2
  clear hcell hv a2 a3 k1 k2 a2' z1 hl
  go_enter Tryd.func21, Tryd.ntmps21
  go_wp2_with fail
  clear hal
  have A2 := A2.out
  have A3 := A3.out
  have K2 := K2.out
  generalize (w.alloc (.cells (w32s zeroW).toArray 41)).alloc (.cells (w32s zeroW).toArray 41) = w2 at *
  go_loopw [5] (fun i wr => ∃ t : Nat, t ≤ 80 ∧ i = .int .i64 t ∧ Arr 41 wr (w.heap.size + 1) (w.heap.size + 1) (w32s (fillW l t)) ∧ Arr 41 wr w.heap.size w.heap.size (w32s zeroW) ∧ Kp NoB w wr) (fun i _ => 80 - (intOf i).toNat)
  case atStart => exact ⟨0, Nat.zero_le _, rfl, A3, A2, K2⟩
  case round =>
    obtain ⟨t, ht, rfl, h3, h2, hk⟩ := hrel
    by_cases hlt : t < 80
    · by_cases h16 : t < 16
      · have hnw : nextW l (wordsTo l t) t = word4 l t := by unfold nextW; rw [if_pos h16]
        have hfs := fillW_set l t hlt
        rw [hnw] at hfs
        have q0 := hk.cell (HC.out (4 * t) (by have := HL.out; omega)) id
        have q1 := hk.cell (HC.out (4 * t + 1) (by have := HL.out; omega)) id
        have q2 := hk.cell (HC.out (4 * t + 2) (by have := HL.out; omega)) id
        have q3 := hk.cell (HC.out (4 * t + 3) (by have := HL.out; omega)) id
        have b0 := (l.getD (4 * t) 0).toNat_lt
        have b1 := (l.getD (4 * t + 1) 0).toNat_lt
        have b2 := (l.getD (4 * t + 2) 0).toNat_lt
        have b3 := (l.getD (4 * t + 3) 0).toNat_lt
        have hw4 : word4 l t = (((l.getD (4 * t) 0).toNat * 256 + (l.getD (4 * t + 1) 0).toNat) * 256 + (l.getD (4 * t + 2) 0).toNat) * 256 + (l.getD (4 * t + 3) 0).toNat := rfl
        have hc3 := h3.at_ t (by rw [w32s_length, fillW_length l t ht]; exact hlt)
        have hf3 := h3.fz t
        have hput := h3.put t (.int .u32 ((word4 l t : Nat) : Int))
        rw [w32s_set, hfs, hw4] at hput
        replace hc3 : ∃ cv, wr.cell? ⟨w.heap.size + 1, t, none⟩ = some cv := ⟨_, hc3⟩
        obtain ⟨cv, hc3⟩ := hc3
        generalize (l.getD (4 * t) 0).toNat = x0 at *
        generalize (l.getD (4 * t + 1) 0).toNat = x1 at *
        generalize (l.getD (4 * t + 2) 0).toNat = x2 at *
        generalize (l.getD (4 * t + 3) 0).toNat = x3 at *
        obtain ⟨e1, e2, e3⟩ := word_bits x0 x1 x2 x3 b0 b1 b2 b3
        obtain ⟨y1, hy1⟩ : ∃ y, y = (x0 * 256 + x1) * 65536 := ⟨_, rfl⟩
        obtain ⟨y2, hy2⟩ : ∃ y, y = ((x0 * 256 + x1) * 256 + x2) * 256 := ⟨_, rfl⟩
        obtain ⟨y3, hy3⟩ : ∃ y, y = ((x0 * 256 + x1) * 256 + x2) * 256 + x3 := ⟨_, rfl⟩
        rw [← hy3] at e3 hput
        rw [← hy1] at e1 e2
        rw [← hy2] at e2 e3
        clear hy1 hy2 hy3
        have i0 : (4 * (t : Int)).toNat = 4 * t := by omega
        have i1 : (4 * (t : Int) + 1).toNat = 4 * t + 1 := by omega
        have i2 : (4 * (t : Int) + 2).toNat = 4 * t + 2 := by omega
        have i3 : (4 * (t : Int) + 3).toNat = 4 * t + 3 := by omega
        have j0 : IntKind.i64.wrap (4 * (t : Int)) = 4 * (t : Int) := wrap_in (by omega) (by omega)
        have j1 : IntKind.i64.wrap (4 * (t : Int) + 1) = 4 * (t : Int) + 1 := wrap_in (by omega) (by omega)
        have j2 : IntKind.i64.wrap (4 * (t : Int) + 2) = 4 * (t : Int) + 2 := wrap_in (by omega) (by omega)
        have j3 : IntKind.i64.wrap (4 * (t : Int) + 3) = 4 * (t : Int) + 3 := wrap_in (by omega) (by omega)
        have hb3 : 4 * t + 3 < l.length := by have := HL.out; omega
        have HP := Lib.hid hput
        have HK := Lib.hid hk
        have HH2 := Lib.hid h2
        clear hnw hfs hw4 hput hk h2 h3
        go_wp2_with fail
        go_region
        clear e1 e2 e3 i0 i1 i2 i3 j0 j1 j2 j3 q0 q1 q2 q3 hc3 hf3
        go_wp2
        go_roundw
        case rel => exact ⟨t + 1, by omega, by go_num, HP.out, (HH2.out.kp (F := fun k => k = w.heap.size + 1) kp_set'.drew (show ¬ (w.heap.size = w.heap.size + 1) by omega)), (HK.out.setCell (.inl (Nat.le_succ _)) _).drew⟩
        case measure => simp [intOf]; omega
      · have hnw : nextW l (wordsTo l t) t = rotN (((((wordsTo l t).getD (t - 3) 0) ^^^ ((wordsTo l t).getD (t - 8) 0)) ^^^ ((wordsTo l t).getD (t - 14) 0)) ^^^ ((wordsTo l t).getD (t - 16) 0)) 1 := by unfold nextW; rw [if_neg h16]
        have hfs := fillW_set l t hlt
        rw [hnw] at hfs
        have hfl := fillW_length l t ht
        have hwl := wordsTo_lt l t
        have g3 := h3.at_ (t - 3) (by rw [w32s_length]; omega)
        have g8 := h3.at_ (t - 8) (by rw [w32s_length]; omega)
        have g14 := h3.at_ (t - 14) (by rw [w32s_length]; omega)
        have g16 := h3.at_ (t - 16) (by rw [w32s_length]; omega)
        rw [w32s_get, fillW_get l t _ (by omega)] at g3 g8 g14 g16
        have b3 := getD_lt (wordsTo l t) hwl (t - 3)
        have b8 := getD_lt (wordsTo l t) hwl (t - 8)
        have b14 := getD_lt (wordsTo l t) hwl (t - 14)
        have b16 := getD_lt (wordsTo l t) hwl (t - 16)
        generalize (wordsTo l t).getD (t - 3) 0 = y3 at *
        generalize (wordsTo l t).getD (t - 8) 0 = y8 at *
        generalize (wordsTo l t).getD (t - 14) 0 = y14 at *
        generalize (wordsTo l t).getD (t - 16) 0 = y16 at *
        have x1 := u32_xor_nat y3 y8 b3 b8
        have x2 := u32_xor_nat (y3 ^^^ y8) y14 (xor_lt32 b3 b8) b14
        have x3 := u32_xor_nat ((y3 ^^^ y8) ^^^ y14) y16 (xor_lt32 (xor_lt32 b3 b8) b14) b16
        have bx := xor_lt32 (xor_lt32 (xor_lt32 b3 b8) b14) b16
        have hc3 := h3.at_ t (by rw [w32s_length]; omega)
        have hf3 := h3.fz t
        generalize y3 ^^^ y8 = z1 at *
        generalize z1 ^^^ y14 = z2 at *
        generalize z2 ^^^ y16 = z3 at *
        have hput := h3.put t (.int .u32 ((rotN z3 1 : Nat) : Int))
        rw [w32s_set, hfs] at hput
        replace hc3 : ∃ cv, wr.cell? ⟨w.heap.size + 1, t, none⟩ = some cv := ⟨_, hc3⟩
        obtain ⟨cv, hc3⟩ := hc3
        have hr := (rot1_calls z3 bx wr.drew).mono (R' := fun e w' => e = .returned (.int .u32 (rotN z3 1 : Nat)) ∧ w' = wr.drew) fun e w' h => ⟨h.1, h.2.symm⟩
        have i3 : ((t : Int) - 3).toNat = t - 3 := by omega
        have i8 : ((t : Int) - 8).toNat = t - 8 := by omega
        have i14 : ((t : Int) - 14).toNat = t - 14 := by omega
        have i16 : ((t : Int) - 16).toNat = t - 16 := by omega
        have j3 : IntKind.i64.wrap ((t : Int) - 3) = (t : Int) - 3 := wrap_in (by omega) (by omega)
        have j8 : IntKind.i64.wrap ((t : Int) - 8) = (t : Int) - 8 := wrap_in (by omega) (by omega)
        have j14 : IntKind.i64.wrap ((t : Int) - 14) = (t : Int) - 14 := wrap_in (by omega) (by omega)
        have j16 : IntKind.i64.wrap ((t : Int) - 16) = (t : Int) - 16 := wrap_in (by omega) (by omega)
        have l3 : (3 : Int) ≤ (t : Int) := by omega
        have l8 : (8 : Int) ≤ (t : Int) := by omega
        have l14 : (14 : Int) ≤ (t : Int) := by omega
        have l16 : (16 : Int) ≤ (t : Int) := by omega
        have m3 : (t : Int) - 3 < 80 := by omega
        have m8 : (t : Int) - 8 < 80 := by omega
        have m14 : (t : Int) - 14 < 80 := by omega
        have m16 : (t : Int) - 16 < 80 := by omega
        have HP := Lib.hid hput
        have HK := Lib.hid hk
        have HH2 := Lib.hid h2
        clear hnw hfs hput hk h2 h3 hfl hwl bx b3 b8 b14 b16
        go_wp2_with fail
        refine wp_region_still_tail 22 (by kernel_rfl) (by kernel_rfl) ?_
        simp only [List.take_succ_cons, List.take_zero, List.drop_succ_cons, List.drop_zero]
        repeat (first | still_call hr | still_step)
        change wpList _ _ _ _ _ wr.drew
        clear x1 x2 x3 i3 i8 i14 i16 j3 j8 j14 j16 g3 g8 g14 g16 hr
        go_wp2_with fail
        go_roundw
        case rel => exact ⟨t + 1, by omega, by go_num, HP.out, (HH2.out.kp (F := fun k => k = w.heap.size + 1) kp_set'.drew (show ¬ (w.heap.size = w.heap.size + 1) by omega)), (HK.out.setCell (.inl (Nat.le_succ _)) _).drew⟩
        case measure => simp [intOf]; omega
    · obtain rfl : t = 80 := by omega
      have hfw : fillW l 80 = wordsTo l 80 := by simp [fillW]
      rw [hfw] at h3
      have hr3 := h3.range
      have ht2 := h2.there
      have hl3 : (w32s (wordsTo l 80)).length = 80 := by rw [w32s_length, wordsTo_length]
      have hl2 : (w32s zeroW).length = 80 := by rw [w32s_length]; rfl
      rw [hl2] at ht2
      have H3 := Lib.hid h3
      have H2 := Lib.hid h2
      have HK := Lib.hid hk
      have HL3 := Lib.hid hl3
      have HL2 := Lib.hid hl2
      clear h3 h2 hk hl3 hl2
      go_wp2_with (first
        | ((with_reducible refine gate_dst (N := 68) rfl ?_); go_must (refine wpList_load_mid rfl 41 _ rfl _ 0 rfl (w32s (wordsTo l 80)) _ hr3 Tryd.underlying41 rfl (by rw [HL3.out]; kernel_rfl) ?_))
        | ((with_reducible refine gate_op (Op.store 41 (.tmp 2) (.tmp 68)) rfl ?_); go_must (refine wpList_store_mid rfl 41 _ _ rfl w.heap.size 0 (w32s (wordsTo l 80)).toArray rfl rfl (by simpa [HL3.out] using ht2) (by rw [List.size_toArray, HL3.out]; kernel_rfl) (all_oneCell_toArray (w32s_one _)) ?_))
        | fail)
      have hl : (w32s (wordsTo l 80)).length = (w32s zeroW).length := by rw [HL3.out, HL2.out]
      have hw := H2.out.setWhole (w32s (wordsTo l 80)) hl
      exact bodyPost_ret (results_cell_row rfl _ _ w.heap.size 41 (w32s (wordsTo l 80)).toArray (0, 0) _ rfl hw.heap Tryd.underlying41 rfl (by rw [List.size_toArray, HL3.out]; kernel_rfl)) rfl ⟨rfl, Kp.setCells _ (.inl (Nat.le_refl _)) _ _ _ HK.out⟩
end Go.Proofs.YtdplpcmpjkcocaaDoor
