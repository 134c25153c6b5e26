/- The reference's disk: New, Seen. -/
import Derived.Test.YtgjaggnpheoehaaDoorDLay
set_option linter.unusedVariables false
set_option linter.unusedSimpArgs false
namespace Go.Proofs.YtgjaggnpheoehaaDoor
open Go.RowKit

/-- Writes laid over sure bytes, in turn. -/
def laidL (s : List UInt8) (ds : List (Nat × List UInt8)) : List UInt8 := ds.foldl (fun s x => overL s x.1 x.2) s
theorem laid_snoc (s : List UInt8) (ds : List (Nat × List UInt8)) (j : Nat) (h : j < ds.length) : laidL s (ds.take (j + 1)) = overL (laidL s (ds.take j)) ds[j].1 ds[j].2 := by
  unfold laidL
  rw [List.take_succ_eq_append_getElem h, List.foldl_append]
  rfl
theorem laid_length : ∀ (ds : List (Nat × List UInt8)) (s : List UInt8) (c : Nat), s.length ≤ c → (∀ x ∈ ds, x.1 + x.2.length ≤ c) → (laidL s ds).length ≤ c
  | [], s, c, h, _ => h
  | d :: ds, s, c, h, hd => by
    refine laid_length ds _ c ?_ fun x hx => hd x (by simp [hx])
    have := hd d (by simp)
    rw [length_overL]
    split <;> omega

/-- The reference's disk at block b. F: its own blocks; R: those where its bytes lie, which nothing writes. -/
structure RefAt (w : World) (F R : Nat → Prop) (b : Nat) (vs vw : Value) (ws : List Value) (D : DD) : Prop where
  f0 : w.cell? ⟨b, 0, none⟩ = some (.int .i64 (D.cap : Int))
  f1 : w.cell? ⟨b, 1, none⟩ = some (.bool D.full)
  f2 : w.cell? ⟨b, 2, none⟩ = some vs
  f3 : w.cell? ⟨b, 3, none⟩ = some vw
  fz : ∀ i, i < 4 → w.frozen? ⟨b, i, none⟩ = false
  os : BS R w vs D.sure
  ow : w.ownsRow 0 114 2 vw D.waits.length (wrow D.waits ws)
  rs : RS R w ws (D.waits.map (·.2))
  nb : ∀ k, vw.ownBlock = some k → k ≠ b
  hb : F b
  hF : ∀ k, vw.ownBlock = some k → F k
  lt : ∀ k, F k → k < w.heap.size
  hR : ∀ k, R k → k < w.heap.size ∧ ¬ F k
  c1 : D.cap ≤ 1048576
  c2 : D.sure.length ≤ D.cap
  c4 : ∀ x ∈ D.waits, x.1 + x.2.length ≤ D.cap
  hs : D.seen = laidL D.sure D.waits
def RefIs (w : World) (F R : Nat → Prop) (p : Value) (D : DD) : Prop := ∃ b vs vw ws, p = .pointer (some ⟨b, 0, none⟩) ∧ RefAt w F R b vs vw ws D
theorem RefAt.kp {w w' : World} {F R X : Nat → Prop} {b : Nat} {vs vw : Value} {ws : List Value} {D : DD} (h : RefAt w F R b vs vw ws D) (k : Kp X w w') (hX : ∀ i, i < w.heap.size → X i → ¬ F i ∧ ¬ R i) : RefAt w' F R b vs vw ws D := by
  have hb : ¬ X b := fun hx => (hX b (h.lt b h.hb) hx).1 h.hb
  exact { f0 := k.cell h.f0 hb, f1 := k.cell h.f1 hb, f2 := k.cell h.f2 hb, f3 := k.cell h.f3 hb,
          fz := fun i hi => (k.frozen (p := ⟨b, i, none⟩) (h.lt b h.hb) hb).trans (h.fz i hi),
          os := h.os.kp k fun i hi hr hx => (hX i hi hx).2 hr, ow := own_kp h.ow k fun i hi hx => (hX i (h.lt i (h.hF i hi)) hx).1 (h.hF i hi),
          rs := h.rs.kp k fun i hi hr hx => (hX i hi hx).2 hr, nb := h.nb, hb := h.hb, hF := h.hF,
          lt := fun i hi => Nat.lt_of_lt_of_le (h.lt i hi) k.size, hR := fun i hi => ⟨Nat.lt_of_lt_of_le (h.hR i hi).1 k.size, (h.hR i hi).2⟩,
          c1 := h.c1, c2 := h.c2, c4 := h.c4, hs := h.hs }
theorem RefIs.kp {w w' : World} {F R X : Nat → Prop} {p : Value} {D : DD} (h : RefIs w F R p D) (k : Kp X w w') (hX : ∀ i, i < w.heap.size → X i → ¬ F i ∧ ¬ R i) : RefIs w' F R p D := by
  obtain ⟨b, vs, vw, ws, rfl, h⟩ := h
  exact ⟨b, vs, vw, ws, rfl, h.kp k hX⟩
theorem RefIs.nob {w w' : World} {F R : Nat → Prop} {p : Value} {D : DD} (h : RefIs w F R p D) (k : Kp NoB w w') : RefIs w' F R p D := h.kp k fun _ _ h => h.elim
theorem RefIs.ptr {w : World} {F R : Nat → Prop} {p : Value} {D : DD} (h : RefIs w F R p D) : ∃ q, p = .pointer (some q) := by
  obtain ⟨b, vs, vw, ws, rfl, h⟩ := h
  exact ⟨_, rfl⟩
theorem RefIs.lt {w : World} {F R : Nat → Prop} {p : Value} {D : DD} (h : RefIs w F R p D) : ∀ k, F k → k < w.heap.size := by
  obtain ⟨b, vs, vw, ws, rfl, h⟩ := h
  exact h.lt
theorem RefIs.hR {w : World} {F R : Nat → Prop} {p : Value} {D : DD} (h : RefIs w F R p D) : ∀ k, R k → k < w.heap.size ∧ ¬ F k := by
  obtain ⟨b, vs, vw, ws, rfl, h⟩ := h
  exact h.hR
theorem RefIs.hs {w : World} {F R : Nat → Prop} {p : Value} {D : DD} (h : RefIs w F R p D) : D.seen = laidL D.sure D.waits := by
  obtain ⟨b, vs, vw, ws, rfl, h⟩ := h
  exact h.hs
theorem RefIs.cap {w : World} {F R : Nat → Prop} {p : Value} {D : DD} (h : RefIs w F R p D) : D.seen.length ≤ D.cap ∧ D.cap ≤ 1048576 := by
  obtain ⟨b, vs, vw, ws, rfl, h⟩ := h
  exact ⟨by rw [h.hs]; exact laid_length _ _ _ h.c2 h.c4, h.c1⟩

set_option maxRecDepth 100000 in
theorem refNew_calls (c : Nat) (hc : c ≤ 1048576) (w : World) :
    Calls Tryd.prog 35 #[.int .i64 (c : Int)] w fun e w' => ∃ p, e = .returned (.tuple #[p, .int .i64 0]) ∧ RefIs w' (fun k => k = w.heap.size) (fun _ => False) p ⟨c, false, [], [], []⟩ ∧ Kp NoB w w' := by
  go_enter Tryd.func35, Tryd.ntmps35
  go_wp2
  go_ret2
  have hh := heap_alloc_new w (.cells #[.int .i64 (c : Int), .bool false, .slice none 0 0, .slice none 0 0] 77)
  refine ⟨_, rfl, ⟨w.heap.size, .slice none 0 0, .slice none 0 0, [], rfl, ?_⟩, (Kp.refl _ _).alloc _⟩
  have hc' : ∀ i v, (#[.int .i64 (c : Int), .bool false, .slice none 0 0, .slice none 0 0] : Array Value)[i]? = some v → (w.alloc (.cells #[.int .i64 (c : Int), .bool false, .slice none 0 0, .slice none 0 0] 77)).cell? ⟨w.heap.size, i, none⟩ = some v := by
    intro i v hv
    simp only [World.cell?, hh]
    exact hv
  exact { f0 := hc' 0 _ rfl, f1 := hc' 1 _ rfl, f2 := hc' 2 _ rfl, f3 := hc' 3 _ rfl,
          fz := fun i _ => by simp only [World.frozen?, hh]; simp,
          os := BS.nil _ _, ow := World.ownsRow_nil _ _ _ _, rs := RS.nil _ _, nb := fun k h => by simp [Value.ownBlock] at h,
          hb := rfl, hF := fun k h => by simp [Value.ownBlock] at h, lt := fun k h => by subst h; simp, hR := fun k h => h.elim,
          c1 := hc, c2 := Nat.zero_le _, c4 := fun x hx => (by cases hx), hs := rfl }

set_option maxRecDepth 100000 in
theorem refNewN_calls (c : Int) (hc : c < 0 ∨ 1048576 < c) (w : World) :
    Calls Tryd.prog 35 #[.int .i64 c] w fun e w' => e = .returned (.tuple #[.pointer none, .int .i64 1]) ∧ w = w' := by
  rcases (by omega : c < 0 ∨ ((0 : Int) ≤ c ∧ c > 1048576)) with h | ⟨h0, h⟩
  all_goals
    go_enter Tryd.func35, Tryd.ntmps35
    go_wp2
    go_ret2
    exact ⟨rfl, rfl⟩

theorem rs_at {w : World} {F R : Nat → Prop} {b : Nat} {vs vw : Value} {ws : List Value} {D : DD} (h : RefAt w F R b vs vw ws D) (j : Nat) (hj : j < D.waits.length) :
    ∃ g c A cj, vw = .slice (some ⟨g, 0, none⟩) D.waits.length c ∧ D.waits.length ≤ c ∧ F g ∧ w.cell? ⟨g, j * 2, none⟩ = some (.int .i64 ((D.waits[j].1 : Nat) : Int)) ∧ w.cell? ⟨g, j * 2 + 1, none⟩ = some (.slice A D.waits[j].2.length cj) ∧ BS R w (.slice A D.waits[j].2.length cj) D.waits[j].2 := by
  have hl := h.rs.1
  simp only [List.length_map] at hl
  have hb := h.rs.2 j (by omega) (by simpa using hj)
  simp only [List.getElem_map] at hb
  obtain ⟨r1, r2⟩ := wrow_at D.waits ws hl j hj (by omega)
  obtain ⟨A, cj, he⟩ := hb.len
  rw [Nat.mul_comm] at r1 r2
  rcases h.ow.2 with ⟨_, h0⟩ | ⟨g, cap, cur, rfl, _, _, hc, _⟩
  · omega
  · refine ⟨g, cap, A, cj, rfl, hc, h.hF g rfl, (World.ownsRow.cellAt h.ow (j * 2) (by omega)).trans r1, ?_, he ▸ hb⟩
    rw [← he]
    exact (World.ownsRow.cellAt h.ow (j * 2 + 1) (by omega)).trans r2

set_option maxRecDepth 100000 in
set_option maxHeartbeats 4000000 in
theorem refSeen_calls {w : World} {F R : Nat → Prop} {p : Value} {D : DD} (h : RefIs w F R p D) (hw : D.waits.length ≤ 1000000) :
    Calls Tryd.prog 40 #[p] w fun e w' => ∃ v, e = .returned v ∧ BS (fun b => R b ∨ w.heap.size ≤ b) w' v D.seen ∧ Kp NoB w w' := by
  obtain ⟨b, vs, vw, ws, rfl, h⟩ := h
  have f2 := h.f2
  obtain ⟨Aw, cw, rfl⟩ : ∃ A c, vw = .slice A D.waits.length c := by
    rcases h.ow.2 with ⟨rfl, h0⟩ | ⟨g, cap, cur, rfl, _⟩
    · exact ⟨none, 0, by rw [h0]⟩
    · exact ⟨_, _, rfl⟩
  have f3 := h.f3
  have hos := h.os
  have H := Lib.hid h
  have hseen := h.hs
  rw [hseen]
  clear h hseen
  obtain ⟨As, cs, rfl⟩ := hos.len
  go_enter Tryd.func40, Tryd.ntmps40
  go_wp2_with fail
  go_loopw [3, 4] (fun o i wr => ∃ k : Nat, k ≤ D.waits.length ∧ i = .int .i64 k ∧ BS (fun b => R b ∨ w.heap.size ≤ b) wr o (laidL D.sure (D.waits.take k)) ∧ Kp NoB w wr) (fun _ i _ => D.waits.length - (intOf i).toNat)
  case atStart => exact ⟨0, Nat.zero_le _, rfl, hos.mono fun _ _ h => .inl h, Kp.refl _ _⟩
  case round =>
    obtain ⟨k, hk, rfl, ho, hkw⟩ := hrel
    have z3 := hkw.cell f3 id
    obtain ⟨Ao, co, rfl⟩ := ho.len
    by_cases hlt : k < D.waits.length
    · obtain ⟨g, c, A, cj, he, hc, hFg, x1, x2, hbj⟩ := rs_at H.out k hlt
      injection he with e1 e2 e3
      subst e1 e3
      have y1 := hkw.cell x1 id
      have y2 := hkw.cell x2 id
      have hbw := hbj.nob hkw
      have hls := laid_snoc D.sure D.waits k hlt
      have hcc := H.out.c4 D.waits[k] (List.getElem_mem hlt)
      have hc1 := H.out.c1
      have hcl : (laidL D.sure (D.waits.take k)).length ≤ 1048576 := Nat.le_trans (laid_length _ _ D.cap H.out.c2 fun x hx => H.out.c4 x (List.mem_of_mem_take hx)) H.out.c1
      generalize laidL D.sure (D.waits.take k) = cur at *
      generalize D.waits[k] = dk at *
      obtain ⟨at', bk⟩ := dk
      simp only at *
      have HLS := Lib.hid hls
      have hlay := lay_calls cur bk at' (bk.length : Int) _ _ wr.drew ((ho.all).nob (Kp.refl _ _).drew) ((hbw.all).nob (Kp.refl _ _).drew) (by omega) hcl (by omega) (by omega)
      clear hls x1 x2 ho hbj hbw f2 hos
      go_wp2_with fail
      go_still_tail 17, (by kernel_rfl)
      change wpList _ _ _ _ _ wr.drew
      have htk : bk.take ((bk.length : Int)).toNat = bk := by simp
      rw [htk, ← HLS.out] at hlay
      have HLAY := Lib.hid hlay
      have HKW := Lib.hid hkw
      clear hlay htk y1 y2 z3 hkw f3
      go_wp2_with fail
      refine HLAY.out.mono ?_
      rintro e w1 ⟨v1, rfl, ho1, hk1⟩
      obtain ⟨A1, c1', rfl⟩ := ho1.bs.len
      have hb1 : BS (fun b => R b ∨ w.heap.size ≤ b) w1 _ _ := ho1.bs.mono fun i _ hi => .inr (Nat.le_trans HKW.out.size hi.1)
      have hk2 := (HKW.out.drew).trans hk1
      have HB1 := Lib.hid hb1
      clear ho1 hk1 hb1
      go_wp2_with fail
      go_roundw
      case rel => exact ⟨k + 1, by omega, by go_num, HB1.out, hk2⟩
      case measure => simp [intOf]; omega
    · obtain rfl : k = D.waits.length := by omega
      rw [List.take_length] at ho ⊢
      have HO := Lib.hid ho
      clear ho
      go_wp2_with fail
      go_ret
      exact ⟨_, rfl, HO.out, hkw⟩

section
variable {P : Program} {t e : TypeId} {z : Value} {bytes : Nat} (B : TwoT P t e z bytes)
include B
variable {ops : Array Oper} {rest : List Oper} {o : Oper} {a : Act} {Q : Exit → Act → World → Prop}
/-- append(v, u) of a two-cell element. -/
theorem wp_push2 {W : World} (hgd : o.guard = none) (s y : Operand) (ho : o.op = .call { callee := .builtin .append, args := #[s, y], argTypes := #[t, t] }) (n : Nat) (v x1 x2 : Value) (xs : List Value) (g off c : Nat) (hs : a.eval s = v) (hy : a.eval y = .slice (some ⟨g, off, none⟩) 1 c)
    (hown : W.ownsRow 0 e 2 v n xs) (hc : W.cell? ⟨g, off, none⟩ = some x1) (hc2 : W.cell? ⟨g, off + 1, none⟩ = some x2) (h1 : x1.oneCell' = true) (h2 : x2.oneCell' = true) (hl : (n + 1) * bytes ≤ 140737488355328)
    (h : ∀ A c' w', w'.ownsRow 0 e 2 (.slice A (n + 1) c') (n + 1) (xs ++ [x1, x2]) → Kp (fun k => v.ownBlock = some k) W w' → ((Value.slice A (n + 1) c').ownBlock = v.ownBlock ∨ (Value.slice A (n + 1) c').ownBlock = some W.heap.size) → wpList P ops Q rest (a.put o.dst (.slice A (n + 1) c')) w') :
    wpList P ops Q (o :: rest) a W := by
  obtain ⟨v', w', r1, r2, r3, r4⟩ := run_push2 B o.type hown g off c hc hc2 h1 h2 hl
  obtain ⟨A, c', rfl⟩ : ∃ A c', v' = .slice A (n + 1) c' := by
    rcases r2.2 with ⟨_, h0⟩ | ⟨g, cap, cur, rfl, _⟩
    · omega
    · exact ⟨_, _, rfl⟩
  exact Lib.wpList_append_run W hgd s y t t ho v _ hs hy _ w' r1 (h _ _ w' r2 (Kp.of_grown r3) r4)
end
theorem refWriteT : TwoT Tryd.prog 75 114 (.agg #[.int .i64 0, .slice none 0 0]) 32 := ⟨Tryd.underlying75, by kernel_rfl, rfl, by decide⟩

set_option maxRecDepth 100000 in
set_option maxHeartbeats 4000000 in
theorem refWrite_calls {w : World} {F R : Nat → Prop} {p : Value} {D : DD} (h : RefIs w F R p D) (a : Int) (b : List UInt8) (vb : Value) (hb : BS (Out F w) w vb b) (ha : -9223372036854775808 ≤ a ∧ a ≤ 9223372036854775807) (hw : D.waits.length ≤ 1000000) (hbl : b.length ≤ 140737488355328) :
    Calls Tryd.prog 66 #[p, .int .i64 a, vb] w fun e w' => e = .returned (.int .i64 (writeE D a b : Nat)) ∧ ∃ F' R', RefIs w' F' R' p (writeD D a b) ∧ Step F R w w' F' R' := by
  have hin := h
  have hsn := refSeen_calls h hw
  have hcap := h.cap
  obtain ⟨q, vs, vw, ws, rfl, h⟩ := h
  have h0 := h.f0
  have h1 := h.f1
  have h3 := h.f3
  have z3 := h.fz 3 (by decide)
  obtain ⟨Ab, cb, rfl⟩ := hb.len
  have H := Lib.hid h
  have HIN := Lib.hid hin
  have HB := Lib.hid hb
  clear h hin hb
  unfold writeD
  by_cases hc1 : a < 0 ∨ (D.seen.length : Int) < a
  · have he : writeE D a b = 1 := by unfold writeE; rw [if_pos hc1]
    rw [he, if_neg (by decide)]
    clear he
    rcases (by omega : a < 0 ∨ ((0 : Int) ≤ a ∧ (D.seen.length : Int) < a)) with hc1 | ⟨h0, hc1⟩
    · go_enter Tryd.func66, Tryd.ntmps66
      go_wp2_with fail
      go_ret
      exact ⟨rfl, F, R, HIN.out, Step.of_nob (Kp.refl _ _)⟩
    · go_enter Tryd.func66, Tryd.ntmps66
      go_wp2_with fail
      refine hsn.mono ?_
      rintro e w1 ⟨v1, rfl, hv1, hk1⟩
      obtain ⟨A1, d1, rfl⟩ := hv1.len
      have HK1 := Lib.hid hk1
      clear hv1 hk1
      go_wp2_with fail
      go_ret
      exact ⟨rfl, F, R, HIN.out.nob HK1.out, Step.of_nob HK1.out⟩
  · obtain ⟨x, rfl⟩ : ∃ x : Nat, a = x := ⟨a.toNat, by omega⟩
    have hx : x ≤ D.seen.length := by omega
    have i1 : ¬ ((x : Int) < 0) := by omega
    have i2 : ¬ ((x : Int) > (D.seen.length : Int)) := by omega
    have e1 : IntKind.i64.wrap ((x : Int) + b.length) = (x : Int) + b.length := wrap_in (by omega) (by omega)
    obtain ⟨hcap1, hcap2⟩ := hcap
    have HE1 := Lib.hid e1
    clear e1
    by_cases hc2 : D.full = true ∨ (D.cap : Int) - x < b.length
    · have he : writeE D x b = 7 := by unfold writeE; rw [if_neg hc1, if_pos hc2]
      rw [he, if_neg (by decide)]
      clear he hc1
      cases hfu : D.full
      · have hc3 : (x : Int) + b.length > D.cap := by
          rcases hc2 with h | h
          · rw [hfu] at h; cases h
          · omega
        rw [hfu] at h1
        have H1 := Lib.hid h1
        have H0 := Lib.hid h0
        clear h0 h1 h3 z3 hfu hc2
        go_enter Tryd.func66, Tryd.ntmps66
        go_wp2_with fail
        refine hsn.mono ?_
        rintro e w1 ⟨v1, rfl, hv1, hk1⟩
        obtain ⟨A1, d1, rfl⟩ := hv1.len
        have y0 := hk1.cell H0.out id
        have y1 := hk1.cell H1.out id
        have HK1 := Lib.hid hk1
        clear hv1 hk1
        go_wp2_with fail
        go_ret
        exact ⟨rfl, F, R, HIN.out.nob HK1.out, Step.of_nob HK1.out⟩
      · rw [hfu] at h1
        have H1 := Lib.hid h1
        clear h0 h1 h3 z3 hfu hc2
        go_enter Tryd.func66, Tryd.ntmps66
        go_wp2_with fail
        refine hsn.mono ?_
        rintro e w1 ⟨v1, rfl, hv1, hk1⟩
        obtain ⟨A1, d1, rfl⟩ := hv1.len
        have y1 := hk1.cell H1.out id
        have HK1 := Lib.hid hk1
        clear hv1 hk1
        go_wp2_with fail
        go_ret
        exact ⟨rfl, F, R, HIN.out.nob HK1.out, Step.of_nob HK1.out⟩
    · have he : writeE D x b = 0 := by unfold writeE; rw [if_neg hc1, if_neg hc2]
      rw [he, if_pos rfl]
      clear he hc1
      have hfu : D.full = false := by cases h : D.full <;> simp_all
      have hc3 : ¬ ((x : Int) + b.length > D.cap) := by omega
      have hbl2 : b.length + x ≤ D.cap := by omega
      rw [hfu] at h1
      have hfu2 := hfu
      have HFU := Lib.hid hfu2
      clear hfu2
      have hq := H.out.lt q H.out.hb
      obtain ⟨Aw, cw, rfl⟩ : ∃ A c, vw = .slice A D.waits.length c := by
        rcases H.out.ow.2 with ⟨rfl, h0⟩ | ⟨g, cap, cur, rfl, _⟩
        · exact ⟨none, 0, by rw [h0]⟩
        · exact ⟨_, _, rfl⟩
      have H0 := Lib.hid h0
      have H1 := Lib.hid h1
      have H3 := Lib.hid h3
      have Z3 := Lib.hid z3
      have HQ := Lib.hid hq
      have hwb : (D.waits.length + 1) * 32 ≤ 140737488355328 := by omega
      have hnq : ¬ (Value.slice Aw D.waits.length cw).ownBlock = some q := fun h => H.out.nb q h rfl
      clear h0 h1 h3 z3 hfu hc2 hq
      go_enter Tryd.func66, Tryd.ntmps66
      go_wp2_with fail
      refine hsn.mono ?_
      rintro e w1 ⟨v1, rfl, hv1, hk1⟩
      obtain ⟨A1, d1, rfl⟩ := hv1.len
      have y0 := hk1.cell H0.out id
      have y1 := hk1.cell H1.out id
      have HK1 := Lib.hid hk1
      have hbb := HB.out.nob hk1
      have HBB := Lib.hid hbb
      have e1 := HE1.out
      clear hv1 hk1 hbb
      go_wp2_with (first
        | ((with_reducible refine gate_dst (N := 34) rfl ?_); go_must (refine wp_appB (w0 := w1) byteD NoB rfl _ _ rfl _ _ [] b rfl rfl (Out F w) (Own.nil _ _ _) (Kp.refl _ _) HBB.out (by simpa using hbl) ?_); intro v2 w2 ho2 hk2 _; rw [List.nil_append] at ho2; obtain ⟨A2, d2, rfl⟩ := ho2.bs.len; have kk := HK1.out.trans hk2; have g3 := kk.cell H3.out id; have HO2 := Lib.hid ho2; have KK := Lib.hid kk; clear ho2 hk2 kk y0 y1 e1)
        | ((with_reducible refine gate_dst (N := 44) rfl ?_); go_must (refine wp_push2 refWriteT rfl _ _ rfl D.waits.length _ (.int .i64 (x : Int)) (.slice A2 b.length d2) (wrow D.waits ws) w2.heap.size 0 _ rfl rfl (own_nob (own_nob H.out.ow KK.out) ((Kp.refl _ _).alloc _)) (cell_new2 _ _ _ _ _).1 (cell_new2 _ _ _ _ _).2 rfl rfl hwb ?_); intro A3 c3 w3 ho3 hk3 hb3; have k3 := ((KK.out.alloc (.cells #[.int .i64 (x : Int), .slice A2 b.length d2] 114)).weak (F := fun k => (Value.slice Aw D.waits.length cw).ownBlock = some k)).trans hk3; obtain ⟨g4, z4⟩ := fc_kp k3 ⟨H3.out, Z3.out⟩ hnq; have K3 := Lib.hid k3; have HO3 := Lib.hid ho3; have HB3 := Lib.hid hb3; have HK3 := Lib.hid hk3; clear k3 ho3 hb3 hk3 g3)
        | fail)
      go_ret
      have h := H.out
      have hFw : ∀ k, (Value.slice Aw D.waits.length cw).ownBlock = some k → F k := h.hF
      have kq : Kp (fun k => k = q) w3 (w3.setCell ⟨q, 3, none⟩ (.slice A3 (D.waits.length + 1) c3)) := kp_set
      have k12 : Kp NoB w w2 := KK.out
      have k23 : Kp (fun k => (Value.slice Aw D.waits.length cw).ownBlock = some k) w2 w3 := ((Kp.refl NoB w2).alloc _).weak.trans HK3.out
      have kF : Kp F w2 (w3.setCell ⟨q, 3, none⟩ (.slice A3 (D.waits.length + 1) c3)) := (k23.mono fun k _ hk => hFw k hk).step kq fun k _ hk => hk ▸ h.hb
      have kT := k12.weak.trans kF
      have s2 := k12.size
      have s3 := k23.size
      have s4 := kq.size
      have s23 : w2.heap.size + 1 ≤ w3.heap.size := by have := HK3.out.size; simpa using this
      have hlt3 := World.ownsRow.lt HO3.out
      have hb3 : ∀ k, (Value.slice A3 (D.waits.length + 1) c3).ownBlock = some k → (Value.slice Aw D.waits.length cw).ownBlock = some k ∨ k = w2.heap.size + 1 := by
        intro k hk
        rcases HB3.out with h1 | h1
        · exact .inl (h1.symm.trans hk)
        · right
          rw [hk] at h1
          have := Option.some.inj h1
          simpa using this
      have hq := HQ.out
      have h3q : ∀ k, (Value.slice A3 (D.waits.length + 1) c3).ownBlock = some k → ¬ k = q := by
        rintro k hk rfl
        rcases hb3 k hk with h1 | h1
        · exact hnq h1
        · omega
      have rs5 := (h.rs.kp kT fun k _ hk hf => (h.hR k hk).2 hf).mono (T := fun k => R k ∨ (w.heap.size ≤ k ∧ k < w2.heap.size)) fun k _ hk => .inl hk
      have s1 := HK1.out.size
      have rb5 := ((HO2.out.bs.mono (T := fun k => R k ∨ (w.heap.size ≤ k ∧ k < w2.heap.size)) fun k hk1 hk => .inr ⟨by omega, hk1⟩).kp kF fun k hk1 hk hf => by
        rcases hk with hk | hk
        · exact (h.hR k hk).2 hf
        · have := h.lt k hf; omega)
      have c0 : w3.cell? ⟨q, 0, none⟩ = some _ := K3.out.cell H0.out hnq
      have c1 : w3.cell? ⟨q, 1, none⟩ = some _ := K3.out.cell H1.out hnq
      have c2 : w3.cell? ⟨q, 2, none⟩ = some _ := K3.out.cell h.f2 hnq
      have c3' : w3.cell? ⟨q, 3, none⟩ = some _ := K3.out.cell H3.out hnq
      have cz : ∀ i, i < 4 → w3.frozen? ⟨q, i, none⟩ = false := fun i hi => (K3.out.frozen (p := ⟨q, i, none⟩) hq hnq).trans (h.fz i hi)
      refine ⟨rfl, fun k => F k ∨ (w2.heap.size ≤ k ∧ k < w3.heap.size), fun k => R k ∨ (w.heap.size ≤ k ∧ k < w2.heap.size), ⟨q, vs, .slice A3 (D.waits.length + 1) c3, ws ++ [.slice A2 b.length d2], rfl, ?_⟩, ⟨kT, fun k hk => hk.imp id fun h => by omega, fun k hk => hk.imp id fun h => by omega⟩⟩
      exact { f0 := set_far c0 (by decide), f1 := by show _ = some (Value.bool D.full); rw [HFU.out]; exact set_far c1 (by decide), f2 := set_far c2 (by decide), f3 := set_same c3', fz := fun i hi => by rw [World.frozen?_setCell]; exact cz i hi,
              os := (h.os.kp kT fun k _ hk hf => (h.hR k hk).2 hf).mono fun k _ hk => .inl hk
              ow := by
                have := own_kp HO3.out kq h3q
                rw [← wrow_snoc D.waits ws x b _ (by simpa using h.rs.1)] at this
                simpa using this
              rs := by
                have := rs5.snoc rb5
                simpa using this
              nb := h3q
              hb := .inl h.hb
              hF := fun k hk => by
                rcases hb3 k hk with h1 | h1
                · exact .inl (hFw k h1)
                · have := (hlt3 k hk).2; exact .inr ⟨by omega, by omega⟩
              lt := fun k hk => by
                rcases hk with hk | hk
                · have := h.lt k hk; omega
                · omega
              hR := fun k hk => ⟨by
                  rcases hk with hk | hk
                  · have := (h.hR k hk).1; omega
                  · omega, fun hf => by
                  rcases hk with hk | hk
                  · rcases hf with hf | hf
                    · exact (h.hR k hk).2 hf
                    · have := (h.hR k hk).1; omega
                  · rcases hf with hf | hf
                    · have := h.lt k hf; omega
                    · omega⟩
              c1 := h.c1
              c2 := h.c2
              c4 := fun y hy => by
                rcases List.mem_append.1 hy with hy | hy
                · exact h.c4 y hy
                · simp at hy
                  subst hy
                  show x + b.length ≤ D.cap
                  omega
              hs := by
                show overL D.seen x b = laidL D.sure (D.waits ++ [(x, b)])
                unfold laidL
                rw [List.foldl_append, h.hs]
                rfl }
end Go.Proofs.YtgjaggnpheoehaaDoor
