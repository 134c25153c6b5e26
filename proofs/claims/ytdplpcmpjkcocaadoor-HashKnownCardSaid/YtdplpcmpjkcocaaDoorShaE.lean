/- slices.Chunk: its iterator's contract. -/
import Derived.Test.YtdplpcmpjkcocaaDoorShaD
import Derived.RangeFuncNested
import Derived.RangeFuncBound
import Derived.RangeFuncCalls
import Derived.RangeFuncLeaves
import Derived.Shelf.Abstract
import Derived.Shelf.RegionOpen
import Derived.OwnWalkIn
import Derived.TacticsInMore
import Derived.LoopNIn
import Derived.LoopIn
set_option linter.unusedVariables false
set_option linter.unusedSimpArgs false
namespace Go.Proofs.YtdplpcmpjkcocaaDoor
open Go.RowKit Go.Shelf
attribute [local go_sem] Oper.semAt_some

theorem chunk_calls (A : Option Addr) (n c : Nat) (w : World) :
    Calls Tryd.prog 14 #[.slice A n c, .int .i64 64] w fun e w' => e = .returned (.func (.func 19) #[] #[.pointer (some ⟨w.heap.size, 0, none⟩), .pointer (some ⟨w.heap.size + 1, 0, none⟩)]) ∧ w' = (w.alloc (.cells #[.slice A n c] 22)).alloc (.cells #[.int .i64 64] 3) := by
  go_enter Tryd.func14, Tryd.ntmps14
  go_wp2
  go_ret
  exact ⟨rfl, rfl⟩

/-- s[i:i+64:i+64]. -/
theorem run_chunk (g off lo len cap : Nat) (h1 : lo + 64 ≤ len) (h2 : len ≤ cap) (h3 : cap ≤ 9223372036854775807) (W : World) :
    (Instr.slice 22 (.slice (some ⟨g, off, none⟩) len cap) (some (.int .i64 (lo : Int))) (some (.int .i64 ((lo : Int) + 64))) (some (.int .i64 ((lo : Int) + 64)))).run Tryd.prog W = .ok (.slice (some ⟨g, off + lo, none⟩) 64 64) W := by
  obtain ⟨i0, hi0, hzz⟩ := Option.map_eq_some_iff.1 byteT.info
  simp only [Prod.mk.injEq] at hzz
  obtain ⟨hz0, hz1, hz2⟩ := hzz
  have e1 : ((lo : Int) + 64).toNat = lo + 64 := by omega
  have e2 : lo + 64 ≤ cap := by omega
  have e3 : (0 : Int) ≤ (lo : Int) + 64 := by omega
  simp [Instr.slice, Instr.sliceBounds, Instr.sliceBound, run_underlying byteT.sl, sizeOf, typeInfo, hi0, hz1, asIntOf, e1, e2, e3]
  rw [if_pos (by omega), Addr.add_lit]

/-- s[i:]. -/
theorem run_tail (g off lo len cap : Nat) (h1 : lo ≤ len) (h2 : lo < cap) (W : World) :
    (Instr.slice 22 (.slice (some ⟨g, off, none⟩) len cap) (some (.int .i64 (lo : Int))) none none).run Tryd.prog W = .ok (.slice (some ⟨g, off + lo, none⟩) (len - lo) (cap - lo)) W := by
  obtain ⟨i0, hi0, hzz⟩ := Option.map_eq_some_iff.1 byteT.info
  simp only [Prod.mk.injEq] at hzz
  obtain ⟨hz0, hz1, hz2⟩ := hzz
  have e3 : ¬ (cap = lo) := by omega
  simp [Instr.slice, Instr.sliceBounds, Instr.sliceBound, run_underlying byteT.sl, sizeOf, typeInfo, hi0, hz1, asIntOf, h1, e3, Addr.add_lit]

/-- What a round keeps: all below n₀ but block hb. -/
def KQ (hb n₀ : Nat) (W W' : World) : Prop := Kp (fun k => k = hb ∨ n₀ ≤ k) W W'

theorem fin_take (N k : Nat) (h : k < N) : (List.finRange N).take (k + 1) = (List.finRange N).take k ++ [⟨k, h⟩] := by
  rw [List.take_succ_eq_append_getElem (by simpa using h)]
  simp
set_option maxRecDepth 100000 in
set_option maxHeartbeats 4000000 in
theorem chunk1_in (n : Nat) (hn : 1 ≤ n) (l B1 B2 g off cap N hb n₀ : Nat) (all : List UInt8) (hN : all.length = 64 * N) (hNb : N ≤ 1000000) (hcap : 64 * N ≤ cap) (hcap2 : cap ≤ 9223372036854775807)
    (hB1 : B1 < n₀ ∧ B1 ≠ hb) (hB2 : B2 < n₀ ∧ B2 ≠ hb) (J Jx : List (Fin N) → World → Prop) (hJd : ∀ s W n, J s W → J s (World.drewN W n))
    (hY : ∀ (pre : List (Fin N)) (k : Fin N) (W : World), J pre W → pre.length < N → YieldAt Fence.wide (n - 1) Tryd.prog l #[.slice (some ⟨g, off + 64 * k.1, none⟩) 64 64] W fun e W' =>
      (e = .returned (.bool true) ∧ J (pre ++ [k]) W' ∧ KQ hb n₀ W W') ∨ (e = .returned (.bool false) ∧ Jx (pre ++ [k]) W'))
    (W : World) (h1 : W.cell? ⟨B1, 0, none⟩ = some (.slice (some ⟨g, off, none⟩) (64 * N) cap)) (h2 : W.cell? ⟨B2, 0, none⟩ = some (.int .i64 64)) (h0 : J [] W) :
    CallsIn Fence.wide n Tryd.prog 19 #[.func (.yield l) #[] #[], .pointer (some ⟨B1, 0, none⟩), .pointer (some ⟨B2, 0, none⟩)] W fun e W' => (∃ v, e = .returned v) ∧
      ((∃ ys, ys = List.finRange N ∧ J ys W') ∨ (∃ pre, True ∧ Jx pre W')) := by
  refine callsIn_of_wp Tryd.func19 rfl trivial ?_ rfl
  simp only [Tryd.ntmps19, List.size_toArray, List.length_cons, List.length_nil, Nat.reduceAdd, Nat.reduceSub, Array.replicate_succ, Array.replicate_zero, List.push_toArray, List.append_toArray, List.nil_append, List.cons_append]
  gi_wp2
  gi_loopw [4] (fun i wr => ∃ k lo : Nat, k ≤ N ∧ lo = 64 * k ∧ i = .int .i64 lo ∧ J ((List.finRange N).take k) wr ∧ wr.cell? ⟨B1, 0, none⟩ = some (.slice (some ⟨g, off, none⟩) (64 * N) cap) ∧ wr.cell? ⟨B2, 0, none⟩ = some (.int .i64 64)) (fun i _ => 64 * N + 64 - (intOf i).toNat)
  case atStart => exact ⟨0, 0, Nat.zero_le _, rfl, rfl, h0, h1, h2⟩
  case round =>
    obtain ⟨k, lo, hk, hlo, rfl, hJs, c1, c2⟩ := hrel
    clear h1 h2
    obtain ⟨m, hm⟩ : ∃ m, m = 64 * N := ⟨_, rfl⟩
    rw [← hm] at c1 hcap ⊢
    have HM := Lib.hid hm
    have HLO := Lib.hid hlo
    by_cases hlt : k < N
    · have hl1 : lo + 64 ≤ m := by omega
      have hsl := run_chunk g off lo m cap hl1 hcap hcap2
      have hcut := run_tail g off lo m cap (by omega) (by omega)
      have hlm : lo < m := by omega
      have hmin : ∀ (W' : World) ts ty, (Builtin.min_ ts ty #[.int .i64 64, .int .i64 ((m - lo : Nat) : Int)]).run Tryd.prog W' = .ok (.int .i64 64) W' := by
        intro W' ts ty
        rw [run_min_int2]
        rw [if_neg (by omega)]
      have hmb : m ≤ 64000000 := by omega
      clear hm hlo
      gi_wp2
      gi_quiet (fail)
      clear hmin hcut
      obtain ⟨fn, tmps, assign, body, hy, hR⟩ := hY _ ⟨k, hlt⟩ (wr.drewN nq) (hJd _ _ _ hJs) (by simp; omega)
      dsimp only at hy
      rw [← HLO.out] at hy
      have k1 : (wr.drewN nq).cell? ⟨B1, 0, none⟩ = some (.slice (some ⟨g, off, none⟩) m cap) := c1
      have k2 : (wr.drewN nq).cell? ⟨B2, 0, none⟩ = some (.int .i64 64) := c2
      have hk0 : Kp NoB wr (wr.drewN nq) := (Kp.refl _ _).drewN nq
      generalize wr.drewN nq = wz at *
      have HB1 := Lib.hid hB1
      have HB2 := Lib.hid hB2
      clear hB1 hB2
      gi_wp2
      refine hR.mono ?_
      rintro e W3 (⟨rfl, hJ3, hk3⟩ | ⟨rfl, hJx3⟩)
      · have q1 := Kp.cell hk3 k1 (fun h => h.elim HB1.out.2 fun h => absurd (show n₀ ≤ B1 from h) (by have := HB1.out.1; omega))
        have q2 := Kp.cell hk3 k2 (fun h => h.elim HB2.out.2 fun h => absurd (show n₀ ≤ B2 from h) (by have := HB2.out.1; omega))
        rw [← fin_take N k hlt] at hJ3
        clear k1 k2 c1 c2 hy hR hsl hk3
        gi_wp2
        go_roundw
        case rel => exact ⟨k + 1, lo + 64, by omega, by have := HLO.out; omega, by go_num, hJ3, q1, q2⟩
        case measure => simp [intOf]; omega
      · gi_wp2
        refine bodyPost_ret (results_none rfl _ _ _) rfl ?_
        exact ⟨⟨_, rfl⟩, .inr ⟨_, trivial, hJx3⟩⟩
    · have hge : ¬ (lo < m) := by omega
      obtain rfl : k = N := by omega
      clear hm hlo hB1 hB2
      gi_wp2
      go_end0
      exact ⟨⟨_, rfl⟩, .inl ⟨_, by rw [List.take_of_length_le (by simp)], hJs⟩⟩

/-- What abides new blocks and the turn of a walk abides draws. -/
theorem abides_drewN {β : Type} {B : Nat} {J : β → World → Prop} (h : AbidesFrom B J) (s : β) (W : World) (n : Nat) (hj : J s W) : J s (W.drewN n) :=
  h s W (W.drewN n) none hj ⟨rfl, rfl, rfl, Nat.le_refl _, fun _ _ _ => rfl⟩ (fun r e => by cases e)
theorem chunk_stops (n : Nat) (hn : 1 ≤ n) (B1 B2 g off cap N hb n₀ : Nat) (all : List UInt8) (hN : all.length = 64 * N) (hNb : N ≤ 1000000) (hcap : 64 * N ≤ cap) (hcap2 : cap ≤ 9223372036854775807)
    (hB1 : B1 < n₀ ∧ B1 ≠ hb) (hB2 : B2 < n₀ ∧ B2 ≠ hb) (w : World) (hn0 : n₀ ≤ w.heap.size) (h1 : w.cell? ⟨B1, 0, none⟩ = some (.slice (some ⟨g, off, none⟩) (64 * N) cap)) (h2 : w.cell? ⟨B2, 0, none⟩ = some (.int .i64 64)) :
    SeqStopsK Fence.wide n Tryd.prog 19 #[.pointer (some ⟨B1, 0, none⟩), .pointer (some ⟨B2, 0, none⟩)] (fun k : Fin N => #[.slice (some ⟨g, off + 64 * k.1, none⟩) 64 64]) (KQ hb n₀) (fun ys => ys = List.finRange N) (fun pre => True) N w :=
  fun l J Jx W hW hJ _ hY h0 =>
    chunk1_in n hn l B1 B2 g off cap N hb n₀ all hN hNb hcap hcap2 hB1 hB2 J Jx (fun s W n hj => abides_drewN hJ s W n hj) hY W
      ((hW.cell (p := ⟨B1, 0, none⟩) (show B1 < w.heap.size by omega)).trans h1) ((hW.cell (p := ⟨B2, 0, none⟩) (show B2 < w.heap.size by omega)).trans h2) h0
end Go.Proofs.YtdplpcmpjkcocaaDoor
