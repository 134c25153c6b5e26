/- append of make: bytes 0 behind an owned slice; and of what keeps the HMAC of a key. -/
import Derived.Test.YtdplpcmpjkcocaaDoorShaT
import Derived.Test.YtdplpcmpjkcocaaDoorShaEq
set_option linter.unusedVariables false
set_option linter.unusedSimpArgs false
namespace Go.Proofs.YtdplpcmpjkcocaaDoor
open Go.RowKit

theorem zeroCells_one (z : Value) (n : Nat) : Builtin.zeroCells #[z] n = (List.replicate n z).toArray := by
  apply Array.ext'
  apply List.ext_getElem
  · simp [Builtin.zeroCells]
  · intro j h1 h2
    simp [Builtin.zeroCells, Nat.mod_one]
theorem own_zeros {e : TypeId} {w : World} {base : Nat} {v : Value} {l : List UInt8} {m : Nat} (h : w.ownsRow base e 1 v (l.length + m) (bvs (l ++ List.replicate m 0))) : Own e w base v (l ++ List.replicate m 0) := by
  unfold Own
  rw [List.length_append, List.length_replicate]
  exact h
section
variable {P : Program} {t e : TypeId} (B : ByteT P t e)
include B
/-- append(v, make([]byte, m)...) onto an owned row; the row itself stays. -/
theorem run_app0 {W : World} (tn ty : TypeId) (htn : P.underlying tn = some (.int .i64)) {base : Nat} {v : Value} {l : List UInt8} (m : Nat) (ho : Own e W base v l) (hl : l.length + m ≤ 140737488355328) (hbase : base ≤ W.heap.size) :
    ∃ v' w', (Builtin.append_ #[t, tn] ty #[v, .int .i64 (m : Int)]).run P W = .ok v' w' ∧ Own e w' base v' (l ++ List.replicate m 0) ∧ Own e w' base v l ∧ W.grownBy w' v.ownBlock := by
  obtain ⟨i, hi, hzz⟩ := Option.map_eq_some_iff.1 B.info
  simp only [Prod.mk.injEq] at hzz
  obtain ⟨hz, hs1, hb1⟩ := hzz
  have ht := B.sl
  have hw : IntKind.i64.wrap (m : Int) = m := by rw [IntKind.wrap_i64]; omega
  have hneg : ¬ ((m : Int) < 0) := by omega
  have h48i : ¬ (281474976710656 < (m : Int) * (i.bytes : Int)) := by rw [hb1]; omega
  have h48m : ¬ (281474976710656 < (m : Int)) := by omega
  have hlen : (bvs (l ++ List.replicate m 0)).length = l.length + m := by simp [bvs_length]
  have hrep : bvs (List.replicate m 0) = List.replicate m (.int .u8 0) := by simp [bvs, bv]
  have hzc : (Value.int .u8 0).cells = #[.int .u8 0] := rfl
  rcases ho.2 with ⟨rfl, h0⟩ | ⟨g, cap, cur, rfl, hbg, hg, hnc, hcm, hcs, htake⟩
  · obtain rfl := List.eq_nil_of_length_eq_zero h0
    by_cases hm : m = 0
    · subst hm
      refine ⟨.slice none 0 0, W, ?_, by simpa using ho, ho, World.grownBy.refl W _⟩
      simp [Builtin.append_, run_underlying ht, run_underlying htn, sizeOf, typeInfo, hi, hb1, hs1, asInt, asIntOf, IntKind.wrap_i64]
    · have hr := Lib.run_append_nil_zeros (P := P) W t tn ty e i (.int .u8 0) .i64 .i64 ht htn hi hz m (by omega) (by omega) (by simp only [List.length_nil] at hl; omega) (by rw [hb1]; simp only [List.length_nil] at hl; omega)
      have hge := grownCap_ge W m 0 e
      have hcm : grownCap W m 0 e ≤ maxLen := grownCap_le_maxLen W m 0 e (by simp only [maxLen, List.length_nil] at hl ⊢; omega)
      refine ⟨_, _, hr, own_zeros ⟨by rw [bvs_length]; simp, .inr ⟨W.heap.size, _, _, by simp, hbase, heap_alloc_new W.drew _, by simpa using hge, hcm, ?_, ?_⟩⟩, Own.nil _ _ _, ⟨rfl, rfl, rfl, by simp, fun k hk _ => Below.heap_alloc W.drew _ k hk⟩⟩
      · rw [hzc, zeroCells_one, zeroCells_one]
        simp
        omega
      · rw [hzc, zeroCells_one, zeroCells_one]
        simp [hrep]
  · have hcs' : cur.size = cap := by omega
    by_cases hroom : l.length + m ≤ cap
    · have hst := run_storeCells_at P g l.length e (List.replicate m (Value.int .u8 0)) 0 cur W hg (by simp; omega) (by simp; intro _; rfl)
      simp only [Nat.add_zero] at hst
      have hrun : (Builtin.append_ #[t, tn] ty #[.slice (some ⟨g, 0, none⟩) l.length cap, .int .i64 (m : Int)]).run P W =
          .ok (.slice (some ⟨g, 0, none⟩) (l.length + m) cap) (W.setRow g (cur.toList.take l.length ++ List.replicate m (Value.int .u8 0) ++ cur.toList.drop (l.length + m)).toArray) := by
        by_cases hm : m = 0
        · subst hm
          simp only [List.replicate_zero] at hst
          simp [Builtin.append_, run_underlying ht, run_underlying htn, sizeOf, typeInfo, zeroValue, hi, hz, hb1, hs1, hnc, asInt, asIntOf, IntKind.wrap_i64, Addr.add_lit] at hst ⊢
          rw [hst]
          simp
        · simp [Builtin.append_, run_underlying ht, run_underlying htn, sizeOf, typeInfo, zeroValue, hi, hz, hzc, zeroCells_one, hb1, hs1, hw, hneg, hm, h48m, asInt, asIntOf, hroom, Addr.add_lit] at hst ⊢
          rw [hst]
          simp
      refine ⟨_, _, hrun, own_zeros ⟨by rw [bvs_length]; simp, .inr ⟨g, cap, _, rfl, hbg, setRow_heap W g cur _ e _ hg, by simpa using hroom, hcm, ?_, ?_⟩⟩, ⟨ho.1, .inr ⟨g, cap, _, rfl, hbg, setRow_heap W g cur _ e _ hg, by simpa using hnc, hcm, ?_, ?_⟩⟩, ⟨rfl, rfl, rfl, by simp, fun k _ hk => setRow_other W g k _ (fun e => hk (by simp [Value.ownBlock, e]))⟩⟩
      · simp; omega
      · simp only [Nat.mul_one] at htake ⊢
        simp only [htake, bvs_append, hrep]
        rw [List.take_left' (by simp [bvs_length])]
      · simp; omega
      · simp only [Nat.mul_one] at htake ⊢
        simp [htake, bvs_length]
    · have holds : ∀ j u, (bvs l)[j]? = some u → W.cell? ((⟨g, 0, none⟩ : Addr).add j) = some u := ho.cells (g := g) rfl
      have hfo := run_firstCells_some (P := P) W.drew i.size l.length ⟨g, 0, none⟩ l.length cap (bvs l) (by rw [bvs_length, hs1]; omega) (by simpa using holds)
      have hm : m ≠ 0 := by omega
      have hn : ¬ (l.length + m ≤ cap) := hroom
      have h63' : ¬ (9223372036854775807 < ((l.length : Int) + (m : Int))) := by omega
      have h48' : ¬ (281474976710656 < Builtin.nextslicecap (l.length + m) cap * i.bytes) := by
        have := growslice_fits (show cap < l.length + m by omega) (show (l.length + m) * 1 ≤ 140737488355328 by omega)
        rw [hb1]; omega
      have h48n : ¬ (281474976710656 < Builtin.nextslicecap (l.length + m) cap) := by rw [hb1, Nat.mul_one] at h48'; exact h48'
      have hge := grownCap_ge W (l.length + m) cap e
      have hcm : grownCap W (l.length + m) cap e ≤ maxLen := grownCap_le_maxLen W (l.length + m) cap e (by simp only [maxLen]; omega)
      have hrun : (Builtin.append_ #[t, tn] ty #[.slice (some ⟨g, 0, none⟩) l.length cap, .int .i64 (m : Int)]).run P W =
          .ok (.slice (some ⟨W.heap.size, 0, none⟩) (l.length + m) (grownCap W (l.length + m) cap e)) (W.drew.alloc (.cells ((bvs l).toArray ++ (List.replicate m (Value.int .u8 0)).toArray ++ (List.replicate (grownCap W (l.length + m) cap e - (l.length + m)) (Value.int .u8 0)).toArray) e)) := by
        rw [hs1] at hfo
        simp [Builtin.append_, run_underlying ht, run_underlying htn, sizeOf, typeInfo, zeroValue, hi, hz, hzc, zeroCells_one, hb1, hs1, hw, hneg, hm, h48m, asInt, asIntOf, hn, h63', h48n, Question.forced, hfo, newRow, grownCap]
      have kk : Kp NoB W (W.drew.alloc (.cells ((bvs l).toArray ++ (List.replicate m (Value.int .u8 0)).toArray ++ (List.replicate (grownCap W (l.length + m) cap e - (l.length + m)) (Value.int .u8 0)).toArray) e)) := ((Kp.refl _ _).drew).alloc _
      refine ⟨_, _, hrun, own_zeros ⟨by rw [bvs_length]; simp, .inr ⟨W.heap.size, _, _, rfl, hbase, heap_alloc_new W.drew _, by simpa using hge, hcm, ?_, ?_⟩⟩, ho.nob kk, ⟨rfl, rfl, rfl, by simp, fun k hk _ => Below.heap_alloc W.drew _ k hk⟩⟩
      · simp [bvs_length]
        omega
      · simp [bvs_append, hrep, bvs_length]
        rw [← List.replicate_append_replicate, ← List.append_assoc, List.take_left' (by simp [bvs_length])]
end
/-! What keeps the HMAC of a key -/
theorem key64_zeros (key : List UInt8) (m : Nat) (h : key.length + m ≤ 64) : key64 (key ++ List.replicate m 0) = key64 key := by
  have h1 : ¬ 64 < (key ++ List.replicate m 0).length := by simp; omega
  have h2 : ¬ 64 < key.length := by omega
  unfold key64
  simp only [if_neg h1, if_neg h2, List.append_assoc, List.replicate_append_replicate]
  congr 2
  simp
  omega
theorem key64_sha (key : List UInt8) (h : 64 < key.length) : key64 (shaN key) = key64 key := by
  have h1 : ¬ 64 < (shaN key).length := by rw [shaN_length]; decide
  unfold key64
  simp only [if_neg h1, if_pos h]
theorem hmac_key {k1 k2 : List UInt8} (h : key64 k1 = key64 k2) (b : List UInt8) : hmacN k1 b = hmacN k2 b := by unfold hmacN; rw [h]
/-- What lies in 64 bytes 0 when a short key is copied in. -/
theorem key64_copy (key : List UInt8) (h : key.length ≤ 64) : key ++ (List.replicate 64 (0 : UInt8)).drop key.length = key64 key := by
  have h1 : ¬ 64 < key.length := by omega
  unfold key64
  simp only [if_neg h1, List.drop_replicate]
theorem yieldsIf_neqsame20 {ops : Array Oper} {S : World → Prop} {op : Oper} {a : Act} (hw : Region.wanted op (yielded ops a.tmps) = true) (t' : TypeId) (x y : Operand) (ho : op.op = .binOp .neq 23 x y t')
    (l : List UInt8) (hx : a.eval x = .agg (bvs l).toArray) (hy : a.eval y = .agg (bvs l).toArray) (hl : l.length = 20) : YieldsIf Tryd.prog ops S op (.bool false) a := by
  have := yieldsIf_neq20 (S := S) hw t' x y ho l l hx hy hl hl
  rwa [decide_eq_true rfl] at this
section
variable {P : Program} {t e : TypeId} (B : ByteT P t e)
include B
variable {o : Oper} {a : Act} {K : Act → World → Prop} {Q : Exit → Act → World → Prop}
theorem owp_app {W : World} (s y : Operand) (ho : o.op = .call { callee := .builtin .append, args := #[s, y], argTypes := #[t, t] }) (base : Nat) (v x : Value) (l m : List UInt8) (hs : a.eval s = v) (hy : a.eval y = x)
    (S : Nat → Prop) (hown : Own e W base v l) (hx : BS S W x m) (hl : l.length + m.length ≤ 140737488355328) (hbase : base ≤ W.heap.size)
    (h : ∀ v' w', Own e w' base v' (l ++ m) → W.grownBy w' v.ownBlock → (v'.ownBlock = v.ownBlock ∨ v'.ownBlock = some W.heap.size) → K (a.put o.dst v') w') : o.wp P a W K Q := by
  obtain ⟨v', w', h1, h2, h3, h4⟩ := run_app B o.type hown hx hl hbase
  exact Lib.wp_append_run W s y t t ho v x hs hy v' w' h1 (h v' w' h2 h3 h4)
theorem owp_app0 {W : World} (s y : Operand) (tn : TypeId) (htn : P.underlying tn = some (.int .i64)) (ho : o.op = .call { callee := .builtin .append, args := #[s, y], argTypes := #[t, tn] }) (base : Nat) (v : Value) (l : List UInt8) (m : Nat) (hs : a.eval s = v) (hy : a.eval y = .int .i64 (m : Int))
    (hown : Own e W base v l) (hl : l.length + m ≤ 140737488355328) (hbase : base ≤ W.heap.size)
    (h : ∀ v' w', Own e w' base v' (l ++ List.replicate m 0) → Own e w' base v l → W.grownBy w' v.ownBlock → K (a.put o.dst v') w') : o.wp P a W K Q := by
  obtain ⟨v', w', h1, h2, h3, h4⟩ := run_app0 B tn o.type htn m hown hl hbase
  exact Lib.wp_append_run W s y t tn ho v _ hs hy v' w' h1 (h v' w' h2 h3 h4)
end
end Go.Proofs.YtdplpcmpjkcocaaDoor
