/- Words of memory used by every walk of this seat: what a call may change, byte slices that are read, byte slices that the call owns. -/
import Derived.WalkKit
import Derived.RegionTactic
import Derived.LoopTactic
import Derived.Maps.AppendAt
import Derived.Lib.AppendZeros
import Derived.Lib.SliceRun
import Derived.Lib.Hide
import Derived.WalkSpells
import Derived.Deep.QuietTactic
import Derived.BigQuiet
import Derived.Deep.DeepMust
import Derived.Laws.BytesArg
import Derived.Lib.SlBytesConst
import Derived.Deep.OwnRows
set_option linter.unusedVariables false
set_option linter.unusedSimpArgs false
namespace Go.Proofs.YtgjaggnpheoehaaDoor
open Go.RowKit

/-- What may have changed: the blocks that F names, and new ones. -/
structure Kp (F : Nat → Prop) (w w' : World) : Prop where
  os : w'.os = w.os
  tape : w'.tape = w.tape
  output : w'.output = w.output
  size : w.heap.size ≤ w'.heap.size
  block : ∀ k, k < w.heap.size → ¬ F k → w'.heap[k]? = w.heap[k]?

def NoB : Nat → Prop := fun _ => False
def AllB : Nat → Prop := fun _ => True

theorem Kp.refl (F : Nat → Prop) (w : World) : Kp F w w := ⟨rfl, rfl, rfl, Nat.le_refl _, fun _ _ _ => rfl⟩
theorem Kp.trans {F : Nat → Prop} {a b c : World} (h : Kp F a b) (k : Kp F b c) : Kp F a c :=
  ⟨k.os.trans h.os, k.tape.trans h.tape, k.output.trans h.output, Nat.le_trans h.size k.size, fun i hi hF => (k.block i (Nat.lt_of_lt_of_le hi h.size) hF).trans (h.block i hi hF)⟩
/-- A second step that changes what the first one made, or what F names. -/
theorem Kp.step {F G : Nat → Prop} {a b c : World} (h : Kp F a b) (k : Kp G b c) (hG : ∀ i, i < a.heap.size → G i → F i) : Kp F a c :=
  ⟨k.os.trans h.os, k.tape.trans h.tape, k.output.trans h.output, Nat.le_trans h.size k.size, fun i hi hF => (k.block i (Nat.lt_of_lt_of_le hi h.size) (fun g => hF (hG i hi g))).trans (h.block i hi hF)⟩
theorem Kp.mono {F G : Nat → Prop} {a b : World} (h : Kp F a b) (hG : ∀ i, i < a.heap.size → F i → G i) : Kp G a b :=
  ⟨h.os, h.tape, h.output, h.size, fun i hi hF => h.block i hi (fun g => hF (hG i hi g))⟩
theorem Kp.weak {F : Nat → Prop} {a b : World} (h : Kp NoB a b) : Kp F a b := h.mono fun _ _ h => h.elim
theorem Kp.next {F : Nat → Prop} {a b c : World} (h : Kp F a b) (k : Kp NoB b c) : Kp F a c := h.step k fun _ _ h => h.elim
theorem Kp.drew {F : Nat → Prop} {a w : World} (h : Kp F a w) : Kp F a w.drew := ⟨h.os, h.tape, h.output, h.size, h.block⟩
theorem Kp.drewN {F : Nat → Prop} {a w : World} (h : Kp F a w) (n : Nat) : Kp F a (w.drewN n) := ⟨h.os, h.tape, h.output, h.size, h.block⟩
theorem Kp.alloc {F : Nat → Prop} {a w : World} (h : Kp F a w) (o : Obj) : Kp F a (w.alloc o) :=
  h.trans ⟨rfl, rfl, rfl, by simp, fun k hk _ => Below.heap_alloc _ _ _ hk⟩
theorem Kp.setCell {F : Nat → Prop} {a w : World} (h : Kp F a w) {p : Addr} (hp : a.heap.size ≤ p.block ∨ F p.block) (u : Value) : Kp F a (w.setCell p u) :=
  ⟨h.os, h.tape, h.output, by simpa [World.setCell] using h.size, fun k hk hF => (Below.heap_setCell _ _ _ _ (by
    rintro rfl
    rcases hp with hp | hp
    · omega
    · exact hF hp)).trans (h.block k hk hF)⟩
theorem Kp.of_below {w w' : World} (h : Below w.heap.size w w') : Kp NoB w w' := ⟨h.os, h.tape, h.output, h.size, fun k hk _ => h.block k hk⟩
theorem Kp.below {w w' : World} (h : Kp NoB w w') : Below w.heap.size w w' := ⟨h.os, h.tape, h.output, h.size, fun k hk => h.block k hk id⟩
theorem Kp.of_grown {w w' : World} {row : Option Nat} (h : w.grownBy w' row) : Kp (fun k => row = some k) w w' := ⟨h.os, h.tape, h.output, h.size, fun k hk hne => h.block k hk (fun e => hne e.symm)⟩
theorem Kp.grown {F : Nat → Prop} {a w w' : World} {row : Option Nat} (h : Kp F a w) (hg : w.grownBy w' row) (hr : ∀ k, row = some k → a.heap.size ≤ k ∨ F k) : Kp F a w' :=
  h.step (Kp.of_grown hg) fun i hi e => (hr i e).elim (fun h => absurd hi (by omega)) id
theorem Kp.cell {F : Nat → Prop} {w w' : World} (h : Kp F w w') {p : Addr} {v : Value} (hc : w.cell? p = some v) (hF : ¬ F p.block) : w'.cell? p = some v :=
  (World.cell?_of_block (h.block p.block (World.block_lt_of_cell? w p hc) hF)).trans hc
theorem Kp.obj {F : Nat → Prop} {w w' : World} (h : Kp F w w') {k : Nat} {o : Obj} (hc : w.heap[k]? = some o) (hF : ¬ F k) : w'.heap[k]? = some o :=
  (h.block k (Array.getElem?_eq_some_iff.1 hc).1 hF).trans hc

/-- An owned row lives on where its block isn't among the changed ones. -/
theorem own_kp {F : Nat → Prop} {w w' : World} {base : Nat} {e : TypeId} {size n : Nat} {v : Value} {xs : List Value} (h : w.ownsRow base e size v n xs) (k : Kp F w w') (hF : ∀ b, v.ownBlock = some b → ¬ F b) : w'.ownsRow base e size v n xs := by
  refine ⟨h.1, ?_⟩
  rcases h.2 with hn | ⟨g, cap, cur, rfl, hb, hg, rest⟩
  · exact .inl hn
  · exact .inr ⟨g, cap, cur, rfl, hb, k.obj hg (hF g rfl), rest⟩
theorem own_nob {w w' : World} {base : Nat} {e : TypeId} {size n : Nat} {v : Value} {xs : List Value} (h : w.ownsRow base e size v n xs) (k : Kp NoB w w') : w'.ownsRow base e size v n xs := own_kp h k fun _ _ => id
theorem own_low {w : World} {base base' : Nat} {e : TypeId} {size n : Nat} {v : Value} {xs : List Value} (h : w.ownsRow base e size v n xs) (hb : base' ≤ base) : w.ownsRow base' e size v n xs := by
  refine ⟨h.1, ?_⟩
  rcases h.2 with hn | ⟨g, cap, cur, rfl, hg, rest⟩
  · exact .inl hn
  · exact .inr ⟨g, cap, cur, rfl, by omega, rest⟩

theorem results_tmp4 {fn : Func} {t u v x : Tmp} (h : fn.results = #[.tmp t, .tmp u, .tmp v, .tmp x]) (tmps : Array Value) (P : Program) (w : World) :
    (results fn tmps).run P w = .ok (.tuple #[tmps.getD t undef, tmps.getD u undef, tmps.getD v undef, tmps.getD x undef]) w := by simp [results, h]
theorem ofInt_i64 (a : Nat) (ha : a < 9223372036854775808) : (BitVec.ofInt 64 (a : Int)).toNat = a := by
  rw [BitVec.ofInt_natCast, BitVec.toNat_ofNat]; exact Nat.mod_eq_of_lt (by omega)
theorem i64_or_nat (a b : Nat) (ha : a < 9223372036854775808) (hb : b < 9223372036854775808) : bits .or .i64 (a : Int) (b : Int) = ((a ||| b : Nat) : Int) := by
  have hx : a ||| b < 2 ^ 63 := Nat.or_lt_two_pow (by omega) (by omega)
  show IntKind.i64.wrap ((BitVec.ofInt 64 (a : Int) ||| BitVec.ofInt 64 (b : Int)).toNat : Int) = _
  rw [BitVec.toNat_or, ofInt_i64 a ha, ofInt_i64 b hb, IntKind.wrap_i64]
  omega
theorem wrap_in {i : Int} (h0 : -9223372036854775808 ≤ i) (h1 : i ≤ 9223372036854775807) : IntKind.i64.wrap i = i := by rw [IntKind.wrap_i64]; omega
theorem wrap_nat {i : Nat} (h1 : i ≤ 140737488355328) : IntKind.i64.wrap (i : Int) = (i : Int) := wrap_in (by omega) (by omega)
/-! Bytes -/
def bv (b : UInt8) : Value := .int .u8 (b.toNat : Int)
def bvs (l : List UInt8) : List Value := l.map bv
theorem bvs_length (l : List UInt8) : (bvs l).length = l.length := by simp [bvs]
theorem bvs_append (l m : List UInt8) : bvs (l ++ m) = bvs l ++ bvs m := by simp [bvs]
theorem bvs_one (l : List UInt8) : ∀ u ∈ bvs l, u.oneCell' = true := by
  intro u hu
  obtain ⟨_, _, rfl⟩ := List.mem_map.1 hu
  rfl
theorem bvs_get (l : List UInt8) (j : Nat) (h : j < l.length) : (bvs l)[j]? = some (bv l[j]) := by simp [bvs, h]

/-- v is a slice of the bytes l; where there is a byte, they lie in a block that S names. -/
def BS (S : Nat → Prop) (w : World) (v : Value) (l : List UInt8) : Prop :=
  ∃ A c, v = .slice A l.length c ∧ l.length ≤ c ∧ c ≤ 9223372036854775807 ∧ (A = none → c = 0) ∧
    (0 < l.length → ∃ b off, A = some ⟨b, off, none⟩ ∧ S b ∧ ∀ j (h : j < l.length), w.cell? ⟨b, off + j, none⟩ = some (bv l[j]))
theorem BS.kp {S F : Nat → Prop} {w w' : World} {v : Value} {l : List UInt8} (h : BS S w v l) (k : Kp F w w') (hF : ∀ b, b < w.heap.size → S b → ¬ F b) : BS S w' v l := by
  obtain ⟨A, c, rfl, hc, hm, hn, hr⟩ := h
  refine ⟨A, c, rfl, hc, hm, hn, fun h0 => ?_⟩
  obtain ⟨b, off, rfl, hS, hcell⟩ := hr h0
  refine ⟨b, off, rfl, hS, fun j hj => k.cell (hcell j hj) (hF b ?_ hS)⟩
  exact World.block_lt_of_cell? w _ (hcell 0 h0)
theorem BS.nob {S : Nat → Prop} {w w' : World} {v : Value} {l : List UInt8} (h : BS S w v l) (k : Kp NoB w w') : BS S w' v l := h.kp k fun _ _ _ => id
theorem BS.mono {S T : Nat → Prop} {w : World} {v : Value} {l : List UInt8} (h : BS S w v l) (hT : ∀ b, b < w.heap.size → S b → T b) : BS T w v l := by
  obtain ⟨A, c, rfl, hc, hm, hn, hr⟩ := h
  refine ⟨A, c, rfl, hc, hm, hn, fun h0 => ?_⟩
  obtain ⟨b, off, rfl, hS, hcell⟩ := hr h0
  exact ⟨b, off, rfl, hT b (World.block_lt_of_cell? w _ (hcell 0 h0)) hS, hcell⟩
theorem BS.lt {S : Nat → Prop} {w : World} {v : Value} {l : List UInt8} (h : BS S w v l) : BS (fun b => b < w.heap.size) w v l := h.mono fun _ h _ => h
theorem BS.all {S : Nat → Prop} {w : World} {v : Value} {l : List UInt8} (h : BS S w v l) : BS AllB w v l := h.mono fun _ _ _ => trivial
theorem BS.nil (S : Nat → Prop) (w : World) : BS S w (.slice none 0 0) [] := ⟨none, 0, rfl, Nat.le_refl _, by decide, fun _ => rfl, fun h => absurd h (by simp)⟩
theorem BS.len {S : Nat → Prop} {w : World} {v : Value} {l : List UInt8} (h : BS S w v l) : ∃ A c, v = .slice A l.length c := by
  obtain ⟨A, c, h, _⟩ := h
  exact ⟨A, c, h⟩
/-- The two shapes. -/
theorem BS.shape {S : Nat → Prop} {w : World} {v : Value} {l : List UInt8} (h : BS S w v l) :
    (l = [] ∧ ∃ A c, v = .slice A 0 c ∧ c ≤ 9223372036854775807 ∧ (A = none → c = 0)) ∨
    (0 < l.length ∧ ∃ b off c, v = .slice (some ⟨b, off, none⟩) l.length c ∧ l.length ≤ c ∧ c ≤ 9223372036854775807 ∧ S b ∧ ∀ j (h : j < l.length), w.cell? ⟨b, off + j, none⟩ = some (bv l[j])) := by
  obtain ⟨A, c, rfl, hc, hm, hn, hr⟩ := h
  rcases Nat.eq_zero_or_pos l.length with h0 | h0
  · obtain rfl := List.eq_nil_of_length_eq_zero h0
    exact .inl ⟨rfl, A, c, rfl, hm, hn⟩
  · obtain ⟨b, off, rfl, hS, hcell⟩ := hr h0
    exact .inr ⟨h0, b, off, c, rfl, hc, hm, hS, hcell⟩

theorem BS.pos {S : Nat → Prop} {w : World} {v : Value} {l : List UInt8} (h : BS S w v l) (n : Nat) (hn : l.length = n) (h0 : 0 < n) :
    ∃ b off c, v = .slice (some ⟨b, off, none⟩) n c ∧ n ≤ c ∧ ∀ j (h : j < l.length), w.cell? ⟨b, off + j, none⟩ = some (bv l[j]) := by
  obtain ⟨A, c, rfl, hc, _, _, hr⟩ := h
  subst hn
  obtain ⟨b, off, rfl, _, hcell⟩ := hr h0
  exact ⟨b, off, c, rfl, hc, hcell⟩
/-- A byte slice that the call made: its block is no older than base. -/
def Own (e : TypeId) (w : World) (base : Nat) (v : Value) (l : List UInt8) : Prop := w.ownsRow base e 1 v l.length (bvs l)
theorem Own.bs {e : TypeId} {w : World} {base : Nat} {v : Value} {l : List UInt8} (h : Own e w base v l) : BS (fun b => base ≤ b ∧ v.ownBlock = some b) w v l := by
  rcases h.2 with ⟨rfl, h0⟩ | ⟨g, cap, cur, rfl, hb, hg, h1, h2, h3, h4⟩
  · obtain rfl := List.eq_nil_of_length_eq_zero h0
    exact BS.nil _ _
  · refine ⟨_, cap, rfl, h1, by simpa [maxLen] using h2, (fun h => by cases h), fun h0 => ⟨g, 0, rfl, ⟨hb, rfl⟩, fun j hj => ?_⟩⟩
    have hc := World.ownsRow.cells h (g := g) rfl j (bv l[j]) (bvs_get l j hj)
    have ha : (⟨g, 0, none⟩ : Addr).add j = ⟨g, 0 + j, none⟩ := by unfold Addr.add; split <;> simp_all
    rwa [ha] at hc
theorem Own.kp {e : TypeId} {F : Nat → Prop} {w w' : World} {base : Nat} {v : Value} {l : List UInt8} (h : Own e w base v l) (k : Kp F w w') (hF : ∀ b, b < w.heap.size → v.ownBlock = some b → ¬ F b) : Own e w' base v l :=
  own_kp h k fun b hb => hF b (World.ownsRow.lt h b hb).2 hb
theorem Own.nob {e : TypeId} {w w' : World} {base : Nat} {v : Value} {l : List UInt8} (h : Own e w base v l) (k : Kp NoB w w') : Own e w' base v l := own_nob h k
theorem Own.low {e : TypeId} {w : World} {base base' : Nat} {v : Value} {l : List UInt8} (h : Own e w base v l) (hb : base' ≤ base) : Own e w base' v l := own_low h hb
theorem Own.nil (e : TypeId) (w : World) (base : Nat) : Own e w base (.slice none 0 0) [] := World.ownsRow_nil w base e 1
theorem Own.lt {e : TypeId} {w : World} {base : Nat} {v : Value} {l : List UInt8} (h : Own e w base v l) : ∀ k, v.ownBlock = some k → base ≤ k ∧ k < w.heap.size := World.ownsRow.lt h

theorem Own.form {e : TypeId} {w : World} {base n c : Nat} {A : Option Addr} {l : List UInt8} (h : Own e w base (.slice A n c) l) (h0 : 0 < l.length) : ∃ g, A = some ⟨g, 0, none⟩ ∧ base ≤ g ∧ g < w.heap.size := by
  rcases h.2 with ⟨he, h1⟩ | ⟨g, cap, cur, he, hb, hg, _⟩
  · omega
  · injection he with e1
    exact ⟨g, e1, hb, (Array.getElem?_eq_some_iff.1 hg).1⟩
/-- The type of byte slices in a program. -/
structure ByteT (P : Program) (t e : TypeId) : Prop where
  sl : P.underlying t = some (.slice e)
  info : (P.info? e).map (fun i => (i.zero, i.size, i.bytes)) = some (some (.int .u8 0), 1, 1)
  el : P.underlying e = some (.int .u8)

section
variable {P : Program} {ops : Array Oper} {rest : List Oper} {o : Oper} {a : Act} {Q : Exit → Act → World → Prop}
/-- The operation whose place is N. -/
theorem gate_dst {W : World} {N : Tmp} (_hN : o.dst = some N) (h : wpList P ops Q (o :: rest) a W) : wpList P ops Q (o :: rest) a W := h
theorem gate_op {W : World} (op : Op) (_ho : o.op = op) (h : wpList P ops Q (o :: rest) a W) : wpList P ops Q (o :: rest) a W := h
/-- A guarded operation that is wanted. -/
theorem gate_guard {W : World} (hw : Region.wanted o (yielded ops a.tmps) = true) (h : wpList P ops Q ({ o with guard := none } :: rest) a W) : wpList P ops Q (o :: rest) a W := by
  have h1 : Region.wanted { o with guard := none } (yielded ops a.tmps) = true := rfl
  unfold wpList at h ⊢
  rw [if_pos h1] at h
  rw [if_pos hw]
  exact h
/-- An operation whose run is known. -/
theorem wp_exec {W : World} (hgd : o.guard = none) (v : Value) (w' : World) (hr : (execOp a.eval o).run P W = .ok (.value v) w') (h : wpList P ops Q rest (a.put o.dst v) w') : wpList P ops Q (o :: rest) a W :=
  wpList_plain hgd fun K hK => by
    unfold Oper.wp
    rw [hr]
    exact hK _ _ h
end

section
variable {P : Program} {t e : TypeId} (B : ByteT P t e)
include B
/-- append(v, x...) onto an owned row. -/
theorem run_app {W : World} (ty : TypeId) {base : Nat} {v x : Value} {l m : List UInt8} (ho : Own e W base v l) {S : Nat → Prop} (hx : BS S W x m) (hl : l.length + m.length ≤ 140737488355328) (hbase : base ≤ W.heap.size) :
    ∃ v' w', (Builtin.append_ #[t, t] ty #[v, x]).run P W = .ok v' w' ∧ Own e w' base v' (l ++ m) ∧ W.grownBy w' v.ownBlock ∧ (v'.ownBlock = v.ownBlock ∨ v'.ownBlock = some W.heap.size) := by
  obtain ⟨i0, hi, hzz⟩ := Option.map_eq_some_iff.1 B.info
  simp only [Prod.mk.injEq] at hzz
  obtain ⟨hz0, hz1, hz2⟩ := hzz
  obtain ⟨A, c, rfl, hc, hm, hn, hr⟩ := hx
  rcases A with _ | ad
  · have h0 : m.length = 0 := by have := hn rfl; omega
    obtain rfl := List.eq_nil_of_length_eq_zero h0
    refine ⟨v, W, ?_, by simpa using ho, World.grownBy.refl W _, .inl rfl⟩
    have hc0 := hn rfl
    subst hc0
    rcases ho.2 with ⟨rfl, h0⟩ | ⟨g, cap, cur, rfl, _, _, hnc, _⟩
    · simp [Builtin.append_, run_underlying B.sl, sizeOf, typeInfo, hi, Builtin.lenOf, Builtin.firstCells]
    · simp [Builtin.append_, run_underlying B.sl, sizeOf, typeInfo, hi, Builtin.lenOf, Builtin.firstCells, hnc, storeCells]
  · have hcells : ∀ j u, (bvs m)[j]? = some u → W.cell? (ad.add j) = some u := by
      intro j u hu
      have hj : j < m.length := by
        have := (List.getElem?_eq_some_iff.1 hu).1
        simpa [bvs] using this
      obtain ⟨b, off, he, _, hcell⟩ := hr (by omega)
      obtain rfl := Option.some.inj he
      rw [bvs_get m j hj] at hu
      obtain rfl := Option.some.inj hu
      rw [Addr.add_lit]
      exact hcell j hj
    obtain ⟨v', w', h1, h2, h3, _, h5⟩ := run_append_own_at (P := P) W base t ty e i0 (.int .u8 0) 1 1 B.sl hi hz0 hz1 hz2 rfl (by decide) v l.length (bvs l) ho ad m.length c (bvs m) (by simp [bvs]) hcells (bvs_one m)
      (by simp only [maxLen]; omega) (by omega) hbase
    refine ⟨v', w', h1, ?_, h3, h5⟩
    unfold Own
    rw [List.length_append, bvs_append]
    exact h2
variable {ops : Array Oper} {rest : List Oper} {o : Oper} {a : Act} {Q : Exit → Act → World → Prop}
theorem wp_app {W : World} (hgd : o.guard = none) (s y : Operand) (ho : o.op = .call { callee := .builtin .append, args := #[s, y], argTypes := #[t, t] }) (base : Nat) (v x : Value) (l m : List UInt8) (hs : a.eval s = v) (hy : a.eval y = x)
    (S : Nat → Prop) (hown : Own e W base v l) (hx : BS S W x m) (hl : l.length + m.length ≤ 140737488355328) (hbase : base ≤ W.heap.size)
    (h : ∀ v' w', Own e w' base v' (l ++ m) → W.grownBy w' v.ownBlock → (v'.ownBlock = v.ownBlock ∨ v'.ownBlock = some W.heap.size) → wpList P ops Q rest (a.put o.dst v') w') : wpList P ops Q (o :: rest) a W := by
  obtain ⟨v', w', h1, h2, h3, h4⟩ := run_app B o.type hown hx hl hbase
  exact Lib.wpList_append_run W hgd s y t t ho v x hs hy v' w' h1 (h v' w' h2 h3 h4)
/-- The same onto what the call made since w0. -/
theorem wp_appK {w0 W : World} (F : Nat → Prop) (hgd : o.guard = none) (s y : Operand) (ho : o.op = .call { callee := .builtin .append, args := #[s, y], argTypes := #[t, t] }) (v x : Value) (l m : List UInt8) (hs : a.eval s = v) (hy : a.eval y = x)
    (S : Nat → Prop) (hown : Own e W w0.heap.size v l) (hk : Kp F w0 W) (hx : BS S W x m) (hl : l.length + m.length ≤ 140737488355328)
    (h : ∀ v' w', Own e w' w0.heap.size v' (l ++ m) → Kp F w0 w' → wpList P ops Q rest (a.put o.dst v') w') : wpList P ops Q (o :: rest) a W :=
  wp_app B hgd s y ho w0.heap.size v x l m hs hy S hown hx hl hk.size fun v' w' h1 h2 h3 =>
    h v' w' h1 (hk.grown h2 fun k hk' => .inl (Own.lt hown k hk').1)
end

/-- A constant string as bytes, behind its conversion. -/
theorem BS.lit (e : TypeId) (w : World) (cs : Array Value) (fr : Nat × Nat) (l : List UInt8) (n : Nat) (h : cs = (bvs l).toArray) (hn : n = l.length) (hl : l.length ≤ 1000000) :
    BS (fun b => w.heap.size ≤ b) (w.alloc (.cells cs e fr)) (.slice (some ⟨w.heap.size, 0, none⟩) n n) l := by
  subst h hn
  refine ⟨_, l.length, rfl, Nat.le_refl _, by omega, (fun h => by cases h), fun h0 => ⟨_, 0, rfl, Nat.le_refl _, fun j hj => ?_⟩⟩
  have hh : (w.alloc (.cells (bvs l).toArray e fr)).heap[w.heap.size]? = some (.cells (bvs l).toArray e fr) := heap_alloc_new w _
  simp only [World.cell?, hh]
  simpa using bvs_get l j hj
/-- make([]byte, n). -/
theorem make_bytes {P : Program} {t e : TypeId} (B : ByteT P t e) (m : Nat) (hm : m ≤ 281474976710656) (W : World) :
    (Instr.makeSlice t (.int .i64 (m : Int)) (.int .i64 (m : Int))).run P W = .ok (.slice (some ⟨W.heap.size, 0, none⟩) m m) (W.alloc (.cells (madeCells #[.int .u8 0] m) e)) :=
  run_make_row' t e (.int .u8 0) 1 B.sl B.info rfl .i64 .i64 m (by omega) (by omega) W
theorem Own.made (e : TypeId) (W : World) (m : Nat) (hm : m ≤ 281474976710656) :
    Own e (W.alloc (.cells (madeCells #[.int .u8 0] m) e)) W.heap.size (.slice (some ⟨W.heap.size, 0, none⟩) m m) (List.replicate m 0) := by
  have h := World.ownsRow_lit (base := W.heap.size) (e := e) (size := 1) W (madeCells #[.int .u8 0] m) m (Nat.le_refl _) (by simp only [maxLen]; omega) (by simp [size_madeCells])
  have hl : (madeCells #[Value.int .u8 0] m).toList = bvs (List.replicate m 0) := by
    rw [toList_madeCells_one]
    simp [bvs, bv]
  rw [hl] at h
  simpa [Own] using h
/-- A store into an owned byte slice. -/
theorem Own.cell {e : TypeId} {W : World} {base g n cap : Nat} {l : List UInt8} (h : Own e W base (.slice (some ⟨g, 0, none⟩) n cap) l) (i : Nat) (hi : i < l.length) :
    W.cell? ⟨g, i, none⟩ = some (bv l[i]) ∧ W.frozen? ⟨g, i, none⟩ = false := by
  have hn : n = l.length := by
    rcases h.2 with ⟨he, _⟩ | ⟨g', cap', cur, he, _⟩
    · cases he
    · injection he
  subst hn
  exact ⟨by rw [World.ownsRow.cellAt h i (by omega), bvs_get l i hi], World.ownsRow.frozenAt h i⟩
theorem Own.put {e : TypeId} {W : World} {base g n cap : Nat} {l : List UInt8} (h : Own e W base (.slice (some ⟨g, 0, none⟩) n cap) l) (i : Nat) (b : UInt8) :
    Own e (W.setCell ⟨g, i, none⟩ (bv b)) base (.slice (some ⟨g, 0, none⟩) n cap) (l.set i b) := by
  have hn : n = l.length := by
    rcases h.2 with ⟨he, _⟩ | ⟨g', cap', cur, he, _⟩
    · cases he
    · injection he
  subst hn
  have hs := (World.ownsRow.stored h i (bv b)).1
  unfold Own
  rw [List.length_set, show bvs (l.set i b) = (bvs l).set i (bv b) by simp [bvs, List.map_set]]
  exact hs
/-- A fresh literal. -/
theorem Own.lit (e : TypeId) (w : World) (cs : Array Value) (l : List UInt8) (n : Nat) (h : cs = (bvs l).toArray) (hn : n = l.length) (hl : l.length ≤ 1000000) :
    Own e (w.alloc (.cells cs e)) w.heap.size (.slice (some ⟨w.heap.size, 0, none⟩) n n) l := by
  subst h hn
  have h := World.ownsRow_lit (base := w.heap.size) (e := e) (size := 1) w (bvs l).toArray l.length (Nat.le_refl _) (by simp only [maxLen]; omega) (by simp [bvs])
  simpa [Own] using h

section
variable {P : Program} {t e : TypeId} (B : ByteT P t e)
include B
/-- x[lo:hi], x[:hi], x[lo:]. -/
theorem run_cut {S : Nat → Prop} {W : World} {v : Value} {l : List UInt8} (hv : BS S W v l) (lo hi : Nat) (h1 : lo ≤ hi) (h2 : hi ≤ l.length) (olo ohi : Option Value)
    (elo : (olo = none ∧ lo = 0) ∨ ∃ k, olo = some (.int k (lo : Int))) (ehi : (ohi = none ∧ hi = l.length) ∨ ∃ k, ohi = some (.int k (hi : Int))) :
    ∃ v', (∀ W', (Instr.sliceAt t v olo ohi none).run P W' = .ok v' W') ∧ (∀ W', (Instr.slice t v olo ohi none).run P W' = .ok v' W') ∧ BS S W v' ((l.take hi).drop lo) := by
  obtain ⟨i0, hi0, hzz⟩ := Option.map_eq_some_iff.1 B.info
  simp only [Prod.mk.injEq] at hzz
  obtain ⟨hz0, hz1, hz2⟩ := hzz
  obtain ⟨A, c, rfl, hc, hm, hn, hr⟩ := hv
  refine ⟨.slice (if c = lo then A else A.map (·.add (lo * 1))) (hi - lo) (c - lo), ?_, ?_, ?_⟩
  · intro W'
    have hb1 : ((lo : Int)).toNat = lo := by omega
    have hb2 : ((hi : Int)).toNat = hi := by omega
    have hic : hi ≤ c := by omega
    rcases elo with ⟨rfl, rfl⟩ | ⟨k, rfl⟩ <;> rcases ehi with ⟨rfl, rfl⟩ | ⟨k', rfl⟩ <;>
      simp [Instr.sliceAt, Instr.slice, Instr.sliceBounds, Instr.sliceBound, run_underlying B.sl, sizeOf, typeInfo, hi0, hz1, asIntOf, h1, hc, hic, h2] <;> omega
  · intro W'
    have hb1 : ((lo : Int)).toNat = lo := by omega
    have hb2 : ((hi : Int)).toNat = hi := by omega
    have hic : hi ≤ c := by omega
    rcases elo with ⟨rfl, rfl⟩ | ⟨k, rfl⟩ <;> rcases ehi with ⟨rfl, rfl⟩ | ⟨k', rfl⟩ <;>
      simp [Instr.sliceAt, Instr.slice, Instr.sliceBounds, Instr.sliceBound, run_underlying B.sl, sizeOf, typeInfo, hi0, hz1, asIntOf, h1, hc, hic, h2] <;> omega
  · have hlen : ((l.take hi).drop lo).length = hi - lo := by simp; omega
    refine ⟨_, c - lo, by rw [hlen], by omega, by omega, ?_, ?_⟩
    · intro h
      split at h
      · rename_i he; omega
      · have hA : A = none := by cases A <;> simp_all
        have := hn hA
        omega
    · intro h0
      obtain ⟨b, off, rfl, hS, hcell⟩ := hr (by omega)
      refine ⟨b, off + lo, ?_, hS, ?_⟩
      · split
        · rename_i he; omega
        · simp [Addr.add_lit]
      · intro j hj
        have hj' : lo + j < l.length := by omega
        have := hcell (lo + j) hj'
        rw [Nat.add_assoc, this]
        simp
/-- x[:min(len(x), N)]: what a region that draws its order takes as rules. -/
theorem BS.clip {S : Nat → Prop} {W : World} {v : Value} {l : List UInt8} (hv : BS S W v l) (N : Nat) (Ni : Int) (hN : Ni = (N : Int)) :
    ∃ (k : Nat) (v' : Value), (∀ (W' : World) ts ty, (Builtin.min_ ts ty #[.int .i64 (l.length : Int), .int .i64 Ni]).run P W' = .ok (.int .i64 (k : Int)) W') ∧
      (∀ W', (Instr.slice t v none (some (.int .i64 (k : Int))) none).run P W' = .ok v' W') ∧ BS S W v' (l.take N) := by
  subst hN
  obtain ⟨v', _, hr, hb⟩ := run_cut B hv 0 (min N l.length) (Nat.zero_le _) (Nat.min_le_right _ _) none (some (.int .i64 ((min N l.length : Nat) : Int))) (.inl ⟨rfl, rfl⟩) (.inr ⟨.i64, rfl⟩)
  refine ⟨min N l.length, v', fun W' ts ty => ?_, hr, ?_⟩
  · rw [run_min_int2]
    congr 2
    split <;> omega
  · have e : (l.take (min N l.length)).drop 0 = l.take N := by
      rw [List.drop_zero]
      rcases Nat.le_total N l.length with h | h
      · rw [Nat.min_eq_left h]
      · rw [Nat.min_eq_right h, List.take_length, List.take_of_length_le h]
    rwa [e] at hb
theorem run_string {S : Nat → Prop} {W : World} {v : Value} {l : List UInt8} (hv : BS S W v l) (dst : TypeId) (hd : P.underlying dst = some .string) :
    (convert t dst v).run P W = .ok (.string ⟨l.toArray⟩) W := by
  rcases hv.shape with ⟨rfl, A, c, rfl, _, hn⟩ | ⟨h0, b, off, c, rfl, hc, hm, _, hcell⟩
  · rcases A with _ | ad
    · exact run_convert_bytes_nil W t e B.sl B.el 0 c dst hd
    · rw [run_convert_bytes_string W t dst e _ 0 c B.sl B.el hd]
      simp [Conv.bytesToString]
      rfl
  · have h := run_convert_bytes_arg W t e B.sl B.el b off l.length c (l.map fun x => (x.toNat : Int)) (by simp) (fun i hi => by
      rw [hcell i hi]
      simp [bv, hi]) dst hd
    rw [h]
    simp [strOfNums, Function.comp_def]
variable {ops : Array Oper} {rest : List Oper} {o : Oper} {a : Act} {Q : Exit → Act → World → Prop}
theorem wp_cut {W : World} (hgd : o.guard = none) (x : Operand) (xlo xhi : Option Operand) (ho : o.op = .slice t x xlo xhi none) (S : Nat → Prop) (v : Value) (l : List UInt8) (hx : a.eval x = v) (hv : BS S W v l) (lo hi : Nat) (h1 : lo ≤ hi) (h2 : hi ≤ l.length)
    (elo : (xlo.map a.eval = none ∧ lo = 0) ∨ ∃ k, xlo.map a.eval = some (.int k (lo : Int))) (ehi : (xhi.map a.eval = none ∧ hi = l.length) ∨ ∃ k, xhi.map a.eval = some (.int k (hi : Int)))
    (h : ∀ v', BS S W v' ((l.take hi).drop lo) → wpList P ops Q rest (a.put o.dst v') W) : wpList P ops Q (o :: rest) a W := by
  obtain ⟨v', hr, _, hb⟩ := run_cut B hv lo hi h1 h2 (xlo.map a.eval) (xhi.map a.eval) elo ehi
  refine wp_exec hgd v' W ?_ (h v' hb)
  simp [execOp, ho, hx, hr, Result.andThen]
/-- x[:hi]. -/
theorem wp_cut0 {W : World} (hgd : o.guard = none) (x : Operand) (xhi : Operand) (ho : o.op = .slice t x none (some xhi) none) (S : Nat → Prop) (v : Value) (l : List UInt8) (hx : a.eval x = v) (hv : BS S W v l) (hi : Nat) (h2 : hi ≤ l.length)
    (k : IntKind) (ehi : a.eval xhi = .int k (hi : Int))
    (h : ∀ v', BS S W v' (l.take hi) → wpList P ops Q rest (a.put o.dst v') W) : wpList P ops Q (o :: rest) a W :=
  wp_cut B hgd x none (some xhi) ho S v l hx hv 0 hi (Nat.zero_le _) h2 (.inl ⟨rfl, rfl⟩) (.inr ⟨k, by rw [Option.map_some, ehi]⟩) fun v' h' => h v' (by simpa using h')
/-- x[lo:]. -/
theorem wp_cutE {W : World} (hgd : o.guard = none) (x : Operand) (xlo : Operand) (ho : o.op = .slice t x (some xlo) none none) (S : Nat → Prop) (v : Value) (l : List UInt8) (hx : a.eval x = v) (hv : BS S W v l) (lo : Nat) (h2 : lo ≤ l.length)
    (k : IntKind) (elo : a.eval xlo = .int k (lo : Int))
    (h : ∀ v', BS S W v' (l.drop lo) → wpList P ops Q rest (a.put o.dst v') W) : wpList P ops Q (o :: rest) a W :=
  wp_cut B hgd x (some xlo) none ho S v l hx hv lo l.length h2 (Nat.le_refl _) (.inr ⟨k, by rw [Option.map_some, elo]⟩) (.inl ⟨rfl, rfl⟩) fun v' h' => h v' (by simpa using h')
theorem wp_string {W : World} (hgd : o.guard = none) (x : Operand) (dst : TypeId) (hd : P.underlying dst = some .string) (ho : o.op = .convert t dst x) (S : Nat → Prop) (v : Value) (l : List UInt8) (hx : a.eval x = v) (hv : BS S W v l)
    (h : wpList P ops Q rest (a.put o.dst (.string ⟨l.toArray⟩)) W) : wpList P ops Q (o :: rest) a W := by
  refine wp_exec hgd _ W ?_ h
  simp [execOp, ho, hx, run_string B hv dst hd, Result.andThen]
end

end Go.Proofs.YtgjaggnpheoehaaDoor
