/- Slices of values of one cell: read, owned, pushed onto; rows of byte slices. -/
import Derived.Test.YtgjaggnpheoehaaDoorBase
set_option linter.unusedVariables false
set_option linter.unusedSimpArgs false
namespace Go.Proofs.YtgjaggnpheoehaaDoor
open Go.RowKit

theorem cell_new1 (w : World) (u : Value) (e : TypeId) (fr : Nat × Nat) : (w.alloc (.cells #[u] e fr)).cell? ⟨w.heap.size, 0, none⟩ = some u := by
  have h : (w.alloc (.cells #[u] e fr)).heap[w.heap.size]? = some (.cells #[u] e fr) := heap_alloc_new w _
  simp only [World.cell?, h]
  rfl
/-- v is a slice of the values us, each of one cell, in a block that S names. -/
def Vals (S : Nat → Prop) (w : World) (v : Value) (us : List Value) : Prop :=
  ∃ A c, v = .slice A us.length c ∧ us.length ≤ c ∧ c ≤ 9223372036854775807 ∧ (A = none → c = 0) ∧
    (0 < us.length → ∃ b off, A = some ⟨b, off, none⟩ ∧ S b ∧ ∀ j (h : j < us.length), w.cell? ⟨b, off + j, none⟩ = some us[j])
theorem Vals.kp {S F : Nat → Prop} {w w' : World} {v : Value} {us : List Value} (h : Vals S w v us) (k : Kp F w w') (hF : ∀ b, b < w.heap.size → S b → ¬ F b) : Vals S w' v us := by
  obtain ⟨A, c, rfl, hc, hm, hn, hr⟩ := h
  refine ⟨A, c, rfl, hc, hm, hn, fun h0 => ?_⟩
  obtain ⟨b, off, rfl, hS, hcell⟩ := hr h0
  exact ⟨b, off, rfl, hS, fun j hj => k.cell (hcell j hj) (hF b (World.block_lt_of_cell? w _ (hcell 0 h0)) hS)⟩
theorem Vals.nob {S : Nat → Prop} {w w' : World} {v : Value} {us : List Value} (h : Vals S w v us) (k : Kp NoB w w') : Vals S w' v us := h.kp k fun _ _ _ => id
theorem Vals.mono {S T : Nat → Prop} {w : World} {v : Value} {us : List Value} (h : Vals S w v us) (hT : ∀ b, b < w.heap.size → S b → T b) : Vals T w v us := by
  obtain ⟨A, c, rfl, hc, hm, hn, hr⟩ := h
  refine ⟨A, c, rfl, hc, hm, hn, fun h0 => ?_⟩
  obtain ⟨b, off, rfl, hS, hcell⟩ := hr h0
  exact ⟨b, off, rfl, hT b (World.block_lt_of_cell? w _ (hcell 0 h0)) hS, hcell⟩
theorem Vals.len {S : Nat → Prop} {w : World} {v : Value} {us : List Value} (h : Vals S w v us) : ∃ A c, v = .slice A us.length c := by
  obtain ⟨A, c, h, _⟩ := h
  exact ⟨A, c, h⟩
theorem Vals.nil (S : Nat → Prop) (w : World) : Vals S w (.slice none 0 0) [] := ⟨none, 0, rfl, Nat.le_refl _, by decide, fun _ => rfl, fun h => absurd h (by simp)⟩
theorem Vals.pos {S : Nat → Prop} {w : World} {v : Value} {us : List Value} (h : Vals S w v us) (n : Nat) (hn : us.length = n) (h0 : 0 < n) :
    ∃ b off c, v = .slice (some ⟨b, off, none⟩) n c ∧ n ≤ c ∧ ∀ j (h : j < us.length), w.cell? ⟨b, off + j, none⟩ = some us[j] := by
  obtain ⟨A, c, rfl, hc, _, _, hr⟩ := h
  subst hn
  obtain ⟨b, off, rfl, _, hcell⟩ := hr h0
  exact ⟨b, off, c, rfl, hc, hcell⟩
/-- An element, where its slice's address is a variable. -/
theorem Vals.at_ {S : Nat → Prop} {w : World} {A : Option Addr} {n c : Nat} {us : List Value} (h : Vals S w (.slice A n c) us) (j : Nat) (hj : j < us.length) :
    ∃ b off, A = some ⟨b, off, none⟩ ∧ w.cell? ⟨b, off + j, none⟩ = some us[j] := by
  obtain ⟨A', c', he, hc, _, _, hr⟩ := h
  injection he with e1 e2 e3
  subst e1
  obtain ⟨b, off, hA, _, hcell⟩ := hr (by omega)
  exact ⟨b, off, hA, hcell j hj⟩

/-- A slice of values that the call made. -/
def Own1 (e : TypeId) (w : World) (base : Nat) (v : Value) (us : List Value) : Prop := w.ownsRow base e 1 v us.length us
theorem Own1.vals {e : TypeId} {w : World} {base : Nat} {v : Value} {us : List Value} (h : Own1 e w base v us) : Vals (fun b => base ≤ b ∧ v.ownBlock = some b) w v us := by
  rcases h.2 with ⟨rfl, h0⟩ | ⟨g, cap, cur, rfl, hb, hg, h1, h2, h3, h4⟩
  · obtain rfl := List.eq_nil_of_length_eq_zero h0
    exact Vals.nil _ _
  · refine ⟨_, cap, rfl, h1, by simpa [maxLen] using h2, (fun h => by cases h), fun h0 => ⟨g, 0, rfl, ⟨hb, rfl⟩, fun j hj => ?_⟩⟩
    have hc := World.ownsRow.cells h (g := g) rfl j us[j] (List.getElem?_eq_getElem hj)
    have ha : (⟨g, 0, none⟩ : Addr).add j = ⟨g, 0 + j, none⟩ := by unfold Addr.add; split <;> simp_all
    rwa [ha] at hc
theorem Own1.kp {e : TypeId} {F : Nat → Prop} {w w' : World} {base : Nat} {v : Value} {us : List Value} (h : Own1 e w base v us) (k : Kp F w w') (hF : ∀ b, b < w.heap.size → v.ownBlock = some b → ¬ F b) : Own1 e w' base v us :=
  own_kp h k fun b hb => hF b (World.ownsRow.lt h b hb).2 hb
theorem Own1.nob {e : TypeId} {w w' : World} {base : Nat} {v : Value} {us : List Value} (h : Own1 e w base v us) (k : Kp NoB w w') : Own1 e w' base v us := own_nob h k
theorem Own1.nil (e : TypeId) (w : World) (base : Nat) : Own1 e w base (.slice none 0 0) [] := World.ownsRow_nil w base e 1
theorem Own1.lt {e : TypeId} {w : World} {base : Nat} {v : Value} {us : List Value} (h : Own1 e w base v us) : ∀ k, v.ownBlock = some k → base ≤ k ∧ k < w.heap.size := World.ownsRow.lt h
theorem rows_ne {w : World} {b b' : Nat} {e e' : TypeId} {s s' n n' : Nat} {v v' : Value} {xs xs' : List Value} (h : w.ownsRow b e s v n xs) (h' : w.ownsRow b' e' s' v' n' xs') (hne : e ≠ e') : ∀ k, v.ownBlock = some k → ¬ v'.ownBlock = some k := by
  intro k hk hk'
  rcases h.2 with ⟨rfl, _⟩ | ⟨g, cap, cur, rfl, _, hh, _⟩
  · simp [Value.ownBlock] at hk
  · rcases h'.2 with ⟨rfl, _⟩ | ⟨g', cap', cur', rfl, _, hh', _⟩
    · simp [Value.ownBlock] at hk'
    · have e1 : g = k := by simpa [Value.ownBlock] using hk
      have e2 : g' = k := by simpa [Value.ownBlock] using hk'
      subst e1
      subst e2
      rw [hh] at hh'
      injection hh' with hh'
      injection hh' with _ ht
      exact hne ht

/-- A type of slices whose elements have one cell. -/
structure OneT (P : Program) (t e : TypeId) (z : Value) (bytes : Nat) : Prop where
  sl : P.underlying t = some (.slice e)
  info : (P.info? e).map (fun i => (i.zero, i.size, i.bytes)) = some (some z, 1, bytes)
  zc : z.cells.size = 1
  by0 : 0 < bytes
section
variable {P : Program} {t e : TypeId} {z : Value} {bytes : Nat} (B : OneT P t e z bytes)
include B
theorem run_push {W : World} (ty : TypeId) {base : Nat} {v u : Value} {us : List Value} (ho : Own1 e W base v us) (g off c : Nat) (hc : W.cell? ⟨g, off, none⟩ = some u) (h1 : u.oneCell' = true) (hl : (us.length + 1) * bytes ≤ 140737488355328) (hbase : base ≤ W.heap.size) :
    ∃ v' w', (Builtin.append_ #[t, t] ty #[v, .slice (some ⟨g, off, none⟩) 1 c]).run P W = .ok v' w' ∧ Own1 e w' base v' (us ++ [u]) ∧ W.grownBy w' v.ownBlock ∧ (v'.ownBlock = v.ownBlock ∨ v'.ownBlock = some W.heap.size) := by
  obtain ⟨i0, hi, hzz⟩ := Option.map_eq_some_iff.1 B.info
  simp only [Prod.mk.injEq] at hzz
  obtain ⟨hz0, hz1, hz2⟩ := hzz
  have hb := B.by0
  have hlen : us.length + 1 ≤ 140737488355328 := Nat.le_trans (Nat.le_mul_of_pos_right _ hb) hl
  obtain ⟨v', w', h1, h2, h3, _, h5⟩ := run_append_own_at (P := P) W base t ty e i0 z 1 bytes B.sl hi hz0 hz1 hz2 B.zc (by decide) v us.length us ho ⟨g, off, none⟩ 1 c [u] (by simp) (by
    intro j x hj
    match j, hj with
    | 0, hj =>
      obtain rfl : u = x := by simpa using hj
      have : (⟨g, off, none⟩ : Addr).add 0 = ⟨g, off, none⟩ := by simp [Addr.add]
      rw [this]; exact hc
    | j + 1, hj => simp at hj) (by simpa using h1) (by simp only [maxLen]; omega) hl hbase
  refine ⟨v', w', h1, ?_, h3, h5⟩
  unfold Own1
  rw [List.length_append]
  exact h2
variable {ops : Array Oper} {rest : List Oper} {o : Oper} {a : Act} {Q : Exit → Act → World → Prop}
/-- append(v, u) onto what the call made since w0. -/
theorem wp_pushK {w0 W : World} (F : Nat → Prop) (hgd : o.guard = none) (s y : Operand) (ho : o.op = .call { callee := .builtin .append, args := #[s, y], argTypes := #[t, t] }) (v u : Value) (us : List Value) (g off c : Nat) (hs : a.eval s = v) (hy : a.eval y = .slice (some ⟨g, off, none⟩) 1 c)
    (hown : Own1 e W w0.heap.size v us) (hk : Kp F w0 W) (hc : W.cell? ⟨g, off, none⟩ = some u) (h1 : u.oneCell' = true) (hl : (us.length + 1) * bytes ≤ 140737488355328)
    (h : ∀ v' w', Own1 e w' w0.heap.size v' (us ++ [u]) → Kp F w0 w' → Kp (fun k => v.ownBlock = some k) W w' → wpList P ops Q rest (a.put o.dst v') w') : wpList P ops Q (o :: rest) a W := by
  obtain ⟨v', w', h1, h2, h3, h4⟩ := run_push B o.type hown g off c hc h1 hl hk.size
  exact Lib.wpList_append_run W hgd s y t t ho v _ hs hy v' w' h1 (h v' w' h2 (hk.grown h3 fun k hk' => .inl (Own1.lt hown k hk').1) (Kp.of_grown h3))
end
section
variable {P : Program} {t e : TypeId} (B : ByteT P t e)
include B
variable {ops : Array Oper} {rest : List Oper} {o : Oper} {a : Act} {Q : Exit → Act → World → Prop}
/-- append(v, x...) of bytes, what else has changed told. -/
theorem wp_appB {w0 W : World} (F : Nat → Prop) (hgd : o.guard = none) (s y : Operand) (ho : o.op = .call { callee := .builtin .append, args := #[s, y], argTypes := #[t, t] }) (v x : Value) (l m : List UInt8) (hs : a.eval s = v) (hy : a.eval y = x)
    (S : Nat → Prop) (hown : Own e W w0.heap.size v l) (hk : Kp F w0 W) (hx : BS S W x m) (hl : l.length + m.length ≤ 140737488355328)
    (h : ∀ v' w', Own e w' w0.heap.size v' (l ++ m) → Kp F w0 w' → Kp (fun k => v.ownBlock = some k) W w' → wpList P ops Q rest (a.put o.dst v') w') : wpList P ops Q (o :: rest) a W :=
  wp_app B hgd s y ho w0.heap.size v x l m hs hy S hown hx hl hk.size fun v' w' h1 h2 h3 =>
    h v' w' h1 (hk.grown h2 fun k hk' => .inl (Own.lt hown k hk').1) (Kp.of_grown h2)
end

/-- The values are byte slices that read ls. -/
def RS (S : Nat → Prop) (w : World) (us : List Value) (ls : List (List UInt8)) : Prop := us.length = ls.length ∧ ∀ j (h : j < us.length) (h' : j < ls.length), BS S w us[j] ls[j]
theorem RS.kp {S F : Nat → Prop} {w w' : World} {us : List Value} {ls : List (List UInt8)} (h : RS S w us ls) (k : Kp F w w') (hF : ∀ b, b < w.heap.size → S b → ¬ F b) : RS S w' us ls := ⟨h.1, fun j h1 h2 => (h.2 j h1 h2).kp k hF⟩
theorem RS.nob {S : Nat → Prop} {w w' : World} {us : List Value} {ls : List (List UInt8)} (h : RS S w us ls) (k : Kp NoB w w') : RS S w' us ls := h.kp k fun _ _ _ => id
theorem RS.mono {S T : Nat → Prop} {w : World} {us : List Value} {ls : List (List UInt8)} (h : RS S w us ls) (hT : ∀ b, b < w.heap.size → S b → T b) : RS T w us ls := ⟨h.1, fun j h1 h2 => (h.2 j h1 h2).mono hT⟩
theorem RS.nil (S : Nat → Prop) (w : World) : RS S w [] [] := ⟨rfl, fun j h => absurd h (by simp)⟩
theorem RS.snoc {S : Nat → Prop} {w : World} {us : List Value} {ls : List (List UInt8)} {u : Value} {l : List UInt8} (h : RS S w us ls) (hb : BS S w u l) : RS S w (us ++ [u]) (ls ++ [l]) := by
  refine ⟨by simp [h.1], fun j h1 h2 => ?_⟩
  have hl := h.1
  by_cases hj : j < us.length
  · rw [List.getElem_append_left hj, List.getElem_append_left (by omega)]
    exact h.2 j hj (by omega)
  · have e1 : j = us.length := by simp at h1; omega
    subst e1
    simp only [List.getElem_concat_length]
    have : (ls ++ [l])[us.length]'h2 = l := by
      rw [List.getElem_append_right (by omega)]
      simp
    rw [this]
    exact hb
end Go.Proofs.YtgjaggnpheoehaaDoor
