/- A map[int]int that the call made, holding 1 at the touched places. -/
import Derived.Test.YtgjaggnpheoehaaDEnds
import Derived.Maps.OwnOps
import Derived.Maps.OwnSet
import Derived.Maps.Views
set_option linter.unusedVariables false
set_option linter.unusedSimpArgs false
namespace Go.Proofs.Ytgjaggnpheoehaa
open Go.RowKit

theorem intKey : Maps.Keyed Try.prog 3 := Maps.int_keyed Try.underlying3
def MapI (w : World) (b : Nat) (T : Int → Bool) (N : Nat) : Prop :=
  ∃ D : DataW Unit, w.ownsMap Try.prog 3 (plainElem Try.prog 3) b N D ∧ ∀ k : Int, D.atKey (.int .i64 k) (.lit (.int .i64 0)) = .lit (.int .i64 (if T k then 1 else 0))
theorem MapI.made (w : World) : MapI (w.alloc (.map #[] 0)) w.heap.size (fun _ => false) 0 :=
  ⟨.map [], World.ownsMap_made w _ _ _, fun k => rfl⟩
theorem MapI.kp {w w' : World} {b N : Nat} {T : Int → Bool} {F : Nat → Prop} (h : MapI w b T N) (k : Kp F w w') (hF : ¬ F b) : MapI w' b T N := by
  obtain ⟨D, ⟨es, c, hb, r⟩, hd⟩ := h
  exact ⟨D, ⟨es, c, k.obj hb hF, r⟩, hd⟩
theorem MapI.lt {w : World} {b N : Nat} {T : Int → Bool} (h : MapI w b T N) : b < w.heap.size := by
  obtain ⟨D, h, _⟩ := h
  exact World.ownsMap.lt h

theorem key_int {x : Int} (hx : inI x) : keyOf Try.prog 3 (.int .i64 x) = some (.int .i64 x) := Maps.keyOf_int_mk Try.underlying3 (WalkArith.wf_i64 hx)
theorem zero_int (w : World) : (zeroValue 3).run Try.prog w = .ok (.int .i64 0) w := by kernel_rfl
section
variable {ops : Array Oper} {rest : List Oper} {o : Oper} {a : Act} {Q : Exit → Act → World → Prop}
/-- m[x] = 1. -/
theorem wp_mapput {W : World} (hgd : o.guard = none) (m x v : Operand) (hop : o.op = Op.mapUpdate 42 m x v) (b N : Nat) (T : Int → Bool) (hm : a.eval m = .map (some b)) (hmap : MapI W b T N) (hN : N ≤ 1000000) (k : Int) (hx : a.eval x = .int .i64 k) (hk : inI k) (hv : a.eval v = .int .i64 1)
    (h : ∀ w', MapI w' b (fun z => decide (z = k) || T z) (N + 1) → Kp (fun i => i = b) W w' → wpList Try.prog ops Q rest (a.put o.dst undef) w') : wpList Try.prog ops Q (o :: rest) a W := by
  obtain ⟨D, ho, hd⟩ := hmap
  refine wpList_mapUpdate_own W hgd m x v 42 hop 3 3 intKey Try.underlying42 (plainElem Try.prog 3) b N D hm ho (by simp only [maxLen]; omega) _ _ (.int .i64 k) hx hv (key_int hk) (.lit (.int .i64 1)) [] (plainElem_int Try.underlying3 (by decide)) ?_
  intro w' ho' hg
  refine h w' ⟨_, ho', fun z => ?_⟩ ((Kp.of_grown hg).mono fun i _ e => (Option.some.inj e).symm)
  by_cases hz : z = k
  · subst hz
    rw [Maps.atKey_put_same (World.ownsMap.isMap ho) (by exact trivial)]
    simp
  · rw [Maps.atKey_put_other (by intro e; injection e with _ e; exact hz e), hd z]
    simp [hz]
/-- m[x]. -/
theorem wp_maplook {W : World} (hgd : o.guard = none) (m x : Operand) (hop : o.op = Op.lookup 42 m x false) (b N : Nat) (T : Int → Bool) (hm : a.eval m = .map (some b)) (hmap : MapI W b T N) (k : Int) (hx : a.eval x = .int .i64 k) (hk : inI k)
    (h : wpList Try.prog ops Q rest (a.put o.dst (.int .i64 (if T k then 1 else 0))) W) : wpList Try.prog ops Q (o :: rest) a W := by
  obtain ⟨D, ho, hd⟩ := hmap
  refine wpList_lookup_own_int W hgd m x 42 hop 3 3 .i64 intKey Try.underlying42 Try.underlying3 (zero_int W) b N D hm ho _ (.int .i64 k) hx (key_int hk) ?_
  intro c hc _
  rw [hd k] at hc
  injection hc with hc
  injection hc with _ hc
  rw [← hc]
  exact h
end

/-! The plain law. -/
def covers (k : Int) (x : Nat × List UInt8) : Bool := decide ((x.1 : Int) ≤ k ∧ k < (x.1 : Int) + x.2.length)
theorem crash_ge : ∀ (ds : List (Nat × List UInt8)) (ks : List Int) (s : List UInt8), s.length ≤ (crashL s ds ks).length
  | [], ks, s => by cases ks <;> simp [crashL]
  | (a, b) :: ds, [], s => by simp [crashL]
  | (a, b) :: ds, k :: ks, s => by
    simp only [crashL]
    refine Nat.le_trans ?_ (crash_ge ds ks _)
    rw [length_overL]
    split <;> omega
theorem crash_get : ∀ (ds : List (Nat × List UInt8)) (ks : List Int) (s : List UInt8) (k : Nat), (ds.any (covers k) = false) → (crashL s ds ks).getD k 0 = s.getD k 0
  | [], ks, s, k, _ => by cases ks <;> simp [crashL]
  | (a, b) :: ds, [], s, k, _ => by simp [crashL]
  | (a, b) :: ds, z :: ks, s, k, h => by
    simp only [List.any_cons, Bool.or_eq_false_iff] at h
    simp only [crashL]
    rw [crash_get ds ks _ k h.2, over_get, if_neg]
    have := h.1
    simp [covers] at this
    simp
    omega
end Go.Proofs.Ytgjaggnpheoehaa
