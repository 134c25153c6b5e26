/- Two arrays of twenty bytes, compared. -/
import Derived.Test.YtdplpcmpjkcocaaDoorShaH
import Derived.ChangeKeysEq
import Derived.OrdersHeld
set_option linter.unusedVariables false
set_option linter.unusedSimpArgs false
namespace Go.Proofs.YtdplpcmpjkcocaaDoor
open Go.RowKit

theorem plain8 : Tryd.prog.plainKey 5 = true := by kernel_rfl
theorem cells8 : Tryd.prog.cellsOf 5 = 1 := by kernel_rfl
theorem items_run (l m : List UInt8) (hl : l.length = 20) (hm : m.length = 20) (W : World) : ∀ is : List Nat, (∀ j ∈ is, j < 20) →
    (Op.eqItems 9999 5 1 (bvs l).toArray (bvs m).toArray is).run Tryd.prog W = .ok (is.all fun j => l.getD j 0 == m.getD j 0) W
  | [], _ => by simp [Op.eqItems]
  | i :: is, h => by
    have ih := items_run l m hl hm W is fun j hj => h j (List.mem_cons_of_mem _ hj)
    have hi := h i (List.mem_cons_self ..)
    have p1 := run_part_plain (P := Tryd.prog) W plain8 (xs := (bvs l).toArray) (off := i) (v := bv (l.getD i 0)) (by
      simp [bvs, List.getD_eq_getElem?_getD, List.getElem?_eq_getElem (show i < l.length by omega)])
    have p2 := run_part_plain (P := Tryd.prog) W plain8 (xs := (bvs m).toArray) (off := i) (v := bv (m.getD i 0)) (by
      simp [bvs, List.getD_eq_getElem?_getD, List.getElem?_eq_getElem (show i < m.length by omega)])
    have p3 := run_equalIn_int (P := Tryd.prog) W 9998 5 .u8 .u8 ((l.getD i 0).toNat : Int) ((m.getD i 0).toNat : Int) Tryd.underlying5
    change (Op.equalIn 9999 5 (bv (l.getD i 0)) (bv (m.getD i 0))).run Tryd.prog W = _ at p3
    have hb : (((l.getD i 0).toNat : Int) == ((m.getD i 0).toNat : Int)) = (l.getD i 0 == m.getD i 0) := by
      rw [Bool.eq_iff_iff]
      simp only [beq_iff_eq, Int.natCast_inj]
      exact ⟨fun h => UInt8.toNat_inj.1 h, fun h => by rw [h]⟩
    rw [hb] at p3
    simp only [Op.eqItems, Sem.run_bind, Nat.mul_one, p1, p2, p3, Result.andThen_ok, List.all_cons]
    generalize (l.getD i 0 == m.getD i 0) = r
    cases r
    · simp
    · simpa using ih
theorem eq20 (l m : List UInt8) (hl : l.length = 20) (hm : m.length = 20) (W : World) :
    (Op.equalIn 10000 23 (.agg (bvs l).toArray) (.agg (bvs m).toArray)).run Tryd.prog W = .ok (decide (l = m)) W := by
  obtain ⟨i0, hi, _⟩ := Option.map_eq_some_iff.1 byteT.info
  have h := run_equalIn_array (P := Tryd.prog) W 9999 (bvs l).toArray (bvs m).toArray Tryd.underlying23 hi
  rw [cells8, items_run l m hl hm W _ fun j hj => by simpa using hj] at h
  rw [h]
  have e : ((List.range 20).all fun j => l.getD j 0 == m.getD j 0) = decide (l = m) := by
    rw [Bool.eq_iff_iff]
    simp only [List.all_eq_true, List.mem_range, beq_iff_eq, decide_eq_true_eq]
    constructor
    · intro h
      apply List.ext_getElem (by omega)
      intro j h1 h2
      have := h j (by omega)
      rwa [List.getD_eq_getElem?_getD, List.getD_eq_getElem?_getD, List.getElem?_eq_getElem h1, List.getElem?_eq_getElem h2] at this
    · rintro rfl j _
      rfl
  rw [e]
theorem eq20_same (l : List UInt8) (hl : l.length = 20) (W : World) : (Op.equalIn 10000 23 (.agg (bvs l).toArray) (.agg (bvs l).toArray)).run Tryd.prog W = .ok true W := by
  rw [eq20 l l hl hl W]
  simp
theorem guard20 : Tryd.prog.eqGuardType Tryd.prog.depth 23 = false := by kernel_rfl
/-- In a region that draws its order: two arrays compared. -/
theorem yieldsIf_eql20 {ops : Array Oper} {S : World → Prop} {op : Oper} {a : Act} (hw : Region.wanted op (yielded ops a.tmps) = true) (t' : TypeId) (x y : Operand) (ho : op.op = .binOp .eql 23 x y t')
    (l m : List UInt8) (hx : a.eval x = .agg (bvs l).toArray) (hy : a.eval y = .agg (bvs m).toArray) (hl : l.length = 20) (hm : m.length = 20) : YieldsIf Tryd.prog ops S op (.bool (decide (l = m))) a :=
  .inl ⟨hw, fun w _ => by
    have h1 := run_eqGuard_agg (P := Tryd.prog) w .eql 23 x y (bvs l).toArray (bvs m).toArray guard20
    have h2 := run_eql_struct (P := Tryd.prog) w 23 (bvs l).toArray (bvs m).toArray
    rw [eq20 l m hl hm w] at h2
    simp [execOp, ho, hx, hy, h1, h2, Result.andThen]⟩
/-- In a region that draws its order: two arrays compared. -/
theorem yieldsIf_neq20 {ops : Array Oper} {S : World → Prop} {op : Oper} {a : Act} (hw : Region.wanted op (yielded ops a.tmps) = true) (t' : TypeId) (x y : Operand) (ho : op.op = .binOp .neq 23 x y t')
    (l m : List UInt8) (hx : a.eval x = .agg (bvs l).toArray) (hy : a.eval y = .agg (bvs m).toArray) (hl : l.length = 20) (hm : m.length = 20) : YieldsIf Tryd.prog ops S op (.bool (!decide (l = m))) a :=
  .inl ⟨hw, fun w _ => by
    have h1 := run_eqGuard_agg (P := Tryd.prog) w .neq 23 x y (bvs l).toArray (bvs m).toArray guard20
    have h2 := run_neq_struct (P := Tryd.prog) w 23 (bvs l).toArray (bvs m).toArray
    rw [eq20 l m hl hm w] at h2
    simp [execOp, ho, hx, hy, h1, h2, Result.andThen]⟩
theorem yieldsIf_same20 {ops : Array Oper} {S : World → Prop} {op : Oper} {a : Act} (hw : Region.wanted op (yielded ops a.tmps) = true) (t' : TypeId) (x y : Operand) (ho : op.op = .binOp .eql 23 x y t')
    (l : List UInt8) (hx : a.eval x = .agg (bvs l).toArray) (hy : a.eval y = .agg (bvs l).toArray) (hl : l.length = 20) : YieldsIf Tryd.prog ops S op (.bool true) a := by
  have := yieldsIf_eql20 (S := S) hw t' x y ho l l hx hy hl hl
  rwa [decide_eq_true rfl] at this
theorem yieldsIf_other20 {ops : Array Oper} {S : World → Prop} {op : Oper} {a : Act} (hw : Region.wanted op (yielded ops a.tmps) = true) (t' : TypeId) (x y : Operand) (ho : op.op = .binOp .neq 23 x y t')
    (l m : List UInt8) (hx : a.eval x = .agg (bvs l).toArray) (hy : a.eval y = .agg (bvs m).toArray) (hl : l.length = 20) (hm : m.length = 20) (hne : l ≠ m) : YieldsIf Tryd.prog ops S op (.bool true) a := by
  have := yieldsIf_neq20 (S := S) hw t' x y ho l m hx hy hl hm
  rwa [decide_eq_false hne] at this
end Go.Proofs.YtdplpcmpjkcocaaDoor
