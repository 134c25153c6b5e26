/- Arguments of further types opened: int. -/
import Derived.Test.YtgjaggnpheoehaaDoorLift2
set_option linter.unusedVariables false
set_option linter.unusedSimpArgs false
set_option maxRecDepth 100000
namespace Go.Proofs.YtgjaggnpheoehaaDoor
open Go.ChangeShapes Go.WideShapes Go.ChangeAt Go.RowKit

def inI (x : Int) : Prop := -9223372036854775808 ≤ x ∧ x ≤ 9223372036854775807
section
variable {H : Type} {enc : TypeId × Value → H} {W : World} {base : Nat} {v : Value} {d : DataW H} {p : List MemPlace}
theorem open_i64 (hv : Value.okWide Tryd.prog W .any base 3 v) (h : DataW.Trod enc Tryd.prog W 0 (fun _ => true) true 3 v d p) : ∃ a : Int, inI a ∧ v = .int .i64 a := by
  obtain ⟨x, rfl, rfl, rfl, wx⟩ := open_int Tryd.underlying3 hv h
  exact ⟨x, bounds_i64 wx, rfl⟩
end
end Go.Proofs.YtgjaggnpheoehaaDoor
