/- From a walk to a row and its card: the arguments opened, the table read. -/
import Derived.Test.YtgjaggnpheoehaaDoorCards
import Derived.Test.YtgjaggnpheoehaaDoorTie
import Derived.Test.YtgjaggnpheoehaaDoorCrc
import Derived.ProofKit
import Derived.OpenShut
import Derived.Deep.DeepHandedRow
import Derived.Lib.LaidTab
set_option linter.unusedVariables false
set_option linter.unusedSimpArgs false
set_option maxRecDepth 100000
namespace Go.Proofs.YtgjaggnpheoehaaDoor
open Go.ChangeShapes Go.WideShapes Go.ChangeAt Go.RowKit

theorem own : ownKnob Tryd.prog.godebug = none := by kernel_rfl
theorem laidOut : laidOutB Tryd.prog = true := by kernel_rfl
theorem gTab : Tryd.prog.globalNamed "postrider/frame.table" = some 0 := by kernel_rfl
theorem gTabType : (Tryd.prog.globals[0]?).map (·.type) = some 117 := by kernel_rfl
theorem cellsTab : Tryd.prog.cellsOf 117 = 16 := by kernel_rfl
theorem cellsU32 : Tryd.prog.cellsOf 23 = 1 := by kernel_rfl

def tabZ : List Int := [0, 498536548, 997073096, 651767980, 1994146192, 1802195444, 1303535960, 1342533948, 3988292384, 4027552580, 3604390888, 3412177804, 2607071920, 2262029012, 2685067896, 3183342108]
theorem tab_laid {H : Type} : (Rows.laid_postrider_frame_table : DataW H) = Lib.tabData .u32 tabZ := rfl
theorem tabZ_at : ∀ i : Nat, i < 16 → tabZ.getD i 0 = ((tabN i : Nat) : Int) := by decide
/-- What the row's list gives. -/
theorem table {W : World} (h : laidMetH Tryd.prog [("postrider/frame.table", Rows.laid_postrider_frame_table)] W) : TabOk W := by
  have ht : Lib.TabIs Tryd.prog W "postrider/frame.table" .u32 tabZ := Lib.tabIs_of_head (rest := []) gTab gTabType Tryd.underlying117 Tryd.underlying23 cellsU32 cellsTab h
  intro i hi
  have := ht.cell gTab i (by simpa [tabZ] using hi)
  rw [← tabZ_at i hi]
  exact this

section
variable {H : Type} {enc : TypeId × Value → H} {W : World} {base : Nat} {v : Value} {d : DataW H} {p : List MemPlace}
theorem wf_u8 {n : Int} (h : (Lit.int .u8 n).wf = true) : 0 ≤ n ∧ n < 256 := by
  obtain ⟨h1, h2⟩ := bounds_u8 h
  clear h
  omega
/-- An argument of type []byte. -/
theorem open_bytes (hv : Value.okWide Tryd.prog W .any base 22 v) (h : DataW.Trod enc Tryd.prog W 0 (fun _ => true) true 22 v d p) : ∃ l, BS AllB W v l := by
  obtain ⟨a, n, c, rfl⟩ := okWide_slice Tryd.underlying22 hv
  obtain ⟨fuel, hf⟩ := h
  rcases open_ints Tryd.underlying22 Tryd.underlying5 (by kernel_rfl) hf with ⟨hcs, _⟩ | ⟨x, l, c', zs, hcs, _, hl, hm, hz, _, hcell, hwz⟩
  · simp [Value.cells] at hcs
    obtain ⟨rfl, rfl, rfl⟩ := hcs
    exact ⟨[], BS.nil _ _⟩
  · simp [Value.cells] at hcs
    obtain ⟨rfl, rfl, rfl⟩ := hcs
    have hzl : zs.length = c := by simpa using hz
    refine ⟨(zs.take n).map fun z => UInt8.ofNat z.toNat, some x, c, ?_, ?_, by simpa [maxLen] using hm, (fun h => by cases h), fun h0 => ?_⟩
    · have : ((zs.take n).map fun z => UInt8.ofNat z.toNat).length = n := by simp; omega
      rw [this]
    · simp; omega
    · have hn : 0 < n := by simp at h0; omega
      obtain ⟨b, off, rfl, hc⟩ := ints_at hcell (by omega)
      refine ⟨b, off, rfl, trivial, fun j hj => ?_⟩
      have hj' : j < n := by simp at hj; omega
      rw [hc j (by omega)]
      have hw := wf_u8 (hwz zs[j] (List.getElem_mem (by omega)))
      simp [bv]
      simp [List.getElem?_eq_getElem (show j < zs.length by omega)]
      omega
theorem open_u32 (hv : Value.okWide Tryd.prog W .any base 23 v) (h : DataW.Trod enc Tryd.prog W 0 (fun _ => true) true 23 v d p) : ∃ a : Nat, a < 4294967296 ∧ v = .int .u32 (a : Int) := by
  obtain ⟨x, rfl, rfl, rfl, wx⟩ := open_int Tryd.underlying23 hv h
  obtain ⟨h1, h2⟩ := bounds_u32 wx
  clear wx hv h
  exact ⟨x.toNat, by omega, by rw [show ((x.toNat : Nat) : Int) = x by omega]⟩
theorem open_u16 (hv : Value.okWide Tryd.prog W .any base 38 v) (h : DataW.Trod enc Tryd.prog W 0 (fun _ => true) true 38 v d p) : ∃ a : Nat, a < 65536 ∧ v = .int .u16 (a : Int) := by
  obtain ⟨x, rfl, rfl, rfl, wx⟩ := open_int Tryd.underlying38 hv h
  obtain ⟨h1, h2⟩ := bounds_u16 wx
  clear wx hv h
  exact ⟨x.toNat, by omega, by rw [show ((x.toNat : Nat) : Int) = x by omega]⟩
theorem stays {t : TypeId} (hr : Tryd.prog.readableRec t = true) (hrow : t < Tryd.prog.types.size) {W' : World} (h : DataW.Trod enc Tryd.prog W 0 (fun _ => true) true t v d p) (hb : Below W.heap.size W W') :
    DataW.Trod enc Tryd.prog W' 0 (fun b => decide (b < W.heap.size)) true t v d p :=
  Below.trod laidOut hr hrow h hb (by obtain ⟨m, hm⟩ := h; exact DataW.trod_lt m _ _ _ hm)
end

/-- A world for the witness: the settled one, the table (block 0) holding what its initialiser lays. -/
noncomputable def laidWorld (os : Os) (args : Array Value) : World :=
  { World.holding Tryd.prog os ⟨#[], args, []⟩ with heap := (World.holding Tryd.prog os ⟨#[], args, []⟩).heap.modify 0 fun
      | .cells _ t frozen => .cells (tabZ.map (Value.int .u32)).toArray t frozen
      | o => o }
end Go.Proofs.YtgjaggnpheoehaaDoor
