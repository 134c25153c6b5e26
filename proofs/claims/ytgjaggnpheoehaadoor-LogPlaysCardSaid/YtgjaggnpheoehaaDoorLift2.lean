/- Arguments of further types opened: [][]byte. -/
import Derived.Test.YtgjaggnpheoehaaDoorLift
import Derived.Test.YtgjaggnpheoehaaDoorVals
import Derived.Deep.Slices
set_option linter.unusedVariables false
set_option linter.unusedSimpArgs false
set_option maxRecDepth 100000
namespace Go.Proofs.YtgjaggnpheoehaaDoor
open Go.ChangeShapes Go.WideShapes Go.ChangeAt Go.RowKit

section
variable {H : Type} {enc : TypeId × Value → H} {W : World} {base : Nat} {v : Value} {d : DataW H} {p : List MemPlace}
/-- A cell that reads as a []byte. -/
theorem bytes_cell {fuel : Nat} {x : DataW H × List MemPlace} (hf : DataW.trod enc Tryd.prog W 0 (fun _ => true) true fuel 22 [v] = some x) : ∃ l, BS AllB W v l := by
  rcases open_ints Tryd.underlying22 Tryd.underlying5 (by kernel_rfl) hf with ⟨hcs, _⟩ | ⟨y, l, c, zs, hcs, _, hl, hm, hz, _, hcell, hwz⟩
  · obtain rfl := List.cons.inj hcs |>.1
    exact ⟨[], BS.nil _ _⟩
  · obtain rfl := List.cons.inj hcs |>.1
    have hzl : zs.length = c := by simpa using hz
    refine ⟨(zs.take l).map fun z => UInt8.ofNat z.toNat, some y, c, ?_, ?_, by simpa [maxLen] using hm, (fun h => by cases h), fun h0 => ?_⟩
    · have : ((zs.take l).map fun z => UInt8.ofNat z.toNat).length = l := by simp; omega
      rw [this]
    · simp; omega
    · have hn : 0 < l := by simp at h0; omega
      obtain ⟨b, off, rfl, hc⟩ := ints_at hcell (by omega)
      refine ⟨b, off, rfl, trivial, fun j hj => ?_⟩
      have hj' : j < l := by simp at hj; omega
      rw [hc j (by omega)]
      have hw := wf_u8 (hwz zs[j] (List.getElem_mem (by omega)))
      simp [bv]
      simp [List.getElem?_eq_getElem (show j < zs.length by omega)]
      omega
/-- An argument of type [][]byte. -/
theorem open_rows (hv : Value.okWide Tryd.prog W .any base 41 v) (h : DataW.Trod enc Tryd.prog W 0 (fun _ => true) true 41 v d p) : ∃ us ls, Vals AllB W v us ∧ RS AllB W us ls := by
  obtain ⟨a, n, c, rfl⟩ := okWide_slice Tryd.underlying41 hv
  obtain ⟨fuel, hf⟩ := h
  rcases Deep.open_slice1 Tryd.underlying41 (by kernel_rfl) hf with ⟨hcs, _⟩ | ⟨x, l, c', m, f, V, D, Pl, hcs, _, hl, hm, hmm, _, hcell⟩
  · simp [Value.cells] at hcs
    obtain ⟨rfl, rfl, rfl⟩ := hcs
    exact ⟨[], [], Vals.nil _ _, RS.nil _ _⟩
  · simp [Value.cells] at hcs
    obtain ⟨rfl, rfl, rfl⟩ := hcs
    have hmc : m = c := by simpa using hmm
    obtain ⟨L, hL⟩ := Deep.choose_lt (α := List UInt8) (n := n) (p := fun i l => BS AllB W (V i) l) (fun i hi => bytes_cell (hcell i (by omega)).2)
    refine ⟨(List.range n).map V, (List.range n).map L, ⟨some x, c, by simp, by simpa using hl, by simpa [maxLen] using hm, (fun h => by cases h), fun h0 => ?_⟩, by simp, fun j h1 h2 => ?_⟩
    · have hn : 0 < n := by simpa using h0
      obtain ⟨b, off, spot⟩ := x
      have hspot : spot = none := by simpa [Addr.add] using World.cell?_spot (hcell 0 (by omega)).1
      subst hspot
      refine ⟨b, off, rfl, trivial, fun j hj => ?_⟩
      have hj' : j < n := by simpa using hj
      rw [← Go.WideShapes.add_plain, (hcell j (by omega)).1]
      simp
    · simpa using hL j (by simpa using h1)
end
end Go.Proofs.YtgjaggnpheoehaaDoor
