/- Arguments of further types opened: []Act. -/
import Derived.Test.YtgjaggnpheoehaaDoorLFew
import Derived.Deep.Slices
import Derived.Deep.Fields
set_option linter.unusedVariables false
set_option linter.unusedSimpArgs false
set_option maxRecDepth 100000
namespace Go.Proofs.YtgjaggnpheoehaaDoor
open Go.ChangeShapes Go.WideShapes Go.ChangeAt Go.RowKit

section
variable {H : Type} {enc : TypeId × Value → H} {W : World} {base : Nat} {v : Value} {d : DataW H} {p : List MemPlace}
/-- A cell that reads as a []int. -/
theorem nums_cell {fuel : Nat} {x : DataW H × List MemPlace} (hf : DataW.trod enc Tryd.prog W 0 (fun _ => true) true fuel 57 [v] = some x) : ∃ l : List Int, Vals AllB W v (l.map (.int .i64)) ∧ ∀ k ∈ l, inI k := by
  rcases open_ints Tryd.underlying57 Tryd.underlying3 (by kernel_rfl) hf with ⟨hcs, _⟩ | ⟨y, l, c, zs, hcs, _, hl, hm, hz, _, hcell, hwz⟩
  · obtain rfl := List.cons.inj hcs |>.1
    exact ⟨[], Vals.nil _ _, fun k hk => by cases hk⟩
  · obtain rfl := List.cons.inj hcs |>.1
    have hzl : zs.length = c := by simpa using hz
    refine ⟨zs.take l, ⟨some y, c, ?_, ?_, by simpa [maxLen] using hm, (fun h => by cases h), fun h0 => ?_⟩, fun k hk => bounds_i64 (hwz k (List.mem_of_mem_take hk))⟩
    · have : ((zs.take l).map (Value.int .i64)).length = l := by simp; omega
      rw [this]
    · simp; omega
    · have hn : 0 < l := by simp at h0; omega
      obtain ⟨b, off, rfl, hc⟩ := ints_at hcell (by omega)
      refine ⟨b, off, rfl, trivial, fun j hj => ?_⟩
      have hj' : j < l := by simp at hj; omega
      rw [hc j (by omega)]
      simp [List.getElem?_eq_getElem (show j < zs.length by omega)]
/-- The cells of an act. -/
theorem act_cells {fuel : Nat} {cs : List Value} {x : DataW H × List MemPlace} (hf : DataW.trod enc Tryd.prog W 0 (fun _ => true) true fuel 71 cs = some x) :
    ∃ (y : AR) (u : Value × Value), cs = acell y u ∧ BS AllB W u.1 y.b ∧ Vals AllB W u.2 (y.keep.map (.int .i64)) ∧ y.ok := by
  have hu := Tryd.underlying71
  obtain ⟨ys, n, _, _, hlen, _, hfs⟩ := DataW.trod_struct hu hf
  have h5 : cs.length = 4 := hlen.trans (by kernel_rfl)
  match cs, h5 with
  | [c0, c1, c2, c3], _ =>
    have hx : ys.length = 4 := by assumption
    have g0 : DataW.trod enc Tryd.prog W 0 (fun _ => true) true n 3 [c0] = ys[0]? := hfs 0 _ rfl
    have g1 : DataW.trod enc Tryd.prog W 0 (fun _ => true) true n 3 [c1] = ys[1]? := hfs 1 _ rfl
    have g3 : DataW.trod enc Tryd.prog W 0 (fun _ => true) true n 22 [c2] = ys[2]? := hfs 2 _ rfl
    have g4 : DataW.trod enc Tryd.prog W 0 (fun _ => true) true n 57 [c3] = ys[3]? := hfs 3 _ rfl
    rw [List.getElem?_eq_getElem (by omega)] at g0 g1 g3 g4
    obtain ⟨n0, e0, _, w0⟩ := DataW.trod_int Tryd.underlying3 g0
    obtain ⟨n1, e1, _, w1⟩ := DataW.trod_int Tryd.underlying3 g1
    obtain ⟨l3, b3⟩ := bytes_cell g3
    obtain ⟨l4, b4, k4⟩ := nums_cell g4
    obtain rfl := (List.cons.inj e0).1
    obtain rfl := (List.cons.inj e1).1
    exact ⟨⟨n0, n1, l3, l4⟩, (c2, c3), rfl, b3, b4, bounds_i64 w0, bounds_i64 w1, k4⟩
instance : Inhabited (AR × Value × Value) := ⟨(⟨0, 0, [], []⟩, .bool false, .bool false)⟩
/-- An argument of type []Act. -/
theorem open_acts (hv : Value.okWide Tryd.prog W .any base 61 v) (h : DataW.Trod enc Tryd.prog W 0 (fun _ => true) true 61 v d p) : ∃ us xs, Acts W v us xs := by
  obtain ⟨a, n, c, rfl⟩ := okWide_slice Tryd.underlying61 hv
  obtain ⟨fuel, hf⟩ := h
  rcases Deep.open_slice Tryd.underlying61 hf with ⟨hcs, _⟩ | ⟨x, l, c', m, f, D, Pl, hcs, _, hl, hm, hmm, _, hcell⟩
  · simp [Value.cells] at hcs
    obtain ⟨rfl, rfl, rfl⟩ := hcs
    exact ⟨[], [], AS.nil _ _, none, 0, rfl, Nat.le_refl _, by decide, fun h => absurd h (by simp)⟩
  · simp [Value.cells] at hcs
    obtain ⟨rfl, rfl, rfl⟩ := hcs
    have hmc : m = c := by simpa using hmm
    have hC : Tryd.prog.cellsOf 71 = 4 := by kernel_rfl
    obtain ⟨L, hL⟩ := Deep.choose_lt (α := AR × (Value × Value)) (n := n) (p := fun i z => W.cells? 0 (x.add (i * 4)) 4 = some (acell z.1 z.2) ∧ BS AllB W z.2.1 z.1.b ∧ Vals AllB W z.2.2 (z.1.keep.map (.int .i64)) ∧ z.1.ok) (fun i hi => by
      obtain ⟨cs', h1, h2⟩ := hcell i (by omega)
      rw [hC] at h1
      obtain ⟨y, u, rfl, r⟩ := act_cells h2
      exact ⟨(y, u), h1, r⟩)
    refine ⟨(List.range n).map fun i => (L i).2, (List.range n).map fun i => (L i).1, ⟨by simp, fun j h1 h2 => ?_⟩, some x, c, by simp, by simpa using hl, by simpa [maxLen] using hm, fun h0 => ?_⟩
    · have hj : j < n := by simpa using h1
      simpa using (hL j hj).2
    · have hn : 0 < n := by simpa using h0
      obtain ⟨b, off, spot⟩ := x
      have hat : ∀ j, j < n → ∀ i, i < 4 → W.cell? ((((⟨b, off, spot⟩ : Addr).add (j * 4)).add i)) = (acell (L j).1 (L j).2)[i]? := fun j hj i hi => (World.cells?_some (hL j hj).1).2.2 i hi
      have hspot : spot = none := by
        have := hat 0 hn 0 (by omega)
        simp [Addr.add, acell] at this
        exact World.cell?_spot this
      subst hspot
      refine ⟨b, off, rfl, fun j hj hj' i hi => ?_⟩
      have hj2 : j < n := by simpa using hj
      have := hat j hj2 i hi
      rw [Go.WideShapes.add_plain, Go.WideShapes.add_plain] at this
      rw [this]
      simp
theorem open_nums (hv : Value.okWide Tryd.prog W .any base 57 v) (h : DataW.Trod enc Tryd.prog W 0 (fun _ => true) true 57 v d p) : ∃ l : List Int, Vals AllB W v (l.map (.int .i64)) ∧ ∀ k ∈ l, inI k := by
  obtain ⟨a, n, c, rfl⟩ := okWide_slice Tryd.underlying57 hv
  obtain ⟨fuel, hf⟩ := h
  exact nums_cell (by simpa [Value.cells] using hf)
end
end Go.Proofs.YtgjaggnpheoehaaDoor
