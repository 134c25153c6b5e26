/- From a walk to a row, for the laws of the disk: the arguments opened. -/
import Derived.Test.YtgjaggnpheoehaaRows
import Derived.Test.YtgjaggnpheoehaaDFew
import Derived.ProofKit
import Derived.OpenShut
import Derived.Deep.DeepHandedRow
import Derived.Deep.Slices
import Derived.Deep.Fields
set_option linter.unusedVariables false
set_option linter.unusedSimpArgs false
set_option maxRecDepth 100000
namespace Go.Proofs.Ytgjaggnpheoehaa
open Go.ChangeShapes Go.WideShapes Go.ChangeAt Go.RowKit

theorem own : ownKnob Try.prog.godebug = none := by kernel_rfl
theorem laidOut : laidOutB Try.prog = true := by kernel_rfl

section
variable {H : Type} {enc : TypeId × Value → H} {W : World} {base : Nat} {v : Value} {d : DataW H} {p : List MemPlace}
theorem wf_u8 {n : Int} (h : (Lit.int .u8 n).wf = true) : 0 ≤ n ∧ n < 256 := by
  obtain ⟨h1, h2⟩ := bounds_u8 h
  clear h
  omega
/-- A cell that reads as a []byte. -/
theorem bytes_cell {fuel : Nat} {x : DataW H × List MemPlace} (hf : DataW.trod enc Try.prog W 0 (fun _ => true) true fuel 28 [v] = some x) : ∃ l, BS AllB W v l := by
  rcases open_ints Try.underlying28 Try.underlying5 (by kernel_rfl) hf with ⟨hcs, _⟩ | ⟨y, l, c, zs, hcs, _, hl, hm, hz, _, hcell, hwz⟩
  · obtain rfl := List.cons.inj hcs |>.1
    exact ⟨[], BS.nil _ _⟩
  · obtain rfl := List.cons.inj hcs |>.1
    have hzl : zs.length = c := by simpa using hz
    refine ⟨(zs.take l).map fun z => UInt8.ofNat z.toNat, some y, c, ?_, ?_, by simpa [maxLen] using hm, (fun h => by cases h), fun h0 => ?_⟩
    · have : ((zs.take l).map fun z => UInt8.ofNat z.toNat).length = l := by simp; omega
      rw [this]
    · simp; omega
    · have hn : 0 < l := by simp at h0; omega
      obtain ⟨b, off, rfl, hc⟩ := ints_at hcell (by omega)
      refine ⟨b, off, rfl, trivial, fun j hj => ?_⟩
      have hj' : j < l := by simp at hj; omega
      rw [hc j (by omega)]
      have hw := wf_u8 (hwz zs[j] (List.getElem_mem (by omega)))
      simp [bv]
      simp [List.getElem?_eq_getElem (show j < zs.length by omega)]
      omega
/-- A cell that reads as a []int. -/
theorem nums_cell {fuel : Nat} {x : DataW H × List MemPlace} (hf : DataW.trod enc Try.prog W 0 (fun _ => true) true fuel 30 [v] = some x) : ∃ l : List Int, Vals AllB W v (l.map (.int .i64)) ∧ ∀ k ∈ l, inI k := by
  rcases open_ints Try.underlying30 Try.underlying3 (by kernel_rfl) hf with ⟨hcs, _⟩ | ⟨y, l, c, zs, hcs, _, hl, hm, hz, _, hcell, hwz⟩
  · obtain rfl := List.cons.inj hcs |>.1
    exact ⟨[], Vals.nil _ _, fun k hk => by cases hk⟩
  · obtain rfl := List.cons.inj hcs |>.1
    have hzl : zs.length = c := by simpa using hz
    refine ⟨zs.take l, ⟨some y, c, ?_, ?_, by simpa [maxLen] using hm, (fun h => by cases h), fun h0 => ?_⟩, fun k hk => bounds_i64 (hwz k (List.mem_of_mem_take hk))⟩
    · have : ((zs.take l).map (Value.int .i64)).length = l := by simp; omega
      rw [this]
    · simp; omega
    · have hn : 0 < l := by simp at h0; omega
      obtain ⟨b, off, rfl, hc⟩ := ints_at hcell (by omega)
      refine ⟨b, off, rfl, trivial, fun j hj => ?_⟩
      have hj' : j < l := by simp at hj; omega
      rw [hc j (by omega)]
      simp [List.getElem?_eq_getElem (show j < zs.length by omega)]
/-- The cells of an act. -/
theorem act_cells {fuel : Nat} {cs : List Value} {x : DataW H × List MemPlace} (hf : DataW.trod enc Try.prog W 0 (fun _ => true) true fuel 33 cs = some x) :
    ∃ (y : AR) (u : Value × Value), cs = acell y u ∧ BS AllB W u.1 y.b ∧ Vals AllB W u.2 (y.keep.map (.int .i64)) ∧ y.ok := by
  have hu := Try.underlying33
  obtain ⟨ys, n, _, _, hlen, _, hfs⟩ := DataW.trod_struct hu hf
  have h5 : cs.length = 5 := hlen.trans (by kernel_rfl)
  match cs, h5 with
  | [c0, c1, c2, c3, c4], _ =>
    have hx : ys.length = 5 := by assumption
    have g0 : DataW.trod enc Try.prog W 0 (fun _ => true) true n 3 [c0] = ys[0]? := hfs 0 _ rfl
    have g1 : DataW.trod enc Try.prog W 0 (fun _ => true) true n 3 [c1] = ys[1]? := hfs 1 _ rfl
    have g2 : DataW.trod enc Try.prog W 0 (fun _ => true) true n 3 [c2] = ys[2]? := hfs 2 _ rfl
    have g3 : DataW.trod enc Try.prog W 0 (fun _ => true) true n 28 [c3] = ys[3]? := hfs 3 _ rfl
    have g4 : DataW.trod enc Try.prog W 0 (fun _ => true) true n 30 [c4] = ys[4]? := hfs 4 _ rfl
    rw [List.getElem?_eq_getElem (by omega)] at g0 g1 g2 g3 g4
    obtain ⟨n0, e0, _, w0⟩ := DataW.trod_int Try.underlying3 g0
    obtain ⟨n1, e1, _, w1⟩ := DataW.trod_int Try.underlying3 g1
    obtain ⟨n2, e2, _, w2⟩ := DataW.trod_int Try.underlying3 g2
    obtain ⟨l3, b3⟩ := bytes_cell g3
    obtain ⟨l4, b4, k4⟩ := nums_cell g4
    obtain rfl := (List.cons.inj e0).1
    obtain rfl := (List.cons.inj e1).1
    obtain rfl := (List.cons.inj e2).1
    exact ⟨⟨n0, n1, n2, l3, l4⟩, (c3, c4), rfl, b3, b4, bounds_i64 w0, bounds_i64 w1, bounds_i64 w2, k4⟩
instance : Inhabited (AR × Value × Value) := ⟨(⟨0, 0, 0, [], []⟩, .bool false, .bool false)⟩
/-- An argument of type []Act. -/
theorem open_acts (hv : Value.okWide Try.prog W .any base 22 v) (h : DataW.Trod enc Try.prog W 0 (fun _ => true) true 22 v d p) : ∃ us xs, Acts W v us xs := by
  obtain ⟨a, n, c, rfl⟩ := okWide_slice Try.underlying22 hv
  obtain ⟨fuel, hf⟩ := h
  rcases Deep.open_slice Try.underlying22 hf with ⟨hcs, _⟩ | ⟨x, l, c', m, f, D, Pl, hcs, _, hl, hm, hmm, _, hcell⟩
  · simp [Value.cells] at hcs
    obtain ⟨rfl, rfl, rfl⟩ := hcs
    exact ⟨[], [], AS.nil _ _, none, 0, rfl, Nat.le_refl _, by decide, fun h => absurd h (by simp)⟩
  · simp [Value.cells] at hcs
    obtain ⟨rfl, rfl, rfl⟩ := hcs
    have hmc : m = c := by simpa using hmm
    have hC : Try.prog.cellsOf 33 = 5 := by kernel_rfl
    obtain ⟨L, hL⟩ := Deep.choose_lt (α := AR × (Value × Value)) (n := n) (p := fun i z => W.cells? 0 (x.add (i * 5)) 5 = some (acell z.1 z.2) ∧ BS AllB W z.2.1 z.1.b ∧ Vals AllB W z.2.2 (z.1.keep.map (.int .i64)) ∧ z.1.ok) (fun i hi => by
      obtain ⟨cs', h1, h2⟩ := hcell i (by omega)
      rw [hC] at h1
      obtain ⟨y, u, rfl, r⟩ := act_cells h2
      exact ⟨(y, u), h1, r⟩)
    refine ⟨(List.range n).map fun i => (L i).2, (List.range n).map fun i => (L i).1, ⟨by simp, fun j h1 h2 => ?_⟩, some x, c, by simp, by simpa using hl, by simpa [maxLen] using hm, fun h0 => ?_⟩
    · have hj : j < n := by simpa using h1
      simpa using (hL j hj).2
    · have hn : 0 < n := by simpa using h0
      obtain ⟨b, off, spot⟩ := x
      have hat : ∀ j, j < n → ∀ i, i < 5 → W.cell? ((((⟨b, off, spot⟩ : Addr).add (j * 5)).add i)) = (acell (L j).1 (L j).2)[i]? := fun j hj i hi => (World.cells?_some (hL j hj).1).2.2 i hi
      have hspot : spot = none := by
        have := hat 0 hn 0 (by omega)
        simp [Addr.add, acell] at this
        exact World.cell?_spot this
      subst hspot
      refine ⟨b, off, rfl, fun j hj hj' i hi => ?_⟩
      have hj2 : j < n := by simpa using hj
      have := hat j hj2 i hi
      rw [Go.WideShapes.add_plain, Go.WideShapes.add_plain] at this
      rw [this]
      simp
theorem open_i64 (hv : Value.okWide Try.prog W .any base 3 v) (h : DataW.Trod enc Try.prog W 0 (fun _ => true) true 3 v d p) : ∃ a : Int, inI a ∧ v = .int .i64 a := by
  obtain ⟨x, rfl, rfl, rfl, wx⟩ := open_int Try.underlying3 hv h
  exact ⟨x, bounds_i64 wx, rfl⟩
theorem open_b (hv : Value.okWide Try.prog W .any base 4 v) (h : DataW.Trod enc Try.prog W 0 (fun _ => true) true 4 v d p) : ∃ a : Bool, True ∧ v = .bool a := by
  obtain ⟨fuel, hf⟩ := h
  obtain ⟨b, hb, _⟩ := DataW.trod_bool Try.underlying4 hf
  have hs := okWide_bool Try.underlying4 hv
  obtain ⟨x, rfl⟩ := hs
  exact ⟨x, trivial, rfl⟩
theorem open_bytes (hv : Value.okWide Try.prog W .any base 28 v) (h : DataW.Trod enc Try.prog W 0 (fun _ => true) true 28 v d p) : ∃ l, BS AllB W v l := by
  obtain ⟨a, n, c, rfl⟩ := okWide_slice Try.underlying28 hv
  obtain ⟨fuel, hf⟩ := h
  exact bytes_cell (by simpa [Value.cells] using hf)
theorem open_nums (hv : Value.okWide Try.prog W .any base 30 v) (h : DataW.Trod enc Try.prog W 0 (fun _ => true) true 30 v d p) : ∃ l : List Int, Vals AllB W v (l.map (.int .i64)) ∧ ∀ k ∈ l, inI k := by
  obtain ⟨a, n, c, rfl⟩ := okWide_slice Try.underlying30 hv
  obtain ⟨fuel, hf⟩ := h
  exact nums_cell (by simpa [Value.cells] using hf)
theorem stays {t : TypeId} (hr : Try.prog.readableRec t = true) (hrow : t < Try.prog.types.size) {W' : World} (h : DataW.Trod enc Try.prog W 0 (fun _ => true) true t v d p) (hb : Below W.heap.size W W') :
    DataW.Trod enc Try.prog W' 0 (fun b => decide (b < W.heap.size)) true t v d p :=
  Below.trod laidOut hr hrow h hb (by obtain ⟨m, hm⟩ := h; exact DataW.trod_lt m _ _ _ hm)
end
end Go.Proofs.Ytgjaggnpheoehaa
