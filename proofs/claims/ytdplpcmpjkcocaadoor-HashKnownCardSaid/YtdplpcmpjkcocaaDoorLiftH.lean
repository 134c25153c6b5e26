/- From a walk to a row and its card: the arguments opened, the tables read. -/
import Derived.Test.YtdplpcmpjkcocaaDoorCards
import Derived.Test.YtdplpcmpjkcocaaDoorTie
import Derived.Test.YtdplpcmpjkcocaaDoorShaC
import Derived.ProofKit
import Derived.OpenShut
import Derived.LaidMore
import Derived.Stop.Joined
import Derived.Lib.LaidTab
import Derived.Deep.DeepHandedRow
set_option linter.unusedVariables false
set_option linter.unusedSimpArgs false
set_option maxRecDepth 100000
namespace Go.Proofs.YtdplpcmpjkcocaaDoor
open Go.ChangeShapes Go.WideShapes Go.ChangeAt Go.RowKit

theorem own : ownKnob Tryd.prog.godebug = none := by kernel_rfl
theorem laidOut : laidOutB Tryd.prog = true := by kernel_rfl
theorem gBegins : Tryd.prog.globalNamed "postrider/hash.begins" = some 0 := by kernel_rfl
theorem gTurns : Tryd.prog.globalNamed "postrider/hash.turns" = some 1 := by kernel_rfl
theorem tBegins : (Tryd.prog.globals[0]?).map (·.type) = some 35 := by kernel_rfl
theorem tTurns : (Tryd.prog.globals[1]?).map (·.type) = some 51 := by kernel_rfl
theorem cells5T : Tryd.prog.cellsOf 35 = 5 := by kernel_rfl
theorem cellsU32 : Tryd.prog.cellsOf 34 = 1 := by kernel_rfl
theorem cellsTurn : Tryd.prog.cellsOf 50 = 2 := by kernel_rfl
theorem cellsTurns : Tryd.prog.cellsOf 51 = 8 := by kernel_rfl

def laidL : List (String × DataW Unit) := [("postrider/hash.begins", Rows.laid_postrider_hash_begins), ("postrider/hash.turns", Rows.laid_postrider_hash_turns)]
def begZ : List Int := [1732584193, 4023233417, 2562383102, 271733878, 3285377520]
theorem begins_cell {W : World} (h : laidMetH Tryd.prog laidL W) (i : Nat) (hi : i < 5) : W.cell? ⟨0, i, none⟩ = some (.int .u32 (begZ.getD i 0)) := by
  have h1 : laidMet Tryd.prog [("postrider/hash.begins", Lib.tabData .u32 begZ)] W := h.1
  have ht : Lib.TabIs Tryd.prog W "postrider/hash.begins" .u32 begZ := Lib.tabIs_of_head (rest := []) gBegins tBegins Tryd.underlying35 Tryd.underlying34 cellsU32 cells5T h1
  exact ht.cell gBegins i hi

def turnD (s : List UInt8) (k : Int) : DataW (List UInt8) := .agg [.held s, .lit (.int .u32 k)]
theorem turn_cells {W : World} {fuel : Nat} {cs : List Value} {b : UInt8} {r : List UInt8} {k : Int} {q : List MemPlace} {f0 : FuncId}
    (hone : ((List.range Tryd.prog.funcs.size).filter fun f => (Tryd.prog.funcs[f]?).any (·.name.toUTF8.data.toList == b :: r)) = [f0])
    (h : DataW.trod (funcToken Tryd.prog) Tryd.prog W 0 (fun _ => true) true fuel 50 cs = some (turnD (b :: r) k, q)) : cs = [.func (.func f0) #[] #[], .int .u32 k] := by
  obtain ⟨y0, y1, n, hx, hl, g0, g1⟩ := trod_struct2 Tryd.underlying50 h
  rw [cellsTurn] at hl
  match cs, hl with
  | [c0, c1], _ =>
    have e0 : y0.1 = .held (b :: r) := by have := congrArg Prod.fst hx; simp only [turnD, DataW.agg.injEq, List.cons.injEq] at this; exact this.1.symm
    have e1 : y1.1 = .lit (.int .u32 k) := by have := congrArg Prod.fst hx; simp only [turnD, DataW.agg.injEq, List.cons.injEq] at this; exact this.2.1.symm
    have g0' : DataW.trod (funcToken Tryd.prog) Tryd.prog W 0 (fun _ => true) true n 48 [c0] = some (.held (b :: r), y0.2) := by rw [← e0]; exact g0
    have g1' : DataW.trod (funcToken Tryd.prog) Tryd.prog W 0 (fun _ => true) true n 34 [c1] = some (.lit (.int .u32 k), y1.2) := by rw [← e1]; exact g1
    obtain rfl := func_of_trod (f0 := f0) Tryd.underlying48 hone g0'
    obtain ⟨z, hc, hz, _⟩ := DataW.trod_int Tryd.underlying34 g1'
    obtain rfl := List.cons.inj hc |>.1
    have hz' := congrArg Prod.fst hz
    simp only [DataW.lit.injEq, Lit.int.injEq, true_and] at hz'
    rw [hz']
/-- What the row's list gives. -/
theorem table {W : World} (h : laidMetH Tryd.prog laidL W) : HashOk W := by
  obtain ⟨g, t, cs, fuel, p, hg, ht, hv, hd⟩ := h.funcs (n := "postrider/hash.turns") (List.mem_cons_of_mem _ (List.mem_singleton.2 rfl))
  obtain rfl := Option.some.inj (gTurns.symm.trans hg)
  obtain rfl := Option.some.inj (tTurns.symm.trans ht)
  obtain ⟨xs, m, _, hx, hl, hlen, hel⟩ := DataW.trod_array Tryd.underlying51 hd
  rw [cellsTurns] at hl
  have hxs : xs.map (·.1) = [turnD [112, 111, 115, 116, 114, 105, 100, 101, 114, 47, 104, 97, 115, 104, 46, 99, 104, 111, 105, 99, 101] 1518500249, turnD [112, 111, 115, 116, 114, 105, 100, 101, 114, 47, 104, 97, 115, 104, 46, 112, 97, 114, 105, 116, 121] 1859775393, turnD [112, 111, 115, 116, 114, 105, 100, 101, 114, 47, 104, 97, 115, 104, 46, 109, 111, 115, 116] 2400959708, turnD [112, 111, 115, 116, 114, 105, 100, 101, 114, 47, 104, 97, 115, 104, 46, 112, 97, 114, 105, 116, 121] 3395469782] := by
    have := congrArg Prod.fst hx
    exact (DataW.agg.inj this).symm
  match xs, hlen, hxs, hel with
  | [x0, x1, x2, x3], _, hxs, hel =>
    simp only [List.map_cons, List.map_nil, List.cons.injEq, and_true] at hxs
    obtain ⟨h0, h1, h2, h3⟩ := hxs
    have g0 := hel 0 (by decide)
    have g1 := hel 1 (by decide)
    have g2 := hel 2 (by decide)
    have g3 := hel 3 (by decide)
    rw [cellsTurn] at g0 g1 g2 g3
    replace g0 : _ = some (x0.1, x0.2) := g0
    replace g1 : _ = some (x1.1, x1.2) := g1
    replace g2 : _ = some (x2.1, x2.2) := g2
    replace g3 : _ = some (x3.1, x3.2) := g3
    rw [h0] at g0
    rw [h1] at g1
    rw [h2] at g2
    rw [h3] at g3
    have k0 := turn_cells (f0 := 40) (by kernel_rfl) g0
    have k1 := turn_cells (f0 := 41) (by kernel_rfl) g1
    have k2 := turn_cells (f0 := 42) (by kernel_rfl) g2
    have k3 := turn_cells (f0 := 41) (by kernel_rfl) g3
    have hcell : ∀ i, W.cell? ⟨1, i, none⟩ = cs[i]? := fun i => World.var?_cell gTurns hv i
    have at2 : ∀ q a b, (cs.toList.drop (q * 2)).take 2 = [a, b] → W.cell? ⟨1, 2 * q, none⟩ = some a ∧ W.cell? ⟨1, 2 * q + 1, none⟩ = some b := by
      intro q a b hq
      have u0 := congrArg (·[0]?) hq
      have u1 := congrArg (·[1]?) hq
      simp only [List.getElem?_take, List.getElem?_drop] at u0 u1
      refine ⟨?_, ?_⟩
      · rw [hcell]
        simpa [Nat.mul_comm] using u0
      · rw [hcell]
        simpa [Nat.mul_comm] using u1
    refine ⟨begins_cell h 0 (by decide), begins_cell h 1 (by decide), begins_cell h 2 (by decide), begins_cell h 3 (by decide), begins_cell h 4 (by decide), fun q hq => ?_, fun q hq => ?_⟩
    · rcases (by omega : q = 0 ∨ q = 1 ∨ q = 2 ∨ q = 3) with rfl | rfl | rfl | rfl
      · exact (at2 0 _ _ k0).1
      · exact (at2 1 _ _ k1).1
      · exact (at2 2 _ _ k2).1
      · exact (at2 3 _ _ k3).1
    · rcases (by omega : q = 0 ∨ q = 1 ∨ q = 2 ∨ q = 3) with rfl | rfl | rfl | rfl
      · exact (at2 0 _ _ k0).2
      · exact (at2 1 _ _ k1).2
      · exact (at2 2 _ _ k2).2
      · exact (at2 3 _ _ k3).2
section
variable {H : Type} {enc : TypeId × Value → H} {W : World} {base : Nat} {v : Value} {d : DataW H} {p : List MemPlace}
theorem wf_u8 {n : Int} (h : (Lit.int .u8 n).wf = true) : 0 ≤ n ∧ n < 256 := by
  obtain ⟨h1, h2⟩ := bounds_u8 h
  clear h
  omega
/-- An argument of type []byte. -/
theorem open_bytes (hv : Value.okWide Tryd.prog W .any base 22 v) (h : DataW.Trod enc Tryd.prog W 0 (fun _ => true) true 22 v d p) : ∃ l, BS AllB W v l := by
  obtain ⟨a, n, c, rfl⟩ := okWide_slice Tryd.underlying22 hv
  obtain ⟨fuel, hf⟩ := h
  rcases open_ints Tryd.underlying22 Tryd.underlying5 (by kernel_rfl) hf with ⟨hcs, _⟩ | ⟨x, l, c', zs, hcs, _, hl, hm, hz, _, hcell, hwz⟩
  · simp [Value.cells] at hcs
    obtain ⟨rfl, rfl, rfl⟩ := hcs
    exact ⟨[], BS.nil _ _⟩
  · simp [Value.cells] at hcs
    obtain ⟨rfl, rfl, rfl⟩ := hcs
    have hzl : zs.length = c := by simpa using hz
    refine ⟨(zs.take n).map fun z => UInt8.ofNat z.toNat, some x, c, ?_, ?_, by simpa [maxLen] using hm, (fun h => by cases h), fun h0 => ?_⟩
    · have : ((zs.take n).map fun z => UInt8.ofNat z.toNat).length = n := by simp; omega
      rw [this]
    · simp; omega
    · have hn : 0 < n := by simp at h0; omega
      obtain ⟨b, off, rfl, hc⟩ := ints_at hcell (by omega)
      refine ⟨b, off, rfl, trivial, fun j hj => ?_⟩
      have hj' : j < n := by simp at hj; omega
      rw [hc j (by omega)]
      have hw := wf_u8 (hwz zs[j] (List.getElem_mem (by omega)))
      simp [bv]
      simp [List.getElem?_eq_getElem (show j < zs.length by omega)]
      omega
theorem open_u8 (hv : Value.okWide Tryd.prog W .any base 5 v) (h : DataW.Trod enc Tryd.prog W 0 (fun _ => true) true 5 v d p) : ∃ a : Nat, a < 256 ∧ v = .int .u8 (a : Int) := by
  obtain ⟨x, rfl, rfl, rfl, wx⟩ := open_int Tryd.underlying5 hv h
  obtain ⟨h1, h2⟩ := wf_u8 wx
  clear wx hv h
  exact ⟨x.toNat, by omega, by rw [show ((x.toNat : Nat) : Int) = x by omega]⟩
theorem stays {t : TypeId} (hr : Tryd.prog.readableRec t = true) (hrow : t < Tryd.prog.types.size) {W' : World} (h : DataW.Trod enc Tryd.prog W 0 (fun _ => true) true t v d p) (hb : Below W.heap.size W W') :
    DataW.Trod enc Tryd.prog W' 0 (fun b => decide (b < W.heap.size)) true t v d p :=
  Below.trod laidOut hr hrow h hb (by obtain ⟨m, hm⟩ := h; exact DataW.trod_lt m _ _ _ hm)
end


def refill (cs : Array Value) : Obj → Obj
  | .cells _ t frozen => .cells cs t frozen
  | o => o
/-- A world for the witness: the settled one, the tables (blocks 0 and 1) holding what their initialisers lay. -/
noncomputable def laidWorld (os : Os) (args : Array Value) : World :=
  { World.holding Tryd.prog os ⟨#[], args, []⟩ with
    heap := ((World.holding Tryd.prog os ⟨#[], args, []⟩).heap.modify 0 (refill (begZ.map (Value.int .u32)).toArray)).modify 1 (refill #[.func (.func 40) #[] #[], .int .u32 1518500249, .func (.func 41) #[] #[], .int .u32 1859775393, .func (.func 42) #[] #[], .int .u32 2400959708, .func (.func 41) #[] #[], .int .u32 3395469782]) }
end Go.Proofs.YtdplpcmpjkcocaaDoor
