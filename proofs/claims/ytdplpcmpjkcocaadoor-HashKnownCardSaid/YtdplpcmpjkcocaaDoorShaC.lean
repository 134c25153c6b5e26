/- mixed: a hash with a block taken in. -/
import Derived.Test.YtdplpcmpjkcocaaDoorShaB
import Derived.BigQuiet
set_option linter.unusedVariables false
set_option linter.unusedSimpArgs false
namespace Go.Proofs.YtdplpcmpjkcocaaDoor
open Go.RowKit

def fnOf (q : Nat) : Nat := if q = 0 then 40 else if q = 2 then 42 else 41
/-- The package's tables. -/
structure HashOk (w : World) : Prop where
  b0 : w.cell? ⟨0, 0, none⟩ = some (.int .u32 1732584193)
  b1 : w.cell? ⟨0, 1, none⟩ = some (.int .u32 4023233417)
  b2 : w.cell? ⟨0, 2, none⟩ = some (.int .u32 2562383102)
  b3 : w.cell? ⟨0, 3, none⟩ = some (.int .u32 271733878)
  b4 : w.cell? ⟨0, 4, none⟩ = some (.int .u32 3285377520)
  tf : ∀ q, q < 4 → w.cell? ⟨1, 2 * q, none⟩ = some (.func (.func (fnOf q)) #[] #[])
  tk : ∀ q, q < 4 → w.cell? ⟨1, 2 * q + 1, none⟩ = some (.int .u32 ((kN q : Nat) : Int))
theorem HashOk.nob {w w' : World} (h : HashOk w) (k : Kp NoB w w') : HashOk w' :=
  ⟨k.cell h.b0 id, k.cell h.b1 id, k.cell h.b2 id, k.cell h.b3 id, k.cell h.b4 id, fun q hq => k.cell (h.tf q hq) id, fun q hq => k.cell (h.tk q hq) id⟩
/-- The five cells of a hash. -/
structure H5At (w : World) (g : Nat) (h : H5) : Prop where
  c0 : w.cell? ⟨g, 0, none⟩ = some (.int .u32 (h.a : Int))
  c1 : w.cell? ⟨g, 1, none⟩ = some (.int .u32 (h.b : Int))
  c2 : w.cell? ⟨g, 2, none⟩ = some (.int .u32 (h.c : Int))
  c3 : w.cell? ⟨g, 3, none⟩ = some (.int .u32 (h.d : Int))
  c4 : w.cell? ⟨g, 4, none⟩ = some (.int .u32 (h.e : Int))
  fz : ∀ i, i < 5 → w.frozen? ⟨g, i, none⟩ = false
theorem Kp.frozen {F : Nat → Prop} {w w' : World} (h : Kp F w w') {p : Addr} (hp : p.block < w.heap.size) (hF : ¬ F p.block) : w'.frozen? p = w.frozen? p := by
  have := h.block p.block hp hF
  unfold World.frozen?
  rw [this]
theorem H5At.kp {F : Nat → Prop} {w w' : World} {b : Nat} {h : H5} (x : H5At w b h) (k : Kp F w w') (hF : ¬ F b) : H5At w' b h :=
  ⟨k.cell x.c0 hF, k.cell x.c1 hF, k.cell x.c2 hF, k.cell x.c3 hF, k.cell x.c4 hF, fun i hi => (k.frozen (p := ⟨b, i, none⟩) (World.block_lt_of_cell? w ⟨b, 0, none⟩ x.c0) hF).trans (x.fz i hi)⟩
theorem roundsTo_ok (ws : List Nat) (s : H5) (hs : s.ok) : ∀ t, (roundsTo ws s t).ok
  | 0 => hs
  | t + 1 => by
    obtain ⟨ha, hb, hc, hd, he⟩ := roundsTo_ok ws s hs t
    exact ⟨Nat.mod_lt _ (by decide), ha, rotN_lt _ 30 hb (by simp), hc, hd⟩
def hagg (h : H5) : Value := .agg #[.int .u32 (h.a : Int), .int .u32 (h.b : Int), .int .u32 (h.c : Int), .int .u32 (h.d : Int), .int .u32 (h.e : Int)]
theorem frz_new (w : World) (cs : Array Value) (t : TypeId) (i : Nat) : (w.alloc (.cells cs t)).frozen? ⟨w.heap.size, i, none⟩ = false := by
  have hh := heap_alloc_new w (.cells cs t)
  simp only [World.frozen?, hh]
  simp
theorem cells5 (w : World) (cs : Array Value) (t : TypeId) (i : Nat) (v : Value) (hv : cs[i]? = some v) : (w.alloc (.cells cs t)).cell? ⟨w.heap.size, i, none⟩ = some v := by
  have hh := heap_alloc_new w (.cells cs t)
  simp only [World.cell?, hh]
  exact hv
theorem H5At.made (w : World) (h : H5) (t : TypeId) : H5At (w.alloc (.cells #[.int .u32 (h.a : Int), .int .u32 (h.b : Int), .int .u32 (h.c : Int), .int .u32 (h.d : Int), .int .u32 (h.e : Int)] t)) w.heap.size h :=
  ⟨cells5 w _ t 0 _ rfl, cells5 w _ t 1 _ rfl, cells5 w _ t 2 _ rfl, cells5 w _ t 3 _ rfl, cells5 w _ t 4 _ rfl, fun i _ => frz_new w _ t i⟩

theorem idx80 (ws : List Nat) (hl : ws.length = 80) (t : Nat) (ht : t < 80) (W : World) : (Instr.index 41 (.agg (w32s ws).toArray) (.int .i64 (t : Int))).run Tryd.prog W = .ok (.int .u32 ((ws.getD t 0 : Nat) : Int)) W := by
  have hg : (w32s ws).toArray[t]? = some (.int .u32 ((ws.getD t 0 : Nat) : Int)) := by
    have := w32s_get ws t (by rw [w32s_length]; omega)
    simp only [List.getElem?_toArray]
    rw [List.getElem?_eq_getElem (by rw [w32s_length]; omega), this]
  have hg2 : (w32s ws)[t]? = some (.int .u32 ((ws.getD t 0 : Nat) : Int)) := by simpa using hg
  simp [Instr.index, go_sem, Tryd.underlying41, ht, hg2]
theorem H5At.drew {w : World} {g : Nat} {s : H5} (x : H5At w g s) : H5At w.drew g s := x.kp ((Kp.refl NoB w).drew) id
theorem H5At.set0 {w : World} {g : Nat} {s : H5} (x : H5At w g s) (n : Nat) : H5At (w.setCell ⟨g, 0, none⟩ (.int .u32 (n : Int))) g { s with a := n } :=
  ⟨World.cell?_setCell_same _ _ _ x.c0, (World.cell?_setCell_other w ⟨g, 0, none⟩ ⟨g, 1, none⟩ _ (by intro h; injection h with _ h; exact absurd h (by decide))).trans x.c1, (World.cell?_setCell_other w ⟨g, 0, none⟩ ⟨g, 2, none⟩ _ (by intro h; injection h with _ h; exact absurd h (by decide))).trans x.c2, (World.cell?_setCell_other w ⟨g, 0, none⟩ ⟨g, 3, none⟩ _ (by intro h; injection h with _ h; exact absurd h (by decide))).trans x.c3, (World.cell?_setCell_other w ⟨g, 0, none⟩ ⟨g, 4, none⟩ _ (by intro h; injection h with _ h; exact absurd h (by decide))).trans x.c4, fun i hi => by rw [World.frozen?_setCell]; exact x.fz i hi⟩
theorem H5At.set1 {w : World} {g : Nat} {s : H5} (x : H5At w g s) (n : Nat) : H5At (w.setCell ⟨g, 1, none⟩ (.int .u32 (n : Int))) g { s with b := n } :=
  ⟨(World.cell?_setCell_other w ⟨g, 1, none⟩ ⟨g, 0, none⟩ _ (by intro h; injection h with _ h; exact absurd h (by decide))).trans x.c0, World.cell?_setCell_same _ _ _ x.c1, (World.cell?_setCell_other w ⟨g, 1, none⟩ ⟨g, 2, none⟩ _ (by intro h; injection h with _ h; exact absurd h (by decide))).trans x.c2, (World.cell?_setCell_other w ⟨g, 1, none⟩ ⟨g, 3, none⟩ _ (by intro h; injection h with _ h; exact absurd h (by decide))).trans x.c3, (World.cell?_setCell_other w ⟨g, 1, none⟩ ⟨g, 4, none⟩ _ (by intro h; injection h with _ h; exact absurd h (by decide))).trans x.c4, fun i hi => by rw [World.frozen?_setCell]; exact x.fz i hi⟩
theorem H5At.set2 {w : World} {g : Nat} {s : H5} (x : H5At w g s) (n : Nat) : H5At (w.setCell ⟨g, 2, none⟩ (.int .u32 (n : Int))) g { s with c := n } :=
  ⟨(World.cell?_setCell_other w ⟨g, 2, none⟩ ⟨g, 0, none⟩ _ (by intro h; injection h with _ h; exact absurd h (by decide))).trans x.c0, (World.cell?_setCell_other w ⟨g, 2, none⟩ ⟨g, 1, none⟩ _ (by intro h; injection h with _ h; exact absurd h (by decide))).trans x.c1, World.cell?_setCell_same _ _ _ x.c2, (World.cell?_setCell_other w ⟨g, 2, none⟩ ⟨g, 3, none⟩ _ (by intro h; injection h with _ h; exact absurd h (by decide))).trans x.c3, (World.cell?_setCell_other w ⟨g, 2, none⟩ ⟨g, 4, none⟩ _ (by intro h; injection h with _ h; exact absurd h (by decide))).trans x.c4, fun i hi => by rw [World.frozen?_setCell]; exact x.fz i hi⟩
theorem H5At.set3 {w : World} {g : Nat} {s : H5} (x : H5At w g s) (n : Nat) : H5At (w.setCell ⟨g, 3, none⟩ (.int .u32 (n : Int))) g { s with d := n } :=
  ⟨(World.cell?_setCell_other w ⟨g, 3, none⟩ ⟨g, 0, none⟩ _ (by intro h; injection h with _ h; exact absurd h (by decide))).trans x.c0, (World.cell?_setCell_other w ⟨g, 3, none⟩ ⟨g, 1, none⟩ _ (by intro h; injection h with _ h; exact absurd h (by decide))).trans x.c1, (World.cell?_setCell_other w ⟨g, 3, none⟩ ⟨g, 2, none⟩ _ (by intro h; injection h with _ h; exact absurd h (by decide))).trans x.c2, World.cell?_setCell_same _ _ _ x.c3, (World.cell?_setCell_other w ⟨g, 3, none⟩ ⟨g, 4, none⟩ _ (by intro h; injection h with _ h; exact absurd h (by decide))).trans x.c4, fun i hi => by rw [World.frozen?_setCell]; exact x.fz i hi⟩
theorem H5At.set4 {w : World} {g : Nat} {s : H5} (x : H5At w g s) (n : Nat) : H5At (w.setCell ⟨g, 4, none⟩ (.int .u32 (n : Int))) g { s with e := n } :=
  ⟨(World.cell?_setCell_other w ⟨g, 4, none⟩ ⟨g, 0, none⟩ _ (by intro h; injection h with _ h; exact absurd h (by decide))).trans x.c0, (World.cell?_setCell_other w ⟨g, 4, none⟩ ⟨g, 1, none⟩ _ (by intro h; injection h with _ h; exact absurd h (by decide))).trans x.c1, (World.cell?_setCell_other w ⟨g, 4, none⟩ ⟨g, 2, none⟩ _ (by intro h; injection h with _ h; exact absurd h (by decide))).trans x.c2, (World.cell?_setCell_other w ⟨g, 4, none⟩ ⟨g, 3, none⟩ _ (by intro h; injection h with _ h; exact absurd h (by decide))).trans x.c3, World.cell?_setCell_same _ _ _ x.c4, fun i hi => by rw [World.frozen?_setCell]; exact x.fz i hi⟩
/-- All five cells are stored. -/
theorem H5At.store5 {w : World} {g : Nat} {s : H5} (x : H5At w g s) (n : H5) : H5At (((((w.setCell ⟨g, 0, none⟩ (.int .u32 (n.a : Int))).setCell ⟨g, 1, none⟩ (.int .u32 (n.b : Int))).setCell ⟨g, 2, none⟩ (.int .u32 (n.c : Int))).setCell ⟨g, 3, none⟩ (.int .u32 (n.d : Int))).setCell ⟨g, 4, none⟩ (.int .u32 (n.e : Int))) g n := by
  have far : ∀ (w : World) (i j : Nat) (u v : Value), w.cell? ⟨g, j, none⟩ = some u → i ≠ j → (w.setCell ⟨g, i, none⟩ v).cell? ⟨g, j, none⟩ = some u := fun w i j u v h hne =>
    (World.cell?_setCell_other w ⟨g, i, none⟩ ⟨g, j, none⟩ v (by intro h; injection h with _ h; exact hne h)).trans h
  have same : ∀ (w : World) (i : Nat) (u v : Value), w.cell? ⟨g, i, none⟩ = some u → (w.setCell ⟨g, i, none⟩ v).cell? ⟨g, i, none⟩ = some v := fun w i u v h => World.cell?_setCell_same _ _ _ h
  refine ⟨?_, ?_, ?_, ?_, ?_, fun i hi => ?_⟩
  · exact far _ _ _ _ _ (far _ _ _ _ _ (far _ _ _ _ _ (far _ _ _ _ _ (same _ _ _ _ x.c0) (by decide)) (by decide)) (by decide)) (by decide)
  · exact far _ _ _ _ _ (far _ _ _ _ _ (far _ _ _ _ _ (same _ _ _ _ (far _ _ _ _ _ x.c1 (by decide))) (by decide)) (by decide)) (by decide)
  · exact far _ _ _ _ _ (far _ _ _ _ _ (same _ _ _ _ (far _ _ _ _ _ (far _ _ _ _ _ x.c2 (by decide)) (by decide))) (by decide)) (by decide)
  · exact far _ _ _ _ _ (same _ _ _ _ (far _ _ _ _ _ (far _ _ _ _ _ (far _ _ _ _ _ x.c3 (by decide)) (by decide)) (by decide))) (by decide)
  · exact same _ _ _ _ (far _ _ _ _ _ (far _ _ _ _ _ (far _ _ _ _ _ (far _ _ _ _ _ x.c4 (by decide)) (by decide)) (by decide)) (by decide))
  · simp only [World.frozen?_setCell]
    exact x.fz i hi
theorem kp_store5 (w : World) (g : Nat) (n : H5) : Kp (fun k => k = g) w (((((w.setCell ⟨g, 0, none⟩ (.int .u32 (n.a : Int))).setCell ⟨g, 1, none⟩ (.int .u32 (n.b : Int))).setCell ⟨g, 2, none⟩ (.int .u32 (n.c : Int))).setCell ⟨g, 3, none⟩ (.int .u32 (n.d : Int))).setCell ⟨g, 4, none⟩ (.int .u32 (n.e : Int))) :=
  (((kp_set'.trans kp_set').trans kp_set').trans kp_set').trans kp_set'
theorem H5At.range {w : World} {g : Nat} {s : H5} (x : H5At w g s) : w.rangeAt g 0 [.int .u32 (s.a : Int), .int .u32 (s.b : Int), .int .u32 (s.c : Int), .int .u32 (s.d : Int), .int .u32 (s.e : Int)] := fun j v hv => by
  rw [Nat.zero_add]
  match j, hv with
  | 0, hv => obtain rfl := Option.some.inj hv; exact x.c0
  | 1, hv => obtain rfl := Option.some.inj hv; exact x.c1
  | 2, hv => obtain rfl := Option.some.inj hv; exact x.c2
  | 3, hv => obtain rfl := Option.some.inj hv; exact x.c3
  | 4, hv => obtain rfl := Option.some.inj hv; exact x.c4
  | j + 5, hv => simp at hv
theorem results_cell_mid {P : Program} {fn : Func} {p : Tmp} {ty : TypeId} (h : fn.results = #[.cell p ty]) (tmps : Array Value) (w : World) (g : Nat) (cs : List Value) (d : TypeDesc)
    (hp : tmps.getD p undef = .pointer (some ⟨g, 0, none⟩)) (hc : w.rangeAt g 0 cs) (hu : P.underlying ty = some d) (hd : d.isRow = true) (hi : (P.info? ty).map (·.size) = some cs.length) :
    (results fn tmps).run P w = .ok (.agg cs.toArray) w := by
  have hp' : tmps[p]?.getD undef = .pointer (some ⟨g, 0, none⟩) := by simpa using hp
  simp [results, h, hp', asAddr, run_loadVar_mid w g 0 ty cs d hc hu hd hi]
/-- A struct of two cells is laid and filled. -/
theorem turn_made (w : World) (t : TypeId) (u v : Value) : ∃ w8, w8.cell? ⟨w.heap.size, 0, none⟩ = some u ∧ w8.cell? ⟨w.heap.size, 1, none⟩ = some v ∧ Kp NoB w w8 ∧ w8 = (w.alloc (.cells #[.nilFunc, .int .u32 0] t)).setCells w.heap.size 0 #[u, v].toList := by
  have h := (Arr.made t w [.nilFunc, .int .u32 0] (by decide)).setWhole [u, v] rfl
  exact ⟨_, h.at_ 0 (by simp), h.at_ 1 (by simp), Kp.setCells _ (.inl (Nat.le_refl _)) _ _ _ ((Kp.refl _ _).alloc _), rfl⟩
def mixTo (h x : H5) (k : Nat) : H5 := ⟨if 0 < k then (h.a + x.a) % 4294967296 else h.a, if 1 < k then (h.b + x.b) % 4294967296 else h.b, if 2 < k then (h.c + x.c) % 4294967296 else h.c, if 3 < k then (h.d + x.d) % 4294967296 else h.d, if 4 < k then (h.e + x.e) % 4294967296 else h.e⟩
/-- What is made of three words, by the function of a quarter. -/
theorem fn_calls (q : Nat) (b c d : Nat) (hb : b < 4294967296) (hc : c < 4294967296) (hd : d < 4294967296) (w : World) : Calls Tryd.prog (fnOf q) #[.int .u32 b, .int .u32 c, .int .u32 d] w fun e w' => e = .returned (.int .u32 (fN q b c d : Nat)) ∧ w' = w := by
  unfold fnOf fN
  split
  · exact (choice_calls b c d hb hc hd w).mono fun e w' h => ⟨h.1, h.2.symm⟩
  · split
    · exact (most_calls b c d hb hc hd w).mono fun e w' h => ⟨h.1, h.2.symm⟩
    · exact (parity_calls b c d hb hc hd w).mono fun e w' h => ⟨h.1, h.2.symm⟩

set_option maxRecDepth 100000 in
set_option maxHeartbeats 8000000 in
theorem mixed_calls (h : H5) (hh : h.ok) (l : List UInt8) (v : Value) (w : World) (hT : HashOk w) (hv : BS AllB w v l) (hl : l.length = 64) :
    Calls Tryd.prog 16 #[.agg #[.int .u32 (h.a : Int), .int .u32 (h.b : Int), .int .u32 (h.c : Int), .int .u32 (h.d : Int), .int .u32 (h.e : Int)], v] w fun e w' => e = .returned (hagg (mixN h l)) ∧ Kp NoB w w' := by
  obtain ⟨A, c, rfl⟩ := hv.len
  have HV := Lib.hid hv
  have HT := Lib.hid hT
  have HL := Lib.hid hl
  clear hv hT hl
  go_enter Tryd.func16, Tryd.ntmps16
  have a0 := H5At.made w h 35
  have a1 := H5At.made (w.alloc (.cells #[.int .u32 (h.a : Int), .int .u32 (h.b : Int), .int .u32 (h.c : Int), .int .u32 (h.d : Int), .int .u32 (h.e : Int)] 35)) ⟨0, 0, 0, 0, 0⟩ 35
  have a2 := H5At.made ((w.alloc (.cells #[.int .u32 (h.a : Int), .int .u32 (h.b : Int), .int .u32 (h.c : Int), .int .u32 (h.d : Int), .int .u32 (h.e : Int)] 35)).alloc (.cells #[.int .u32 0, .int .u32 0, .int .u32 0, .int .u32 0, .int .u32 0] 35)) h 35
  have k1 : Kp NoB w (w.alloc (.cells #[.int .u32 (h.a : Int), .int .u32 (h.b : Int), .int .u32 (h.c : Int), .int .u32 (h.d : Int), .int .u32 (h.e : Int)] 35)) := (Kp.refl _ _).alloc _
  have k2 := (Kp.refl NoB (w.alloc (.cells #[.int .u32 (h.a : Int), .int .u32 (h.b : Int), .int .u32 (h.c : Int), .int .u32 (h.d : Int), .int .u32 (h.e : Int)] 35))).alloc (.cells #[.int .u32 0, .int .u32 0, .int .u32 0, .int .u32 0, .int .u32 0] 35)
  have k3 := (Kp.refl NoB ((w.alloc (.cells #[.int .u32 (h.a : Int), .int .u32 (h.b : Int), .int .u32 (h.c : Int), .int .u32 (h.d : Int), .int .u32 (h.e : Int)] 35)).alloc (.cells #[.int .u32 0, .int .u32 0, .int .u32 0, .int .u32 0, .int .u32 0] 35))).alloc (.cells #[.int .u32 (h.a : Int), .int .u32 (h.b : Int), .int .u32 (h.c : Int), .int .u32 (h.d : Int), .int .u32 (h.e : Int)] 35)
  have e1 : (w.alloc (.cells #[.int .u32 (h.a : Int), .int .u32 (h.b : Int), .int .u32 (h.c : Int), .int .u32 (h.d : Int), .int .u32 (h.e : Int)] 35)).heap.size = w.heap.size + 1 := by simp
  have e2 : ((w.alloc (.cells #[.int .u32 (h.a : Int), .int .u32 (h.b : Int), .int .u32 (h.c : Int), .int .u32 (h.d : Int), .int .u32 (h.e : Int)] 35)).alloc (.cells #[.int .u32 0, .int .u32 0, .int .u32 0, .int .u32 0, .int .u32 0] 35)).heap.size = w.heap.size + 1 + 1 := by simp
  rw [e1] at a1
  rw [e2] at a2
  have A0 := Lib.hid ((a0.kp k2 id).kp k3 id)
  have A1 := Lib.hid (a1.kp k3 id)
  have A2 := Lib.hid a2
  have KW := Lib.hid ((k1.trans k2).trans k3)
  clear a0 a1 a2 k1 k2 k3 e1 e2
  go_wp2_with fail
  have A0 := A0.out
  have A1 := A1.out
  have A2 := A2.out
  have KW := KW.out
  generalize ((w.alloc (.cells #[.int .u32 (h.a : Int), .int .u32 (h.b : Int), .int .u32 (h.c : Int), .int .u32 (h.d : Int), .int .u32 (h.e : Int)] 35)).alloc (.cells #[.int .u32 0, .int .u32 0, .int .u32 0, .int .u32 0, .int .u32 0] 35)).alloc (.cells #[.int .u32 (h.a : Int), .int .u32 (h.b : Int), .int .u32 (h.c : Int), .int .u32 (h.d : Int), .int .u32 (h.e : Int)] 35) = w3 at *
  refine (words_calls l _ w3 (HV.out.nob KW) HL.out).mono ?_
  rintro e w4 ⟨rfl, k4⟩
  have A0 := A0.kp k4 id
  have A1 := A1.kp k4 id
  have A2 := A2.kp k4 id
  have KW := KW.trans k4
  have hwl := wordsTo_length l 80
  have hwb := wordsTo_lt l 80
  have hmx : mixN h l = addH h (roundsTo (wordsTo l 80) h 80) := rfl
  generalize wordsTo l 80 = ws at *
  have HW := Lib.hid hwl
  have HB := Lib.hid hwb
  have HM := Lib.hid hmx
  have HH := Lib.hid hh
  clear k4 hwl hwb hmx hh
  go_wp2_with fail
  go_loopw [14] (fun i wr => ∃ t : Nat, t ≤ 80 ∧ i = .int .i64 t ∧ H5At wr (w.heap.size + 1 + 1) (roundsTo ws h t) ∧ H5At wr (w.heap.size + 1) ⟨0, 0, 0, 0, 0⟩ ∧ H5At wr w.heap.size h ∧ Kp NoB w wr) (fun i _ => 80 - (intOf i).toNat)
  case atStart => exact ⟨0, Nat.zero_le _, rfl, A2, A1, A0, KW⟩
  case round =>
    obtain ⟨t, ht, rfl, x2, x1, x0, hk⟩ := hrel
    by_cases hlt : t < 80
    · have hix := idx80 ws HW.out t hlt
      have hok := roundsTo_ok ws h HH.out t
      have hwt := getD_lt ws HB.out t
      have hst : Hid (roundsTo ws h (t + 1) = stepH (t / 20) (ws.getD t 0) (roundsTo ws h t)) := Lib.hid rfl
      have hq4 : t / 20 < 4 := by omega
      have hq5 : (t : Int) / 20 = ((t / 20 : Nat) : Int) := by omega
      have g1 := HT.out.nob hk
      generalize ws.getD t 0 = wt at *
      generalize roundsTo ws h t = s at *
      obtain ⟨sa, sb, sc, sd, se⟩ := s
      obtain ⟨oa, ob, oc, od, oe⟩ := hok
      simp only at oa ob oc od oe
      obtain ⟨q, hq⟩ : ∃ q, q = t / 20 := ⟨_, rfl⟩
      rw [← hq] at hst hq4 hq5
      clear hq
      rcases (by omega : q = 0 ∨ q = 1 ∨ q = 2 ∨ q = 3) with rfl | rfl | rfl | rfl
      · have t1 := g1.tf 0 (by decide)
        have t2 := g1.tk 0 (by decide)
        change wr.cell? ⟨1, 0, none⟩ = some (.func (.func 40) #[] #[]) at t1
        change wr.cell? ⟨1, 1, none⟩ = some (.int .u32 1518500249) at t2
        have r5 := fun W : World => (rot5_calls sa oa W).mono (R' := fun e w' => e = .returned (.int .u32 (rotN sa 5 : Nat)) ∧ w' = W) fun e w' h => ⟨h.1, h.2.symm⟩
        have fq := fun W : World => fn_calls 0 sb sc sd ob oc od W
        have X2 := Lib.hid x2
        have X1 := Lib.hid x1
        have X0 := Lib.hid x0
        have HK := Lib.hid hk
        have bw := x2.c0
        have bw := World.block_lt_of_cell? wr _ bw
        simp only at bw
        clear x2 x1 x0 hk g1
        go_wp2_with (first
          | ((with_reducible refine gate_op (Op.store 50 (.tmp 8) (.tmp 21)) rfl ?_); go_must (refine wpList_store_mid rfl 50 _ _ rfl wr.heap.size 0 #[.func (.func 40) #[] #[], .int .u32 1518500249] rfl rfl (Arr.made 50 wr [.nilFunc, .int .u32 0] (by decide)).there (by kernel_rfl) (by simp [Value.oneCell']) ?_); obtain ⟨w8, n1, n2, k8, hw8⟩ := turn_made wr 50 (.func (.func 40) #[] #[]) (.int .u32 1518500249); rw [← hw8]; clear hw8)
          | fail)
        clear t1 t2 hix
        have y2 := X2.out.kp k8 id
        have X1 := Lib.hid (X1.out.kp k8 id)
        have X0 := Lib.hid (X0.out.kp k8 id)
        have HK := Lib.hid (HK.out.trans k8)
        have z0 := y2.c0
        have z1 := y2.c1
        have z2 := y2.c2
        have z3 := y2.c3
        have z4 := y2.c4
        simp only at z0 z1 z2 z3 z4
        have Y2 := Lib.hid y2
        clear y2 k8
        go_quiet (first | (go_at_call 22; exact Calls.quiet_of_same (r5 _)) | (go_at_call 40; exact Calls.quiet_of_same (fq _)))
        obtain ⟨na, hna⟩ : ∃ na : Nat, na = (rotN sa 5 + fN 0 sb sc sd + se + 1518500249 + wt) % 4294967296 := ⟨_, rfl⟩
        have hni : (((rotN sa 5 : Nat) : Int) + ((fN 0 sb sc sd : Nat) : Int) + (se : Int) + 1518500249) % 4294967296 + (wt : Int) = ((((rotN sa 5 : Nat) : Int) + ((fN 0 sb sc sd : Nat) : Int) + (se : Int) + 1518500249) % 4294967296 + (wt : Int)) := rfl
        have hnj : ((((rotN sa 5 : Nat) : Int) + ((fN 0 sb sc sd : Nat) : Int) + (se : Int) + 1518500249) % 4294967296 + (wt : Int)) % 4294967296 = (na : Int) := by omega
        rw [hnj]
        have HNA := Lib.hid hna
        clear hni hnj hna z0 z1 z2 z3 z4 n1 n2
        have y3 := Y2.out.kp ((Kp.refl NoB w8).drewN nq) id
        have X1 := Lib.hid (X1.out.kp ((Kp.refl NoB w8).drewN nq) id)
        have X0 := Lib.hid (X0.out.kp ((Kp.refl NoB w8).drewN nq) id)
        have HK := Lib.hid (HK.out.drewN nq)
        generalize w8.drewN nq = wz at *
        have z0 := y3.c0
        have z1 := y3.c1
        have z2 := y3.c2
        have z3 := y3.c3
        have z4 := y3.c4
        have f0 := y3.fz 0 (by decide)
        have f1 := y3.fz 1 (by decide)
        have f2 := y3.fz 2 (by decide)
        have f3 := y3.fz 3 (by decide)
        have f4 := y3.fz 4 (by decide)
        simp only at z0 z1 z2 z3 z4
        have Y3 := Lib.hid y3
        have hr := (rot30_calls sb ob wz.drew).mono (R' := fun e w' => e = .returned (.int .u32 (rotN sb 30 : Nat)) ∧ w' = wz.drew) fun e w' h => ⟨h.1, h.2.symm⟩
        clear y3 r5 fq Y2
        go_wp2_with fail
        refine wp_region_still_tail 11 (by kernel_rfl) (by kernel_rfl) ?_
        simp only [List.take_succ_cons, List.take_zero, List.drop_succ_cons, List.drop_zero]
        repeat (first | still_call hr | still_step)
        change wpList _ _ _ _ _ wz.drew
        clear hr
        go_wp2_with fail
        go_roundw
        case measure => simp [intOf]; omega
        case rel =>
          have hs5 := Y3.out.store5 ⟨na, sa, rotN sb 30, sc, sd⟩
          have hk5 := kp_store5 wz (w.heap.size + 1 + 1) ⟨na, sa, rotN sb 30, sc, sd⟩
          refine ⟨t + 1, by omega, by go_num, ?_, (X1.out.kp hk5 (by omega)).drew, (X0.out.kp hk5 (by omega)).drew, ?_⟩
          · rw [hst.out]
            have e : stepH 0 wt ⟨sa, sb, sc, sd, se⟩ = ⟨na, sa, rotN sb 30, sc, sd⟩ := by rw [HNA.out]; rfl
            rw [e]
            exact hs5.drew
          · exact (HK.out.step hk5 fun i hi he => absurd hi (by omega)).drew
      · have t1 := g1.tf 1 (by decide)
        have t2 := g1.tk 1 (by decide)
        change wr.cell? ⟨1, 2, none⟩ = some (.func (.func 41) #[] #[]) at t1
        change wr.cell? ⟨1, 3, none⟩ = some (.int .u32 1859775393) at t2
        have r5 := fun W : World => (rot5_calls sa oa W).mono (R' := fun e w' => e = .returned (.int .u32 (rotN sa 5 : Nat)) ∧ w' = W) fun e w' h => ⟨h.1, h.2.symm⟩
        have fq := fun W : World => fn_calls 1 sb sc sd ob oc od W
        have X2 := Lib.hid x2
        have X1 := Lib.hid x1
        have X0 := Lib.hid x0
        have HK := Lib.hid hk
        have bw := x2.c0
        have bw := World.block_lt_of_cell? wr _ bw
        simp only at bw
        clear x2 x1 x0 hk g1
        go_wp2_with (first
          | ((with_reducible refine gate_op (Op.store 50 (.tmp 8) (.tmp 21)) rfl ?_); go_must (refine wpList_store_mid rfl 50 _ _ rfl wr.heap.size 0 #[.func (.func 41) #[] #[], .int .u32 1859775393] rfl rfl (Arr.made 50 wr [.nilFunc, .int .u32 0] (by decide)).there (by kernel_rfl) (by simp [Value.oneCell']) ?_); obtain ⟨w8, n1, n2, k8, hw8⟩ := turn_made wr 50 (.func (.func 41) #[] #[]) (.int .u32 1859775393); rw [← hw8]; clear hw8)
          | fail)
        clear t1 t2 hix
        have y2 := X2.out.kp k8 id
        have X1 := Lib.hid (X1.out.kp k8 id)
        have X0 := Lib.hid (X0.out.kp k8 id)
        have HK := Lib.hid (HK.out.trans k8)
        have z0 := y2.c0
        have z1 := y2.c1
        have z2 := y2.c2
        have z3 := y2.c3
        have z4 := y2.c4
        simp only at z0 z1 z2 z3 z4
        have Y2 := Lib.hid y2
        clear y2 k8
        go_quiet (first | (go_at_call 22; exact Calls.quiet_of_same (r5 _)) | (go_at_call 41; exact Calls.quiet_of_same (fq _)))
        obtain ⟨na, hna⟩ : ∃ na : Nat, na = (rotN sa 5 + fN 1 sb sc sd + se + 1859775393 + wt) % 4294967296 := ⟨_, rfl⟩
        have hni : (((rotN sa 5 : Nat) : Int) + ((fN 1 sb sc sd : Nat) : Int) + (se : Int) + 1859775393) % 4294967296 + (wt : Int) = ((((rotN sa 5 : Nat) : Int) + ((fN 1 sb sc sd : Nat) : Int) + (se : Int) + 1859775393) % 4294967296 + (wt : Int)) := rfl
        have hnj : ((((rotN sa 5 : Nat) : Int) + ((fN 1 sb sc sd : Nat) : Int) + (se : Int) + 1859775393) % 4294967296 + (wt : Int)) % 4294967296 = (na : Int) := by omega
        rw [hnj]
        have HNA := Lib.hid hna
        clear hni hnj hna z0 z1 z2 z3 z4 n1 n2
        have y3 := Y2.out.kp ((Kp.refl NoB w8).drewN nq) id
        have X1 := Lib.hid (X1.out.kp ((Kp.refl NoB w8).drewN nq) id)
        have X0 := Lib.hid (X0.out.kp ((Kp.refl NoB w8).drewN nq) id)
        have HK := Lib.hid (HK.out.drewN nq)
        generalize w8.drewN nq = wz at *
        have z0 := y3.c0
        have z1 := y3.c1
        have z2 := y3.c2
        have z3 := y3.c3
        have z4 := y3.c4
        have f0 := y3.fz 0 (by decide)
        have f1 := y3.fz 1 (by decide)
        have f2 := y3.fz 2 (by decide)
        have f3 := y3.fz 3 (by decide)
        have f4 := y3.fz 4 (by decide)
        simp only at z0 z1 z2 z3 z4
        have Y3 := Lib.hid y3
        have hr := (rot30_calls sb ob wz.drew).mono (R' := fun e w' => e = .returned (.int .u32 (rotN sb 30 : Nat)) ∧ w' = wz.drew) fun e w' h => ⟨h.1, h.2.symm⟩
        clear y3 r5 fq Y2
        go_wp2_with fail
        refine wp_region_still_tail 11 (by kernel_rfl) (by kernel_rfl) ?_
        simp only [List.take_succ_cons, List.take_zero, List.drop_succ_cons, List.drop_zero]
        repeat (first | still_call hr | still_step)
        change wpList _ _ _ _ _ wz.drew
        clear hr
        go_wp2_with fail
        go_roundw
        case measure => simp [intOf]; omega
        case rel =>
          have hs5 := Y3.out.store5 ⟨na, sa, rotN sb 30, sc, sd⟩
          have hk5 := kp_store5 wz (w.heap.size + 1 + 1) ⟨na, sa, rotN sb 30, sc, sd⟩
          refine ⟨t + 1, by omega, by go_num, ?_, (X1.out.kp hk5 (by omega)).drew, (X0.out.kp hk5 (by omega)).drew, ?_⟩
          · rw [hst.out]
            have e : stepH 1 wt ⟨sa, sb, sc, sd, se⟩ = ⟨na, sa, rotN sb 30, sc, sd⟩ := by rw [HNA.out]; rfl
            rw [e]
            exact hs5.drew
          · exact (HK.out.step hk5 fun i hi he => absurd hi (by omega)).drew
      · have t1 := g1.tf 2 (by decide)
        have t2 := g1.tk 2 (by decide)
        change wr.cell? ⟨1, 4, none⟩ = some (.func (.func 42) #[] #[]) at t1
        change wr.cell? ⟨1, 5, none⟩ = some (.int .u32 2400959708) at t2
        have r5 := fun W : World => (rot5_calls sa oa W).mono (R' := fun e w' => e = .returned (.int .u32 (rotN sa 5 : Nat)) ∧ w' = W) fun e w' h => ⟨h.1, h.2.symm⟩
        have fq := fun W : World => fn_calls 2 sb sc sd ob oc od W
        have X2 := Lib.hid x2
        have X1 := Lib.hid x1
        have X0 := Lib.hid x0
        have HK := Lib.hid hk
        have bw := x2.c0
        have bw := World.block_lt_of_cell? wr _ bw
        simp only at bw
        clear x2 x1 x0 hk g1
        go_wp2_with (first
          | ((with_reducible refine gate_op (Op.store 50 (.tmp 8) (.tmp 21)) rfl ?_); go_must (refine wpList_store_mid rfl 50 _ _ rfl wr.heap.size 0 #[.func (.func 42) #[] #[], .int .u32 2400959708] rfl rfl (Arr.made 50 wr [.nilFunc, .int .u32 0] (by decide)).there (by kernel_rfl) (by simp [Value.oneCell']) ?_); obtain ⟨w8, n1, n2, k8, hw8⟩ := turn_made wr 50 (.func (.func 42) #[] #[]) (.int .u32 2400959708); rw [← hw8]; clear hw8)
          | fail)
        clear t1 t2 hix
        have y2 := X2.out.kp k8 id
        have X1 := Lib.hid (X1.out.kp k8 id)
        have X0 := Lib.hid (X0.out.kp k8 id)
        have HK := Lib.hid (HK.out.trans k8)
        have z0 := y2.c0
        have z1 := y2.c1
        have z2 := y2.c2
        have z3 := y2.c3
        have z4 := y2.c4
        simp only at z0 z1 z2 z3 z4
        have Y2 := Lib.hid y2
        clear y2 k8
        go_quiet (first | (go_at_call 22; exact Calls.quiet_of_same (r5 _)) | (go_at_call 42; exact Calls.quiet_of_same (fq _)))
        obtain ⟨na, hna⟩ : ∃ na : Nat, na = (rotN sa 5 + fN 2 sb sc sd + se + 2400959708 + wt) % 4294967296 := ⟨_, rfl⟩
        have hni : (((rotN sa 5 : Nat) : Int) + ((fN 2 sb sc sd : Nat) : Int) + (se : Int) + 2400959708) % 4294967296 + (wt : Int) = ((((rotN sa 5 : Nat) : Int) + ((fN 2 sb sc sd : Nat) : Int) + (se : Int) + 2400959708) % 4294967296 + (wt : Int)) := rfl
        have hnj : ((((rotN sa 5 : Nat) : Int) + ((fN 2 sb sc sd : Nat) : Int) + (se : Int) + 2400959708) % 4294967296 + (wt : Int)) % 4294967296 = (na : Int) := by omega
        rw [hnj]
        have HNA := Lib.hid hna
        clear hni hnj hna z0 z1 z2 z3 z4 n1 n2
        have y3 := Y2.out.kp ((Kp.refl NoB w8).drewN nq) id
        have X1 := Lib.hid (X1.out.kp ((Kp.refl NoB w8).drewN nq) id)
        have X0 := Lib.hid (X0.out.kp ((Kp.refl NoB w8).drewN nq) id)
        have HK := Lib.hid (HK.out.drewN nq)
        generalize w8.drewN nq = wz at *
        have z0 := y3.c0
        have z1 := y3.c1
        have z2 := y3.c2
        have z3 := y3.c3
        have z4 := y3.c4
        have f0 := y3.fz 0 (by decide)
        have f1 := y3.fz 1 (by decide)
        have f2 := y3.fz 2 (by decide)
        have f3 := y3.fz 3 (by decide)
        have f4 := y3.fz 4 (by decide)
        simp only at z0 z1 z2 z3 z4
        have Y3 := Lib.hid y3
        have hr := (rot30_calls sb ob wz.drew).mono (R' := fun e w' => e = .returned (.int .u32 (rotN sb 30 : Nat)) ∧ w' = wz.drew) fun e w' h => ⟨h.1, h.2.symm⟩
        clear y3 r5 fq Y2
        go_wp2_with fail
        refine wp_region_still_tail 11 (by kernel_rfl) (by kernel_rfl) ?_
        simp only [List.take_succ_cons, List.take_zero, List.drop_succ_cons, List.drop_zero]
        repeat (first | still_call hr | still_step)
        change wpList _ _ _ _ _ wz.drew
        clear hr
        go_wp2_with fail
        go_roundw
        case measure => simp [intOf]; omega
        case rel =>
          have hs5 := Y3.out.store5 ⟨na, sa, rotN sb 30, sc, sd⟩
          have hk5 := kp_store5 wz (w.heap.size + 1 + 1) ⟨na, sa, rotN sb 30, sc, sd⟩
          refine ⟨t + 1, by omega, by go_num, ?_, (X1.out.kp hk5 (by omega)).drew, (X0.out.kp hk5 (by omega)).drew, ?_⟩
          · rw [hst.out]
            have e : stepH 2 wt ⟨sa, sb, sc, sd, se⟩ = ⟨na, sa, rotN sb 30, sc, sd⟩ := by rw [HNA.out]; rfl
            rw [e]
            exact hs5.drew
          · exact (HK.out.step hk5 fun i hi he => absurd hi (by omega)).drew
      · have t1 := g1.tf 3 (by decide)
        have t2 := g1.tk 3 (by decide)
        change wr.cell? ⟨1, 6, none⟩ = some (.func (.func 41) #[] #[]) at t1
        change wr.cell? ⟨1, 7, none⟩ = some (.int .u32 3395469782) at t2
        have r5 := fun W : World => (rot5_calls sa oa W).mono (R' := fun e w' => e = .returned (.int .u32 (rotN sa 5 : Nat)) ∧ w' = W) fun e w' h => ⟨h.1, h.2.symm⟩
        have fq := fun W : World => fn_calls 3 sb sc sd ob oc od W
        have X2 := Lib.hid x2
        have X1 := Lib.hid x1
        have X0 := Lib.hid x0
        have HK := Lib.hid hk
        have bw := x2.c0
        have bw := World.block_lt_of_cell? wr _ bw
        simp only at bw
        clear x2 x1 x0 hk g1
        go_wp2_with (first
          | ((with_reducible refine gate_op (Op.store 50 (.tmp 8) (.tmp 21)) rfl ?_); go_must (refine wpList_store_mid rfl 50 _ _ rfl wr.heap.size 0 #[.func (.func 41) #[] #[], .int .u32 3395469782] rfl rfl (Arr.made 50 wr [.nilFunc, .int .u32 0] (by decide)).there (by kernel_rfl) (by simp [Value.oneCell']) ?_); obtain ⟨w8, n1, n2, k8, hw8⟩ := turn_made wr 50 (.func (.func 41) #[] #[]) (.int .u32 3395469782); rw [← hw8]; clear hw8)
          | fail)
        clear t1 t2 hix
        have y2 := X2.out.kp k8 id
        have X1 := Lib.hid (X1.out.kp k8 id)
        have X0 := Lib.hid (X0.out.kp k8 id)
        have HK := Lib.hid (HK.out.trans k8)
        have z0 := y2.c0
        have z1 := y2.c1
        have z2 := y2.c2
        have z3 := y2.c3
        have z4 := y2.c4
        simp only at z0 z1 z2 z3 z4
        have Y2 := Lib.hid y2
        clear y2 k8
        go_quiet (first | (go_at_call 22; exact Calls.quiet_of_same (r5 _)) | (go_at_call 41; exact Calls.quiet_of_same (fq _)))
        obtain ⟨na, hna⟩ : ∃ na : Nat, na = (rotN sa 5 + fN 3 sb sc sd + se + 3395469782 + wt) % 4294967296 := ⟨_, rfl⟩
        have hni : (((rotN sa 5 : Nat) : Int) + ((fN 3 sb sc sd : Nat) : Int) + (se : Int) + 3395469782) % 4294967296 + (wt : Int) = ((((rotN sa 5 : Nat) : Int) + ((fN 3 sb sc sd : Nat) : Int) + (se : Int) + 3395469782) % 4294967296 + (wt : Int)) := rfl
        have hnj : ((((rotN sa 5 : Nat) : Int) + ((fN 3 sb sc sd : Nat) : Int) + (se : Int) + 3395469782) % 4294967296 + (wt : Int)) % 4294967296 = (na : Int) := by omega
        rw [hnj]
        have HNA := Lib.hid hna
        clear hni hnj hna z0 z1 z2 z3 z4 n1 n2
        have y3 := Y2.out.kp ((Kp.refl NoB w8).drewN nq) id
        have X1 := Lib.hid (X1.out.kp ((Kp.refl NoB w8).drewN nq) id)
        have X0 := Lib.hid (X0.out.kp ((Kp.refl NoB w8).drewN nq) id)
        have HK := Lib.hid (HK.out.drewN nq)
        generalize w8.drewN nq = wz at *
        have z0 := y3.c0
        have z1 := y3.c1
        have z2 := y3.c2
        have z3 := y3.c3
        have z4 := y3.c4
        have f0 := y3.fz 0 (by decide)
        have f1 := y3.fz 1 (by decide)
        have f2 := y3.fz 2 (by decide)
        have f3 := y3.fz 3 (by decide)
        have f4 := y3.fz 4 (by decide)
        simp only at z0 z1 z2 z3 z4
        have Y3 := Lib.hid y3
        have hr := (rot30_calls sb ob wz.drew).mono (R' := fun e w' => e = .returned (.int .u32 (rotN sb 30 : Nat)) ∧ w' = wz.drew) fun e w' h => ⟨h.1, h.2.symm⟩
        clear y3 r5 fq Y2
        go_wp2_with fail
        refine wp_region_still_tail 11 (by kernel_rfl) (by kernel_rfl) ?_
        simp only [List.take_succ_cons, List.take_zero, List.drop_succ_cons, List.drop_zero]
        repeat (first | still_call hr | still_step)
        change wpList _ _ _ _ _ wz.drew
        clear hr
        go_wp2_with fail
        go_roundw
        case measure => simp [intOf]; omega
        case rel =>
          have hs5 := Y3.out.store5 ⟨na, sa, rotN sb 30, sc, sd⟩
          have hk5 := kp_store5 wz (w.heap.size + 1 + 1) ⟨na, sa, rotN sb 30, sc, sd⟩
          refine ⟨t + 1, by omega, by go_num, ?_, (X1.out.kp hk5 (by omega)).drew, (X0.out.kp hk5 (by omega)).drew, ?_⟩
          · rw [hst.out]
            have e : stepH 3 wt ⟨sa, sb, sc, sd, se⟩ = ⟨na, sa, rotN sb 30, sc, sd⟩ := by rw [HNA.out]; rfl
            rw [e]
            exact hs5.drew
          · exact (HK.out.step hk5 fun i hi he => absurd hi (by omega)).drew
    · obtain rfl : t = 80 := by omega
      have hxo := roundsTo_ok ws h HH.out 80
      generalize roundsTo ws h 80 = x at *
      obtain ⟨xa, xb, xc, xd, xe⟩ := x
      obtain ⟨oa, ob, oc, od, oe⟩ := hxo
      simp only at oa ob oc od oe
      have hh := HH.out
      obtain ⟨ha, hb, hc, hd, he⟩ := h
      obtain ⟨pa, pb, pc, pd, pe⟩ := hh
      simp only at pa pb pc pd pe
      have X2 := Lib.hid x2
      have X1 := Lib.hid x1
      have X0 := Lib.hid x0
      have HK := Lib.hid hk
      clear x2 x1 x0 hk
      go_wp2_with fail
      rename World => w9
      go_loopw [55] (fun i wq => ∃ k : Nat, k ≤ 5 ∧ i = .int .i64 k ∧ H5At wq w.heap.size (mixTo ⟨ha, hb, hc, hd, he⟩ ⟨xa, xb, xc, xd, xe⟩ k) ∧ Kp (fun i => i = w.heap.size) w9 wq) (fun i _ => 5 - (intOf i).toNat)
      case atStart => exact ⟨0, Nat.zero_le _, rfl, X0.out, Kp.refl _ _⟩
      case round =>
        obtain ⟨k, hk5, rfl, x0, hkq⟩ := hrel
        have y := X2.out.kp hkq (by omega)
        rcases (by omega : k = 0 ∨ k = 1 ∨ k = 2 ∨ k = 3 ∨ k = 4 ∨ k = 5) with rfl | rfl | rfl | rfl | rfl | rfl
        · have z0 := x0.c0
          have z1 := y.c0
          have f0 := x0.fz 0 (by decide)
          change wr.cell? ⟨w.heap.size, 0, none⟩ = some (.int .u32 (ha : Int)) at z0
          change wr.cell? ⟨w.heap.size + 1 + 1, 0, none⟩ = some (.int .u32 (xa : Int)) at z1
          have HX0 := Lib.hid x0
          have HKQ := Lib.hid hkq
          clear x0 hkq y
          go_wp2_with fail
          go_region
          clear z0 z1 f0
          all_goals (
            go_wp2_with fail
            go_roundw
            case measure => simp [intOf]
            case rel =>
              rw [show ((ha : Int) + (xa : Int)) % 4294967296 = (((ha + xa) % 4294967296 : Nat) : Int) by omega]
              exact ⟨1, by decide, rfl, (HX0.out.set0 ((ha + xa) % 4294967296)).drew, (HKQ.out.trans kp_set').drew⟩)
        · have z0 := x0.c1
          have z1 := y.c1
          have f0 := x0.fz 1 (by decide)
          change wr.cell? ⟨w.heap.size, 1, none⟩ = some (.int .u32 (hb : Int)) at z0
          change wr.cell? ⟨w.heap.size + 1 + 1, 1, none⟩ = some (.int .u32 (xb : Int)) at z1
          have HX0 := Lib.hid x0
          have HKQ := Lib.hid hkq
          clear x0 hkq y
          go_wp2_with fail
          go_region
          clear z0 z1 f0
          all_goals (
            go_wp2_with fail
            go_roundw
            case measure => simp [intOf]
            case rel =>
              rw [show ((hb : Int) + (xb : Int)) % 4294967296 = (((hb + xb) % 4294967296 : Nat) : Int) by omega]
              exact ⟨2, by decide, rfl, (HX0.out.set1 ((hb + xb) % 4294967296)).drew, (HKQ.out.trans kp_set').drew⟩)
        · have z0 := x0.c2
          have z1 := y.c2
          have f0 := x0.fz 2 (by decide)
          change wr.cell? ⟨w.heap.size, 2, none⟩ = some (.int .u32 (hc : Int)) at z0
          change wr.cell? ⟨w.heap.size + 1 + 1, 2, none⟩ = some (.int .u32 (xc : Int)) at z1
          have HX0 := Lib.hid x0
          have HKQ := Lib.hid hkq
          clear x0 hkq y
          go_wp2_with fail
          go_region
          clear z0 z1 f0
          all_goals (
            go_wp2_with fail
            go_roundw
            case measure => simp [intOf]
            case rel =>
              rw [show ((hc : Int) + (xc : Int)) % 4294967296 = (((hc + xc) % 4294967296 : Nat) : Int) by omega]
              exact ⟨3, by decide, rfl, (HX0.out.set2 ((hc + xc) % 4294967296)).drew, (HKQ.out.trans kp_set').drew⟩)
        · have z0 := x0.c3
          have z1 := y.c3
          have f0 := x0.fz 3 (by decide)
          change wr.cell? ⟨w.heap.size, 3, none⟩ = some (.int .u32 (hd : Int)) at z0
          change wr.cell? ⟨w.heap.size + 1 + 1, 3, none⟩ = some (.int .u32 (xd : Int)) at z1
          have HX0 := Lib.hid x0
          have HKQ := Lib.hid hkq
          clear x0 hkq y
          go_wp2_with fail
          go_region
          clear z0 z1 f0
          all_goals (
            go_wp2_with fail
            go_roundw
            case measure => simp [intOf]
            case rel =>
              rw [show ((hd : Int) + (xd : Int)) % 4294967296 = (((hd + xd) % 4294967296 : Nat) : Int) by omega]
              exact ⟨4, by decide, rfl, (HX0.out.set3 ((hd + xd) % 4294967296)).drew, (HKQ.out.trans kp_set').drew⟩)
        · have z0 := x0.c4
          have z1 := y.c4
          have f0 := x0.fz 4 (by decide)
          change wr.cell? ⟨w.heap.size, 4, none⟩ = some (.int .u32 (he : Int)) at z0
          change wr.cell? ⟨w.heap.size + 1 + 1, 4, none⟩ = some (.int .u32 (xe : Int)) at z1
          have HX0 := Lib.hid x0
          have HKQ := Lib.hid hkq
          clear x0 hkq y
          go_wp2_with fail
          go_region
          clear z0 z1 f0
          all_goals (
            go_wp2_with fail
            go_roundw
            case measure => simp [intOf]
            case rel =>
              rw [show ((he : Int) + (xe : Int)) % 4294967296 = (((he + xe) % 4294967296 : Nat) : Int) by omega]
              exact ⟨5, by decide, rfl, (HX0.out.set4 ((he + xe) % 4294967296)).drew, (HKQ.out.trans kp_set').drew⟩)
        · have z0 : wr.cell? _ = some (.int .u32 (((ha + xa) % 4294967296 : Nat) : Int)) := x0.c0
          have z1 : wr.cell? _ = some (.int .u32 (((hb + xb) % 4294967296 : Nat) : Int)) := x0.c1
          have z2 : wr.cell? _ = some (.int .u32 (((hc + xc) % 4294967296 : Nat) : Int)) := x0.c2
          have z3 : wr.cell? _ = some (.int .u32 (((hd + xd) % 4294967296 : Nat) : Int)) := x0.c3
          have z4 : wr.cell? _ = some (.int .u32 (((he + xe) % 4294967296 : Nat) : Int)) := x0.c4
          have y1 := X1.out.kp hkq (show ¬ (w.heap.size + 1 = w.heap.size) by omega)
          have r0 := y1.c0
          have r1 := y1.c1
          have r2 := y1.c2
          have r3 := y1.c3
          have r4 := y1.c4
          have q0 := y1.fz 0 (by decide)
          have q1 := y1.fz 1 (by decide)
          have q2 := y1.fz 2 (by decide)
          have q3 := y1.fz 3 (by decide)
          have q4 := y1.fz 4 (by decide)
          simp only at r0 r1 r2 r3 r4
          have Y1 := Lib.hid y1
          have kf : Kp NoB w wr := HK.out.step hkq fun i hi he => absurd hi (by omega)
          have KF := Lib.hid kf
          clear x0 hkq y y1 kf
          go_wp2_with fail
          have hs := Y1.out.store5 (addH ⟨ha, hb, hc, hd, he⟩ ⟨xa, xb, xc, xd, xe⟩)
          have hk5 := kp_store5 wr (w.heap.size + 1) (addH ⟨ha, hb, hc, hd, he⟩ ⟨xa, xb, xc, xd, xe⟩)
          refine bodyPost_ret (results_cell_mid rfl _ _ (w.heap.size + 1) _ _ rfl hs.range Tryd.underlying35 rfl (by kernel_rfl)) rfl ⟨?_, KF.out.step hk5 fun i hi he => absurd hi (by omega)⟩
          rw [HM.out]
          rfl
end Go.Proofs.YtdplpcmpjkcocaaDoor
