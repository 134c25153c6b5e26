/- log.Recover. -/
import Derived.Test.YtgjaggnpheoehaaDoorLogL
set_option linter.unusedVariables false
set_option linter.unusedSimpArgs false
namespace Go.Proofs.YtgjaggnpheoehaaDoor
open Go.RowKit Go.Shelf
attribute [local go_sem] Oper.semAt_some

theorem rowL : OneT Tryd.prog 41 22 (.slice none 0 0) 24 := ⟨Tryd.underlying41, by kernel_rfl, rfl, by decide⟩
theorem LogAt.made (w : World) (q : Addr) : LogAt (w.alloc (.cells #[.pointer (some q), .int .i64 0, .int .u32 0, .int .u32 1, .int .u32 0] 82)) w.heap.size (.pointer (some q)) [] 0 := by
  have hh := heap_alloc_new w (.cells #[.pointer (some q), .int .i64 0, .int .u32 0, .int .u32 1, .int .u32 0] 82)
  have hc : ∀ (i : Nat) (v : Value), (#[.pointer (some q), .int .i64 0, .int .u32 0, .int .u32 1, .int .u32 0] : Array Value)[i]? = some v → (w.alloc (.cells #[.pointer (some q), .int .i64 0, .int .u32 0, .int .u32 1, .int .u32 0] 82)).cell? ⟨w.heap.size, i, none⟩ = some v := by
    intro i v hv
    simp only [World.cell?, hh]
    exact hv
  exact ⟨hc 0 _ rfl, hc 1 _ rfl, hc 2 _ rfl, hc 3 _ rfl, hc 4 _ rfl, fun i _ => by simp only [World.frozen?, hh]; simp, by decide, Nat.le_refl _, fun p hp => by cases hp⟩
theorem frz_new (w : World) (cs : Array Value) (t : TypeId) (i : Nat) : (w.alloc (.cells cs t)).frozen? ⟨w.heap.size, i, none⟩ = false := by
  have hh := heap_alloc_new w (.cells cs t)
  simp only [World.frozen?, hh]
  simp
theorem results_tmp3 {fn : Func} {t u v : Tmp} (h : fn.results = #[.tmp t, .tmp u, .tmp v]) (tmps : Array Value) (P : Program) (w : World) :
    (results fn tmps).run P w = .ok (.tuple #[tmps.getD t undef, tmps.getD u undef, tmps.getD v undef]) w := by simp [results, h]
theorem gateIn_dst {F : Fence} {n : Nat} {P : Program} {W : World} {ops : Array Oper} {rest : List Oper} {o : Oper} {a : Act} {Q : Exit → Act → World → Prop} {N : Tmp} (_hN : o.dst = some N) (h : wpListIn F n P ops Q (o :: rest) a W) : wpListIn F n P ops Q (o :: rest) a W := h
/-- append within a fence, its run known. -/
theorem wpListIn_run {F : Fence} {n : Nat} {P : Program} {W : World} {ops : Array Oper} {rest : List Oper} {o : Oper} {a : Act} {Q : Exit → Act → World → Prop} (hgd : o.guard = none) (s x : Operand) (t tn : TypeId)
    (ho : o.op = .call { callee := .builtin .append, args := #[s, x], argTypes := #[t, tn] }) (vs vx : Value) (hs : a.eval s = vs) (hx : a.eval x = vx) (v' : Value) (w' : World) (hr : (Builtin.append_ #[t, tn] o.type #[vs, vx]).run P W = .ok v' w')
    (h : wpListIn F n P ops Q rest (a.put o.dst v') w') : wpListIn F n P ops Q (o :: rest) a W := by
  refine wpListIn_plain hgd fun K hK => ?_
  unfold Oper.wpIn
  constructor
  · simp [Oper.about, ho, resolve, Target.leads, Sem.run_pure]
  · rw [Oper.semAt_plain F _ _ (fun c hc => by rw [ho] at hc; cases hc)]
    simp [execOp, ho, resolve, invoke, builtin, hs, hx, hr, Result.andThen]
    exact hK _ _ h
/-- A piece of code that ends normally alone. -/
def onlyN (Q : Exit → Act → World → Prop) : Exit → Act → World → Prop
  | .normal, a, w => Q .normal a w
  | _, _, _ => False
theorem wp_onlyN {P : Program} {c : Code} {Q : Exit → Act → World → Prop} {a : Act} {w : World} (h : c.wp P (onlyN Q) a w) : c.wp P Q a w :=
  wp_mono h fun e a w h => by
    cases e with
    | normal => exact h
    | _ => exact h.elim
theorem onlyN_intro {Q : Exit → Act → World → Prop} {a : Act} {w : World} (h : Q .normal a w) : onlyN Q .normal a w := h
/-- A block that holds no cells is put anew. -/
theorem Vals.putNC {S : Nat → Prop} {w : World} {v : Value} {us : List Value} (h : Vals S w v us) {j : Nat} {x : Obj} (y : Obj) (hx : w.heap[j]? = some x) (hc : x.isCells = false) : Vals (fun k => S k ∧ k ≠ j) (w.putObj j y) v us := by
  obtain ⟨A, c, rfl, h1, h2, h3, hr⟩ := h
  refine ⟨A, c, rfl, h1, h2, h3, fun h0 => ?_⟩
  obtain ⟨b, off, rfl, hS, hcell⟩ := hr h0
  have hb : b ≠ j := by
    rintro rfl
    obtain ⟨o, ho, hc'⟩ := cells_of_cell (hcell 0 h0)
    rw [hx] at ho
    injection ho with ho
    rw [ho, hc'] at hc
    cases hc
  exact ⟨b, off, rfl, ⟨hS, hb⟩, fun i hi => (World.cell?_of_block (World.putObj_heap_other (show b ≠ j from hb))).trans (hcell i hi)⟩
theorem BS.putNC {S : Nat → Prop} {w : World} {v : Value} {l : List UInt8} (h : BS S w v l) {j : Nat} {x : Obj} (y : Obj) (hx : w.heap[j]? = some x) (hc : x.isCells = false) : BS (fun k => S k ∧ k ≠ j) (w.putObj j y) v l := by
  obtain ⟨A, c, rfl, h1, h2, h3, hr⟩ := h
  refine ⟨A, c, rfl, h1, h2, h3, fun h0 => ?_⟩
  obtain ⟨b, off, rfl, hS, hcell⟩ := hr h0
  have hb : b ≠ j := by
    rintro rfl
    obtain ⟨o, ho, hc'⟩ := cells_of_cell (hcell 0 h0)
    rw [hx] at ho
    injection ho with ho
    rw [ho, hc'] at hc
    cases hc
  exact ⟨b, off, rfl, ⟨hS, hb⟩, fun i hi => (World.cell?_of_block (World.putObj_heap_other (show b ≠ j from hb))).trans (hcell i hi)⟩
theorem RS.putNC {S : Nat → Prop} {w : World} {us : List Value} {ls : List (List UInt8)} (h : RS S w us ls) {j : Nat} {x : Obj} (y : Obj) (hx : w.heap[j]? = some x) (hc : x.isCells = false) : RS (fun k => S k ∧ k ≠ j) (w.putObj j y) us ls :=
  ⟨h.1, fun i h1 h2 => (h.2 i h1 h2).putNC y hx hc⟩
/-- The rows that Recover gathers, as they stand in a round. -/
def Gath (o n₀ : Nat) (w4 : World) (F : Nat → Prop) (ps : List (List UInt8)) (W : World) : Prop :=
  ∃ vo us, W.cell? ⟨o, 0, none⟩ = some vo ∧ W.frozen? ⟨o, 0, none⟩ = false ∧ Own1 22 W n₀ vo us ∧ RS (fun k => n₀ ≤ k ∧ ¬ vo.ownBlock = some k) W us ps ∧ Kp F w4 W
theorem Gath.kp {o n₀ : Nat} {w4 : World} {F G : Nat → Prop} {ps : List (List UInt8)} {A B : World} (h : Gath o n₀ w4 F ps A) (k : Kp G A B) (ho : ¬ G o) (hn : ∀ i, n₀ ≤ i → ¬ G i) (hG : ∀ i, G i → F i) (hlt : o < A.heap.size) : Gath o n₀ w4 F ps B := by
  obtain ⟨vo, us, h1, h2, h3, h4, h5⟩ := h
  exact ⟨vo, us, k.cell h1 ho, (k.frozen (p := ⟨o, 0, none⟩) hlt ho).trans h2, h3.kp k fun b _ hb => hn b (h3.lt b hb).1, h4.kp k fun b _ hb => hn b hb.1, h5.trans (k.mono fun i _ => hG i)⟩
theorem Gath.put {o n₀ : Nat} {w4 : World} {F : Nat → Prop} {ps : List (List UInt8)} {A : World} (h : Gath o n₀ w4 F ps A) (ho : o < n₀) (l : Nat) (x y : Obj) (hl : n₀ ≤ l) (hx : A.heap[l]? = some x) (hc : x.isCells = false) (hF : F l) : Gath o n₀ w4 F ps (A.putObj l y) := by
  obtain ⟨vo, us, h1, h2, h3, h4, h5⟩ := h
  have k : Kp (fun i => i = l) A (A.putObj l y) := (Kp.of_grown (grownBy_putObj' A l y)).mono fun i _ h => by injection h with h; exact h.symm
  have hob : ∀ b, vo.ownBlock = some b → ¬ b = l := by
    rintro b hb rfl
    rcases h3.2 with ⟨rfl, _⟩ | ⟨g, cap, cur, rfl, _, hg, _⟩
    · simp [Value.ownBlock] at hb
    · have e : g = b := by simpa [Value.ownBlock] using hb
      rw [e, hx] at hg
      injection hg with hg
      rw [hg] at hc
      cases hc
  have hlt : o < A.heap.size := World.block_lt_of_cell? A _ h1
  exact ⟨vo, us, k.cell h1 (show ¬ (o = l) by omega), (k.frozen (p := ⟨o, 0, none⟩) hlt (show ¬ (o = l) by omega)).trans h2, h3.kp k fun b _ hb => hob b hb, (h4.putNC y hx hc).mono fun b _ h => h.1, h5.trans (k.mono fun i _ h => by subst h; exact hF)⟩
theorem readL_whole (l : List UInt8) (h : l.length ≤ 1048576) : readL l 0 1048576 = l := by
  unfold readL
  rw [if_neg (by omega)]
  exact List.take_of_length_le h
theorem DiskIs.seen_le {w : World} {F R : Nat → Prop} {p : Value} {D : DD} (h : DiskIs w F R p D) : D.seen.length ≤ 1048576 := by
  obtain ⟨_, _, _, _, _, _, h⟩ := h
  exact Nat.le_trans h.c3 h.c1
/-- Behind the frames: bytes 0 are laid over what stands there. -/
def recE (D : DD) (ps : List (List UInt8)) (rest : List UInt8) : Nat := if rest.length = 0 then 0 else writeE D (lenC ps : Nat) (List.replicate rest.length 0)
def recD (D : DD) (ps : List (List UInt8)) (rest : List UInt8) : DD := if rest.length = 0 then D else writeD D (lenC ps : Nat) (List.replicate rest.length 0)
def syncD (D : DD) : DD := { D with sure := D.seen, waits := [] }
/-- What Recover leaves and tells. -/
def RecPost (q : Addr) (w : World) (F R : Nat → Prop) (D : DD) (e : Ending) (w' : World) : Prop :=
  ∃ ps rest F' R', Parse D.seen ps rest ∧ Step F R w w' F' R' ∧
    ((recE D ps rest = 0 ∧ ∃ b vo us, e = .returned (.tuple #[.pointer (some ⟨b, 0, none⟩), vo, .int .i64 0]) ∧ w.heap.size ≤ b ∧ ¬ F' b ∧ ¬ R' b ∧ LogAt w' b (.pointer (some q)) ps ps.length ∧ DiskIs w' F' R' (.pointer (some q)) (syncD (recD D ps rest)) ∧
        Vals (fun k => w.heap.size ≤ k ∧ ¬ F' k ∧ k ≠ b) w' vo us ∧ RS (fun k => w.heap.size ≤ k ∧ ¬ F' k ∧ k ≠ b) w' us ps) ∨
     (recE D ps rest ≠ 0 ∧ e = .returned (.tuple #[.pointer none, .slice none 0 0, .int .i64 (recE D ps rest : Nat)]) ∧ DiskIs w' F' R' (.pointer (some q)) D))
/-- The log stands, and its disk: sure, and what Recover tells. -/
theorem rec_ok {q : Addr} {w W w8 : World} {F R F8 R8 : Nat → Prop} {D D8 : DD} {ps : List (List UInt8)} {rest : List UInt8} {n₀ : Nat} (hp : Parse D.seen ps rest) (hE : recE D ps rest = 0) (hD8 : D8 = syncD (recD D ps rest)) (hn : w.heap.size + 2 ≤ n₀) (hnW : n₀ < W.heap.size)
    (kW : Kp NoB w W) (hFlt : ∀ k, F k → k < w.heap.size) (hRlt : ∀ k, R k → k < w.heap.size) (s8 : Step F R W w8 F8 R8) (d8 : DiskIs w8 F8 R8 (.pointer (some q)) D8) (l8 : LogAt w8 w.heap.size (.pointer (some q)) ps 0) (hD : w8.heap[n₀]? = some (.deferred (some [])))
    {vo : Value} {us : List Value} (hv : Vals (fun k => n₀ ≤ k ∧ k < W.heap.size) w8 vo us) (hr : RS (fun k => n₀ ≤ k ∧ k < W.heap.size) w8 us ps) (e : Ending) (he : e = .returned (.tuple #[.pointer (some ⟨w.heap.size, 0, none⟩), vo, .int .i64 0])) :
    RecPost q w F R D e ((w8.setCell ⟨w.heap.size, 4, none⟩ (.int .u32 (ps.length : Int))).drew.putObj n₀ (.deferred none)) := by
  subst hD8 he
  have hF8 : ∀ k, w.heap.size ≤ k → k < W.heap.size → ¬ F8 k := fun k h1 h2 hf => (s8.f k hf).elim (fun h => by have := hFlt k h; omega) fun h => by omega
  have hR8 : ∀ k, w.heap.size ≤ k → k < W.heap.size → ¬ R8 k := fun k h1 h2 hf => (s8.r k hf).elim (fun h => by have := hRlt k h; omega) fun h => by omega
  have hbW : w.heap.size < W.heap.size := by omega
  have kc : Kp (fun k => k = w.heap.size) w8 (w8.setCell ⟨w.heap.size, 4, none⟩ (.int .u32 (ps.length : Int))).drew := ((Kp.refl (fun k => k = w.heap.size) w8).setCell (p := ⟨w.heap.size, 4, none⟩) (.inr rfl) _).drew
  have hDc := kc.obj hD (show ¬ (n₀ = w.heap.size) by omega)
  have kp : Kp (fun k => k = n₀) (w8.setCell ⟨w.heap.size, 4, none⟩ (.int .u32 (ps.length : Int))).drew ((w8.setCell ⟨w.heap.size, 4, none⟩ (.int .u32 (ps.length : Int))).drew.putObj n₀ (.deferred none)) := (Kp.of_grown (grownBy_putObj' _ _ _)).mono fun i _ h => by injection h with h; exact h.symm
  have hs8 := s8.kp.size
  refine ⟨ps, rest, F8, R8, hp, ⟨?_, fun k h => (s8.f k h).imp id fun h => Nat.le_trans kW.size h, fun k h => (s8.r k h).imp id fun h => Nat.le_trans kW.size h⟩, .inl ⟨hE, w.heap.size, vo, us, rfl, Nat.le_refl _, hF8 _ (Nat.le_refl _) hbW, hR8 _ (Nat.le_refl _) hbW, ?_, ?_, ?_, ?_⟩⟩
  · exact ((kW.weak.trans (F := F) s8.kp).step kc fun i hi h => by have h1 : i = w.heap.size := h; omega).step kp fun i hi h => by have h1 : i = n₀ := h; omega
  · exact ((l8.setSure ps.length (Nat.le_refl _)).nob (Kp.refl NoB _).drew).kp kp (show ¬ (w.heap.size = n₀) by omega)
  · exact ((d8.setL (hF8 _ (Nat.le_refl _) hbW) (hR8 _ (Nat.le_refl _) hbW) _ _).nob (Kp.refl NoB _).drew).kp kp fun k _ h => by have h1 : k = n₀ := h; subst h1; exact ⟨hF8 _ (by omega) hnW, hR8 _ (by omega) hnW⟩
  · exact ((hv.kp kc fun k _ hk h => by have h1 : k = w.heap.size := h; omega).putNC _ hDc rfl).mono fun k _ h => ⟨by omega, hF8 k (by omega) h.1.2, by have := h.1.1; omega⟩
  · exact ((hr.kp kc fun k _ hk h => by have h1 : k = w.heap.size := h; omega).putNC _ hDc rfl).mono fun k _ h => ⟨by omega, hF8 k (by omega) h.1.2, by have := h.1.1; omega⟩
theorem rec_no {q : Addr} {w W w8 : World} {F R F8 R8 : Nat → Prop} {D : DD} {ps : List (List UInt8)} {rest : List UInt8} {n₀ : Nat} (hp : Parse D.seen ps rest) (hE : recE D ps rest ≠ 0) (hn : w.heap.size + 2 ≤ n₀) (hnW : n₀ < W.heap.size)
    (kW : Kp NoB w W) (hFlt : ∀ k, F k → k < w.heap.size) (hRlt : ∀ k, R k → k < w.heap.size) (s8 : Step F R W w8 F8 R8) (d8 : DiskIs w8 F8 R8 (.pointer (some q)) D) (e : Ending) (he : e = .returned (.tuple #[.pointer none, .slice none 0 0, .int .i64 (recE D ps rest : Nat)])) :
    RecPost q w F R D e (w8.putObj n₀ (.deferred none)) := by
  subst he
  have kp : Kp (fun k => k = n₀) w8 (w8.putObj n₀ (.deferred none)) := (Kp.of_grown (grownBy_putObj' _ _ _)).mono fun i _ h => by injection h with h; exact h.symm
  have hF8 : ¬ F8 n₀ := fun hf => (s8.f _ hf).elim (fun h => by have := hFlt _ h; omega) fun h => by omega
  have hR8 : ¬ R8 n₀ := fun hf => (s8.r _ hf).elim (fun h => by have := hRlt _ h; omega) fun h => by omega
  refine ⟨ps, rest, F8, R8, hp, ⟨?_, fun k h => (s8.f k h).imp id fun h => Nat.le_trans kW.size h, fun k h => (s8.r k h).imp id fun h => Nat.le_trans kW.size h⟩, .inr ⟨hE, rfl, ?_⟩⟩
  · exact (kW.weak.trans (F := F) s8.kp).step kp fun i hi h => by have h1 : i = n₀ := h; omega
  · exact d8.kp kp fun k _ h => by have h1 : k = n₀ := h; subst h1; exact ⟨hF8, hR8⟩

set_option maxRecDepth 100000 in
set_option maxHeartbeats 8000000 in
theorem lrecover_calls {w : World} {F R : Nat → Prop} {q : Addr} {D : DD} (hd : DiskIs w F R (.pointer (some q)) D) (hT : TabOk w) (hF0 : ¬ F 0) (hw : D.waits.length ≤ 1000000) :
    Calls Tryd.prog 24 #[.pointer (some q)] w (RecPost q w F R D) := by
  have hal := LogAt.made w q
  have ka : Kp NoB w (w.alloc (.cells #[.pointer (some q), .int .i64 0, .int .u32 0, .int .u32 1, .int .u32 0] 82)) := (Kp.refl _ _).alloc _
  have kb : Kp NoB (w.alloc (.cells #[.pointer (some q), .int .i64 0, .int .u32 0, .int .u32 1, .int .u32 0] 82)) ((w.alloc (.cells #[.pointer (some q), .int .i64 0, .int .u32 0, .int .u32 1, .int .u32 0] 82)).alloc (.cells #[.slice none 0 0] 41)) := (Kp.refl _ _).alloc _
  have hob := cell_new1 (w.alloc (.cells #[.pointer (some q), .int .i64 0, .int .u32 0, .int .u32 1, .int .u32 0] 82)) (.slice none 0 0) 41 (0, 0)
  have e1 : (w.alloc (.cells #[.pointer (some q), .int .i64 0, .int .u32 0, .int .u32 1, .int .u32 0] 82)).heap.size = w.heap.size + 1 := by simp
  have e2 : ((w.alloc (.cells #[.pointer (some q), .int .i64 0, .int .u32 0, .int .u32 1, .int .u32 0] 82)).alloc (.cells #[.slice none 0 0] 41)).heap.size = w.heap.size + 2 := by simp
  rw [e1] at hob
  have hof := frz_new (w.alloc (.cells #[.pointer (some q), .int .i64 0, .int .u32 0, .int .u32 1, .int .u32 0] 82)) #[.slice none 0 0] 41 0
  rw [e1] at hof
  have hw0 : 0 < w.heap.size := World.block_lt_of_cell? w _ (hT 0 (by decide))
  have hFlt := hd.lt
  have hRlt := fun k hk => (hd.hR k hk).1
  have hsl := hd.seen_le
  have HAL := Lib.hid (hal.nob kb)
  have KAB := Lib.hid (ka.trans kb)
  have HOB := Lib.hid hob
  have HOF := Lib.hid hof
  have HD := Lib.hid hd
  have HT := Lib.hid hT
  have E2 := Lib.hid e2
  clear hal ka kb hob e1 hd hT hof e2
  refine (callsIn_wide (n := 5)).1 ?_
  refine callsIn_of_wp_marks Tryd.func24 rfl trivial ?_
  simp only [Tryd.ntmps24, List.size_toArray, List.length_cons, List.length_nil, Nat.reduceAdd, Nat.reduceSub, Array.replicate_succ, Array.replicate_zero, List.push_toArray, List.append_toArray, List.nil_append, List.cons_append]
  gi_wp2
  have KAB := KAB.out
  have HAL := HAL.out
  have HOB := HOB.out
  have HOF := HOF.out
  have E2 := E2.out
  generalize (w.alloc (.cells #[.pointer (some q), .int .i64 0, .int .u32 0, .int .u32 1, .int .u32 0] 82)).alloc (.cells #[.slice none 0 0] 41) = w2 at *
  refine ⟨trivial, (callsIn_wide.2 (read_calls (HD.out.nob KAB) 0 1048576 (by decide) (by decide) (by decide))).mono ?_⟩
  rintro e w3 ⟨v3, rfl, o3, k3⟩
  rw [readL_whole _ hsl] at o3
  obtain ⟨A3, c3, rfl⟩ := o3.bs.len
  have HAL := Lib.hid HAL
  have HOB := Lib.hid HOB
  have HOF := Lib.hid HOF
  have KAB := Lib.hid KAB
  have O3 := Lib.hid o3
  have K3 := Lib.hid k3
  have hs23 := k3.size
  clear o3 k3
  gi_wp2
  refine ⟨trivial, (callsIn_wide.2 (frames_calls w.heap.size A3 D.seen.length c3 w3)).mono ?_⟩
  rintro e w4 ⟨rfl, hw4⟩
  have kx : Kp NoB w3 (w3.alloc (.cells #[.pointer (some ⟨w.heap.size, 0, none⟩)] 46)) := (Kp.refl _ _).alloc _
  have ky : Kp NoB (w3.alloc (.cells #[.pointer (some ⟨w.heap.size, 0, none⟩)] 46)) w4 := by rw [hw4]; exact (Kp.refl _ _).alloc _
  have cx := cell_new1 w3 (.pointer (some ⟨w.heap.size, 0, none⟩)) 46 (0, 0)
  have cy := cell_new1 (w3.alloc (.cells #[.pointer (some ⟨w.heap.size, 0, none⟩)] 46)) (.slice A3 D.seen.length c3) 22 (0, 0)
  have ez : (w3.alloc (.cells #[.pointer (some ⟨w.heap.size, 0, none⟩)] 46)).heap.size = w3.heap.size + 1 := by simp
  rw [ez, ← hw4] at cy
  have cx4 := ky.cell cx id
  have z4 : w4.heap.size = w3.heap.size + 2 := by rw [hw4]; simp
  have k34 := kx.trans ky
  have k24 := K3.out.trans k34
  have HL4 := Lib.hid (HAL.out.nob k24)
  have ho4 := k24.cell HOB.out id
  have hf4 := (k24.frozen (p := ⟨w.heap.size + 1, 0, none⟩) (show w.heap.size + 1 < w2.heap.size by rw [E2]; omega) id).trans HOF.out
  have hs4 : BS (fun k => k < w4.heap.size ∧ k ≠ w.heap.size + 1 ∧ k ≠ w.heap.size) w4 (.slice A3 D.seen.length c3) D.seen := (O3.out.bs.nob k34).mono fun k hk h => by have h1 := h.1; rw [E2] at h1; exact ⟨hk, by omega, by omega⟩
  have K04 := Lib.hid (KAB.out.trans k24)
  have HO4 := Lib.hid ho4
  have HF4 := Lib.hid hf4
  have HS4 := Lib.hid hs4
  have CX := Lib.hid cx4
  have CY := Lib.hid cy
  have T4 := Lib.hid (HT.out.nob K04.out)
  have Z4 := Lib.hid z4
  have E2 := Lib.hid E2
  have HS23 := Lib.hid hs23
  clear hw4 kx ky cx cy ez cx4 z4 k34 k24 ho4 hf4 hs4 HAL HOB HOF KAB O3 K3 hs23
  gi_wp2
  refine wpIn_rangeTurns (n := 5) (by decide) (gf := 70) (lb := #[.pointer (some ⟨w3.heap.size, 0, none⟩), .pointer (some ⟨w3.heap.size + 1, 0, none⟩)]) rfl (enters_of Tryd.func70 (by kernel_rfl) rfl)
    w.heap.size (w.heap.size + 1) (by have := Z4.out; have := E2.out; have := HS23.out; omega) (Gath (w.heap.size + 1) w4.heap.size w4 (fun k => k = w.heap.size ∨ k = w.heap.size + 1 ∨ w4.heap.size ≤ k))
    (fun ps W' => ∃ rest, Parse D.seen ps rest ∧ LogAt W' w.heap.size (.pointer (some q)) ps 0 ∧ Kp (fun k => k = w.heap.size ∨ k = w.heap.size + 1 ∨ w4.heap.size ≤ k) w4 W') ?_ ?_ ?_ ?_ (fun v => { tmps := #[.pointer (some q), undef, .pointer none, .slice none 0 0, .int .i64 0, .pointer (some ⟨w.heap.size, 0, none⟩), .pointer (some ⟨w.heap.size + 1, 0, none⟩), v, undef, .pointer (some q), .agg #[.pointer (some q), .int .i64 0, .int .u32 0, .int .u32 1, .int .u32 0], .pointer (some ⟨w.heap.size, 0, none⟩), .pointer (some ⟨w.heap.size, 0, none⟩), .pointer (some q), .slice A3 D.seen.length c3, (.func (.func 70) #[] #[.pointer (some ⟨w3.heap.size, 0, none⟩), .pointer (some ⟨w3.heap.size + 1, 0, none⟩)]), v, undef, undef, undef, undef, undef, undef, undef, undef, undef, undef, undef, undef, undef, undef, undef, undef, undef, undef, undef, undef, undef, undef, undef, undef, undef, undef, undef, undef, undef, undef, undef, undef, undef, undef, undef, undef, undef, undef, undef, undef, undef, undef], defers := [] }) ?_ ?_ ?_
  case refine_1 =>
    intro ps W l x y hg hl hx hc
    exact hg.put (by have := Z4.out; have := E2.out; have := HS23.out; omega) l x y hl hx hc (.inr (.inr hl))
  case refine_2 =>
    intro ps A B hg k
    have ho : w.heap.size + 1 < A.heap.size := by obtain ⟨vo, _, hc, _⟩ := hg; exact World.block_lt_of_cell? A _ hc
    exact hg.kp k (show ¬ (w.heap.size + 1 = w.heap.size) by omega) (fun i hi h => by have h1 : i = w.heap.size := h; have := Z4.out; have := E2.out; have := HS23.out; omega) (fun i h => .inl h) ho
  case refine_3 =>
    intro l J W1 k1 hJ hY hj
    have hz := Z4.out
    have hz2 := E2.out
    have hz3 := HS23.out
    refine (frames1_in 4 (by decide) l w3.heap.size (w3.heap.size + 1) w.heap.size (w.heap.size + 1) w4.heap.size (.pointer (some q)) (.slice A3 D.seen.length c3) D.seen J ⟨by omega, by omega, by omega⟩ ⟨by omega, by omega, by omega⟩ ⟨by omega, by omega⟩ ⟨by omega, by omega, by omega⟩ hJ hY W1 k1.size (k1.cell CX.out id) (k1.cell CY.out id) (HS4.out.nob k1) (HL4.out.nob k1) (T4.out.nob k1) hj hsl).mono ?_
    rintro e W' ⟨hv, ps, rest, hp, hj', hl, hk⟩
    exact ⟨hv, ps, hj', rest, hp, hl, k1.weak.trans hk⟩
  case refine_4 =>
    intro W1 k1
    exact ⟨_, [], k1.cell HO4.out id, (k1.frozen (p := ⟨w.heap.size + 1, 0, none⟩) (World.block_lt_of_cell? w4 _ HO4.out) id).trans HF4.out, Own1.nil _ _ _, RS.nil _ _, k1.weak⟩
  case refine_5 =>
    intro l v W K hK
    gi_wp2
    exact hK
  case refine_6 =>
    rintro l ps x v W0 W k0 hg0 hg hv hle hn0
    obtain ⟨Av, cv, rfl⟩ := hv.len
    obtain ⟨vo, us, ho, hf, hown, hrs, hk⟩ := hg
    have hvo : ∀ b, vo.ownBlock = some b → b < W0.heap.size := by
      obtain ⟨vo0, us0, ho0, _, hown0, _⟩ := hg0
      have := k0.cell ho0 (fun h => by rcases h with h | h; exact absurd (show w.heap.size + 1 = w.heap.size from h) (by omega); exact absurd (show w.heap.size + 1 = w4.heap.size + 1 from h) (by have := Z4.out; have := E2.out; have := HS23.out; omega))
      rw [ho] at this
      injection this with this
      subst this
      exact fun b hb => (hown0.lt b hb).2
    have hul : us.length = ps.length := hrs.1
    have hpl := lenC_len ps
    have hz := Z4.out
    have hz2 := E2.out
    have hz3 := HS23.out
    have hk4 := hk.size
    have ka : Kp NoB W (W.alloc (.cells #[.slice Av x.length cv] 22)) := (Kp.refl _ _).alloc _
    obtain ⟨v', w', h1, h2, h3, h4⟩ := run_push rowL 41 (hown.nob ka) W.heap.size 0 1 (cell_new1 W (.slice Av x.length cv) 22 (0, 0)) rfl (by omega) (by have := ka.size; omega)
    obtain ⟨N5, A5, c5, rfl⟩ : ∃ N A c, v' = .slice A N c := by obtain ⟨A, c, h⟩ := h2.vals.len; exact ⟨_, A, c, h⟩
    have kg : Kp (fun k => vo.ownBlock = some k) W w' := ka.weak.trans (Kp.of_grown h3)
    have hoo : ¬ vo.ownBlock = some (w.heap.size + 1) := fun h => by have := (hown.lt _ h).1; omega
    have ho' := kg.cell ho hoo
    have hf' := (kg.frozen (p := ⟨w.heap.size + 1, 0, none⟩) (World.block_lt_of_cell? W _ ho) hoo).trans hf
    have hlt := ka.size
    have HO := Lib.hid ho
    have HF := Lib.hid hf
    have HOWN := Lib.hid hown
    have HRS := Lib.hid hrs
    have HK := Lib.hid hk
    have HV := Lib.hid hv
    have KG := Lib.hid kg
    have H2 := Lib.hid h2
    have H4 := Lib.hid h4
    have HVO := Lib.hid hvo
    have HAL := Lib.hid (show (W.alloc (.cells #[.slice Av x.length cv] 22)).heap.size = W.heap.size + 1 by simp)
    clear hown hrs hk hv kg h2 h3 h4 hvo hg0 k0 hle
    gi_wp2_with ((with_reducible refine gateIn_dst (N := 20) rfl ?_); go_must (refine wpListIn_run rfl _ _ _ _ rfl vo (.slice (some ⟨W.heap.size, 0, none⟩) 1 1) rfl rfl _ _ h1 ?_))
    have kf : Kp (fun k => k = w.heap.size + 1 ∨ vo.ownBlock = some k) W (w'.setCell ⟨w.heap.size + 1, 0, none⟩ (.slice A5 N5 c5)) := (KG.out.mono fun _ _ h => .inr h).setCell (p := ⟨w.heap.size + 1, 0, none⟩) (.inr (.inl rfl)) _
    have ks : Kp (fun k => k = w.heap.size + 1) w' (w'.setCell ⟨w.heap.size + 1, 0, none⟩ (.slice A5 N5 c5)) := (Kp.refl (fun k => k = w.heap.size + 1) w').setCell (p := ⟨w.heap.size + 1, 0, none⟩) (.inr rfl) _
    have hnew : ∀ b, (Value.slice A5 N5 c5).ownBlock = some b → vo.ownBlock = some b ∨ W.heap.size ≤ b := fun b hb => by
      rcases H4.out with h | h
      · rw [h] at hb; exact .inl hb
      · rw [h] at hb; injection hb with hb; have := HAL.out; omega
    refine ⟨keeps_cells kf fun i hi hB o hxo hc => ?_, kf.mono fun i _ h => ?_, .slice A5 N5 c5, us ++ [.slice Av x.length cv], World.cell?_setCell_same _ _ _ ho', by rw [World.frozen?_setCell]; exact hf', H2.out.kp ks fun b _ hb h => ?_, ?_, HK.out.trans (kf.mono fun i _ h => ?_)⟩
    · rcases hi with rfl | hi
      · obtain ⟨o', ho2, hc'⟩ := cells_of_cell HO.out
        simp only at ho2
        rw [hxo] at ho2
        injection ho2 with ho2
        rw [ho2, hc'] at hc
        cases hc
      · rcases HOWN.out.2 with ⟨rfl, _⟩ | ⟨g, cap, cur, rfl, _, hg, _⟩
        · simp [Value.ownBlock] at hi
        · have e : g = i := by simpa [Value.ownBlock] using hi
          rw [e, hxo] at hg
          injection hg with hg
          rw [hg] at hc
          cases hc
    · rcases h with h | h
      · exact .inl h
      · exact .inr (HOWN.out.lt i h).1
    · have h1 : b = w.heap.size + 1 := h
      have h2 := (H2.out.lt b hb).1
      omega
    · refine RS.snoc (((HRS.out.mono (T := fun k => (w4.heap.size ≤ k ∧ ¬ vo.ownBlock = some k) ∧ k < W.heap.size) fun b hb h => ⟨h, hb⟩).kp kf fun b _ hb h => ?_).mono fun b hb hh => ⟨hh.1.1, fun h => ?_⟩)
        (((HV.out.mono (T := fun k => W0.heap.size ≤ k ∧ k < W.heap.size) fun b hb h => ⟨h, hb⟩).kp kf fun b _ hb h => ?_).mono fun b hb hh => ⟨Nat.le_trans hn0 hh.1, fun h => ?_⟩)
      · rcases h with h | h
        · have := hb.1.1; omega
        · exact hb.1.2 h
      · rcases hnew b h with h | h
        · exact hh.1.2 h
        · have := hh.2; omega
      · rcases h with h | h
        · have := hb.1; omega
        · have := HVO.out b h; have := hb.1; omega
      · rcases hnew b h with h | h
        · have := HVO.out b h; have := hh.1; omega
        · have := hh.2; omega
    · rcases h with h | h
      · exact .inr (.inl h)
      · exact .inr (.inr (HOWN.out.lt i h).1)
  case refine_7 =>
    rintro ps W2 W ⟨rest, hp, hl2, hk2⟩ hg hkW hD
    have hz := Z4.out
    have hz2 := E2.out
    have hz3 := HS23.out
    have hlW : LogAt W w.heap.size (.pointer (some q)) ps 0 := hl2.kp hkW (show ¬ (w.heap.size = w4.heap.size + 1) by omega)
    obtain ⟨vo, us, hvc, hvf, hown, hrs, hkg⟩ := hg
    have kW : Kp NoB w W := K04.out.step hkg fun i hi h => by rcases h with h | h | h <;> omega
    have hnW : w4.heap.size < W.heap.size := (Array.getElem?_eq_some_iff.1 hD).1
    have hdW := HD.out.nob kW
    have hlen : D.seen.length = lenC ps + rest.length := by have := congrArg List.length hp.eq; rw [List.length_append] at this; exact this
    have hpl := lenC_len ps
    have hvals : Vals (fun k => w4.heap.size ≤ k ∧ k < W.heap.size) W vo us := hown.vals.mono fun k hk h => ⟨h.1, hk⟩
    have hrows : RS (fun k => w4.heap.size ≤ k ∧ k < W.heap.size) W us ps := hrs.mono fun k hk h => ⟨h.1, hk⟩
    obtain ⟨Ao, co, rfl⟩ := hvals.len
    have dd := hlW.nob (Kp.refl NoB W).drew
    have l1 := dd.l1
    have hend := end_calls (hdW.nob (Kp.refl NoB W).drew)
    rw [hlen] at hend
    have KW := Lib.hid kW
    have HLW := Lib.hid hlW
    have HDW := Lib.hid hdW
    have HP := Lib.hid hp
    have HV := Lib.hid hvals
    have HRW := Lib.hid hrows
    have HVC := Lib.hid hvc
    have HDD := Lib.hid hD
    have HLEN := Lib.hid hlen
    have HEND := Lib.hid hend
    have hsz : lenC ps + rest.length ≤ 1048576 := by omega
    have hn2 : w.heap.size + 2 ≤ w4.heap.size := by omega
    clear hz hz2 hz3 hl2 hk2 hkW hown hrs hkg kW hdW hlW hp hvals hrows hvc hvf hD hlen hend dd HL4 K04 T4 HS4 CX CY HO4 HF4 HD HT
    gi_wp2
    refine wpIn_wide.2 ?_
    refine wp_onlyN ?_
    refine wp_region_held_drew (S := (fun w' => w' = W.drew)) (by kernel_rfl) rfl (fun hHeld => ?_)
    refine wpAnyH_take (i := 0) (v := ?_) rfl (by kernel_rfl) (by kernel_rfl) (by kernel_rfl) (fun _ _ _ h => h) (Or.inl ⟨by rfl, ?_⟩) (by assumption) ?_
    rotate_left
    · intro w hSw
      (try dsimp only at hSw)
      go_simp
      all_goals (with_reducible rfl)
    (try simp only [Act.put, List.getElem_toArray, List.getElem_cons_succ, List.getElem_cons_zero, List.setIfInBounds_toArray, List.set_cons_zero, List.set_cons_succ])
    refine wpAnyH_take (i := 2) (v := ?_) rfl (by kernel_rfl) (by kernel_rfl) (by kernel_rfl) (fun _ _ _ h => h) (Or.inl ⟨by rfl, ?_⟩) (by assumption) ?_
    rotate_left
    · intro w hSw
      (try dsimp only at hSw)
      go_simp
      all_goals (with_reducible rfl)
    (try simp only [Act.put, List.getElem_toArray, List.getElem_cons_succ, List.getElem_cons_zero, List.setIfInBounds_toArray, List.set_cons_zero, List.set_cons_succ])
    refine wpAnyH_take (i := 3) (v := ?_) rfl (by kernel_rfl) (by kernel_rfl) (by kernel_rfl) (fun _ _ _ h => h) (Or.inl ⟨by rfl, ?_⟩) (by assumption) ?_
    rotate_left
    · intro w hSw
      (try dsimp only at hSw)
      go_simp
      all_goals (with_reducible rfl)
    (try simp only [Act.put, List.getElem_toArray, List.getElem_cons_succ, List.getElem_cons_zero, List.setIfInBounds_toArray, List.set_cons_zero, List.set_cons_succ])
    refine wpAnyH_take (i := 4) (v := ?_) rfl (by kernel_rfl) (by kernel_rfl) (by kernel_rfl) (fun _ _ _ h => h) (Or.inl ⟨by rfl, ?_⟩) (by assumption) ?_
    rotate_left
    · intro w hSw
      (try dsimp only at hSw)
      go_simp
      all_goals (with_reducible rfl)
    (try simp only [Act.put, List.getElem_toArray, List.getElem_cons_succ, List.getElem_cons_zero, List.setIfInBounds_toArray, List.set_cons_zero, List.set_cons_succ])
    refine wpAnyH_take (i := 5) (v := ?_) rfl (by kernel_rfl) (by kernel_rfl) (by kernel_rfl) (fun _ _ _ h => h) (Or.inl ⟨by rfl, ?_⟩) (by assumption) ?_
    rotate_left
    · intro w hSw
      (try dsimp only at hSw)
      subst hSw
      go_simp
      all_goals (with_reducible rfl)
    (try simp only [Act.put, List.getElem_toArray, List.getElem_cons_succ, List.getElem_cons_zero, List.setIfInBounds_toArray, List.set_cons_zero, List.set_cons_succ])
    refine wpAnyH_ready (rs := [1]) (by kernel_rfl) (by simp) ?_
    refine AllReadyH.cons rfl (fun K hK => ?_) AllReadyH.nil
    (try rw [if_pos (by rfl)])
    go_simp
    refine HEND.out.mono ?_
    rintro e wz ⟨rfl, rfl⟩
    refine hK.out _ _ ?_ (fun hHeld => ?_)
    · rfl
    clear hK K
    (try simp only [Act.put, List.getElem_toArray, List.getElem_cons_succ, List.getElem_cons_zero, List.setIfInBounds_toArray, List.set_cons_zero, List.set_cons_succ])
    refine wpAnyH_take (i := 6) (v := ?_) rfl (by kernel_rfl) (by kernel_rfl) (by kernel_rfl) (fun _ _ _ h => h) (Or.inl ⟨by rfl, ?_⟩) (by assumption) ?_
    rotate_left
    · intro w hSw
      (try dsimp only at hSw)
      go_simp
      all_goals (with_reducible rfl)
    (try simp only [Act.put, List.getElem_toArray, List.getElem_cons_succ, List.getElem_cons_zero, List.setIfInBounds_toArray, List.set_cons_zero, List.set_cons_succ])
    refine wpAnyH_done (by kernel_rfl) ?_ _
    refine onlyN_intro ?_
    go_simp
    have HHELD := Lib.hid hHeld
    clear hHeld
    by_cases h0 : rest.length = 0
    · have hE : recE D ps rest = 0 := by unfold recE; rw [if_pos h0]
      have hRD : recD D ps rest = D := by unfold recD; rw [if_pos h0]
      have HE := Lib.hid hE
      have HRD := Lib.hid (congrArg syncD hRD).symm
      have kd : Kp NoB W W.drew := (Kp.refl NoB W).drew
      have d5 := HDW.out.nob kd
      have l5 := HLW.out.nob kd
      have v5 := HV.out.nob kd
      have r5 := HRW.out.nob kd
      have c5 := kd.cell HVC.out id
      have x5 := kd.obj HDD.out id
      have s5 : ∃ F5 R5, F5 = F ∧ R5 = R ∧ Step F R W W.drew F5 R5 := ⟨F, R, rfl, rfl, Step.of_nob kd⟩
      obtain ⟨F5, R5, e5, e5', s5⟩ := s5
      rw [← e5, ← e5'] at d5
      clear e5 e5'
      generalize W.drew = w5 at *
      clear hE hRD kd HHELD l1
      have hl0 : rest.length = 0 := h0
      gi_wp2
      refine ⟨trivial, (callsIn_wide.2 (sync_calls d5)).mono ?_⟩
      rintro e w6 ⟨rfl, F6, R6, d6, s6⟩
      have hF5 : ∀ k, w.heap.size ≤ k → k < W.heap.size → ¬ F5 k := fun k h1 h2 hf => (s5.f k hf).elim (fun h => by have := hFlt k h; omega) fun h => by omega
      have l6 := l5.kp s6.kp (hF5 _ (Nat.le_refl _) (by omega))
      have v6 := v5.kp s6.kp fun k _ hk => hF5 k (by omega) hk.2
      have r6 := r5.kp s6.kp fun k _ hk => hF5 k (by omega) hk.2
      have c6 := s6.kp.cell c5 (hF5 (w.heap.size + 1) (by omega) (by omega))
      have x6 := s6.kp.obj x5 (hF5 _ (by omega) hnW)
      have s56 := s5.trans s6
      have e3 := l6.l3
      have e4 := l6.l4
      have f4 := l6.fz 4 (by decide)
      have c7 : ∀ v : Value, (w6.setCell ⟨w.heap.size, 4, none⟩ v).cell? ⟨w.heap.size + 1, 0, none⟩ = some (.slice Ao us.length co) := fun v => (World.cell?_setCell_other w6 ⟨w.heap.size, 4, none⟩ ⟨w.heap.size + 1, 0, none⟩ v (by intro h; injection h with h _; omega)).trans c6
      have x7 : ∀ v : Value, (w6.setCell ⟨w.heap.size, 4, none⟩ v).drew.heap[w4.heap.size]? = some (.deferred (some [])) := fun v => (((Kp.refl (fun k => k = w.heap.size) w6).setCell (p := ⟨w.heap.size, 4, none⟩) (.inr rfl) v).drew).obj x6 (show ¬ (w4.heap.size = w.heap.size) by omega)
      have L6 := Lib.hid l6
      have V6 := Lib.hid v6
      have R6' := Lib.hid r6
      have X6 := Lib.hid x6
      have D6 := Lib.hid d6
      have S56 := Lib.hid s56
      have X7 := Lib.hid x7
      clear l5 v5 r5 c5 x5 d5 s5 s6 l6 v6 r6 x6 d6 s56 c6 hF5 x7
      gi_wp2
      refine wpIn_wide.2 ?_
      refine wp_onlyN ?_
      refine wp_region_held_drew (S := (fun w' => w' = (w6.setCell ⟨w.heap.size, 4, none⟩ (.int .u32 (ps.length : Int))).drew)) (by kernel_rfl) rfl (fun hHeld => ?_)
      refine wpAnyH_take (i := 0) (v := ?_) rfl (by kernel_rfl) (by kernel_rfl) (by kernel_rfl) (fun _ _ _ h => h) (Or.inl ⟨by rfl, ?_⟩) (by assumption) ?_
      rotate_left
      · intro w hSw
        (try dsimp only at hSw)
        go_simp
        all_goals (with_reducible rfl)
      (try simp only [Act.put, List.getElem_toArray, List.getElem_cons_succ, List.getElem_cons_zero, List.setIfInBounds_toArray, List.set_cons_zero, List.set_cons_succ])
      refine wpAnyH_take (i := 1) (v := ?_) rfl (by kernel_rfl) (by kernel_rfl) (by kernel_rfl) (fun _ _ _ h => h) (Or.inl ⟨by rfl, ?_⟩) (by assumption) ?_
      rotate_left
      · intro w hSw
        (try dsimp only at hSw)
        subst hSw
        have cc := c7 (.int .u32 (ps.length : Int))
        go_simp
        all_goals (with_reducible rfl)
      (try simp only [Act.put, List.getElem_toArray, List.getElem_cons_succ, List.getElem_cons_zero, List.setIfInBounds_toArray, List.set_cons_zero, List.set_cons_succ])
      refine wpAnyH_take (i := 2) (v := ?_) rfl (by kernel_rfl) (by kernel_rfl) (by kernel_rfl) (fun _ _ _ h => h) (Or.inl ⟨by rfl, ?_⟩) (by assumption) ?_
      rotate_left
      · intro w hSw
        (try dsimp only at hSw)
        go_simp
        all_goals (with_reducible rfl)
      (try simp only [Act.put, List.getElem_toArray, List.getElem_cons_succ, List.getElem_cons_zero, List.setIfInBounds_toArray, List.set_cons_zero, List.set_cons_succ])
      refine wpAnyH_take (i := 3) (v := ?_) rfl (by kernel_rfl) (by kernel_rfl) (by kernel_rfl) (fun _ _ _ h => h) (Or.inl ⟨by rfl, ?_⟩) (by assumption) ?_
      rotate_left
      · intro w hSw
        (try dsimp only at hSw)
        go_simp
        all_goals (with_reducible rfl)
      (try simp only [Act.put, List.getElem_toArray, List.getElem_cons_succ, List.getElem_cons_zero, List.setIfInBounds_toArray, List.set_cons_zero, List.set_cons_succ])
      refine wpAnyH_take (i := 4) (v := ?_) rfl (by kernel_rfl) (by kernel_rfl) (by kernel_rfl) (fun _ _ _ h => h) (Or.inl ⟨by rfl, ?_⟩) (by assumption) ?_
      rotate_left
      · intro w hSw
        (try dsimp only at hSw)
        go_simp
        all_goals (with_reducible rfl)
      (try simp only [Act.put, List.getElem_toArray, List.getElem_cons_succ, List.getElem_cons_zero, List.setIfInBounds_toArray, List.set_cons_zero, List.set_cons_succ])
      refine wpAnyH_done (by kernel_rfl) ?_ _
      refine onlyN_intro ?_
      go_simp
      gi_wp2
      refine ⟨by simp, .inl ⟨_, _, rfl, run_takeDeferred (X7.out _), ?_⟩⟩
      refine ⟨_, results_tmp3 rfl _ _ _, ?_⟩
      exact rec_ok HP.out HE.out HRD.out (by omega) hnW KW.out hFlt hRlt S56.out D6.out L6.out X6.out V6.out R6'.out _ rfl
    · have hpos : 0 < rest.length := by omega
      have hFw : ¬ F w.heap.size := fun hf => by have := hFlt _ hf; omega
      have hE : recE D ps rest = writeE D (lenC ps : Nat) (List.replicate rest.length 0) := by unfold recE; rw [if_neg h0]
      have hRD : recD D ps rest = writeD D (lenC ps : Nat) (List.replicate rest.length 0) := by unfold recD; rw [if_neg h0]
      have HE := Lib.hid hE
      have HRD := Lib.hid (congrArg syncD hRD).symm
      clear hE hRD h0 HHELD l1 HEND
      have kd : Kp NoB W W.drew := (Kp.refl NoB W).drew
      have dq := HDW.out.nob kd
      have lq := HLW.out.nob kd
      have vq := HV.out.nob kd
      have rq := HRW.out.nob kd
      have cq := kd.cell HVC.out id
      have xq := kd.obj HDD.out id
      generalize W.drew = wq at *
      have kdd : Kp NoB wq wq.drew := (Kp.refl NoB wq).drew
      have kal : Kp NoB wq.drew (wq.drew.alloc (.cells (madeCells #[.int .u8 0] rest.length) 5)) := (Kp.refl _ _).alloc _
      have hend := end_calls (dq.nob kdd)
      rw [HLEN.out] at hend
      have l1 := (lq.nob kdd).l1
      have hmk : ∀ W', (Instr.makeSlice 22 (.int .i64 (rest.length : Int)) (.int .i64 (rest.length : Int))).run Tryd.prog W' = .ok (.slice (some ⟨W'.heap.size, 0, none⟩) rest.length rest.length) (W'.alloc (.cells (madeCells #[.int .u8 0] rest.length) 5)) := fun W' => make_bytes byteT rest.length (by omega) W'
      have hwr := write_calls ((dq.nob kdd).nob kal) (lenC ps : Nat) (List.replicate rest.length 0) (.slice (some ⟨wq.drew.heap.size, 0, none⟩) rest.length rest.length) ((Own.made 5 wq.drew rest.length (by omega)).bs.mono fun k hk h => ⟨hk, fun hf => by have h1 := hFlt k hf; have h2 : wq.heap.size ≤ k := h.1; have h3 := KW.out.size; have h4 := kd.size; omega⟩) ⟨by omega, by omega⟩ hw
      have kda := (kd.trans kdd).trans kal
      have HEND := Lib.hid hend
      have HWR := Lib.hid hwr
      have KDA := Lib.hid kda
      have DQ := Lib.hid ((dq.nob kdd).nob kal)
      have LQ := Lib.hid ((lq.nob kdd).nob kal)
      have VQ := Lib.hid ((vq.nob kdd).nob kal)
      have RQ := Lib.hid ((rq.nob kdd).nob kal)
      have CQ := Lib.hid (kal.cell (kdd.cell cq id) id)
      have XQ := Lib.hid (kal.obj (kdd.obj xq id) id)
      clear hend hwr kda dq lq vq rq cq xq kal kdd kd
      gi_wp2
      refine wpIn_wide.2 ?_
      refine wp_onlyN ?_
      refine wp_region_held_drew (S := (fun w' => Kp (fun k => F k) wq.drew w')) (by kernel_rfl) (Kp.refl _ _) (fun hHeld => ?_)
      refine wpAnyH_take (i := 0) (v := ?_) rfl (by kernel_rfl) (by kernel_rfl) (by kernel_rfl) (fun _ _ _ h => h) (Or.inl ⟨by rfl, ?_⟩) (by assumption) ?_
      rotate_left
      · intro w hSw
        (try dsimp only at hSw)
        go_simp
        all_goals (with_reducible rfl)
      (try simp only [Act.put, List.getElem_toArray, List.getElem_cons_succ, List.getElem_cons_zero, List.setIfInBounds_toArray, List.set_cons_zero, List.set_cons_succ])
      refine wpAnyH_take (i := 1) (v := ?_) rfl (by kernel_rfl) (by kernel_rfl) (by kernel_rfl) (fun _ _ _ h => h) (Or.inl ⟨by rfl, ?_⟩) (by assumption) ?_
      rotate_left
      · intro w hSw
        (try dsimp only at hSw)
        go_simp
        all_goals (with_reducible rfl)
      (try simp only [Act.put, List.getElem_toArray, List.getElem_cons_succ, List.getElem_cons_zero, List.setIfInBounds_toArray, List.set_cons_zero, List.set_cons_succ])
      refine wpAnyH_take (i := 2) (v := ?_) rfl (by kernel_rfl) (by kernel_rfl) (by kernel_rfl) (fun _ _ _ h => h) (Or.inl ⟨by rfl, ?_⟩) (by assumption) ?_
      rotate_left
      · intro w hSw
        (try dsimp only at hSw)
        go_simp
        all_goals (with_reducible rfl)
      (try simp only [Act.put, List.getElem_toArray, List.getElem_cons_succ, List.getElem_cons_zero, List.setIfInBounds_toArray, List.set_cons_zero, List.set_cons_succ])
      refine wpAnyH_take (i := 3) (v := ?_) rfl (by kernel_rfl) (by kernel_rfl) (by kernel_rfl) (fun _ _ _ h => h) (Or.inl ⟨by rfl, ?_⟩) (by assumption) ?_
      rotate_left
      · intro w hSw
        (try dsimp only at hSw)
        go_simp
        all_goals (with_reducible rfl)
      (try simp only [Act.put, List.getElem_toArray, List.getElem_cons_succ, List.getElem_cons_zero, List.setIfInBounds_toArray, List.set_cons_zero, List.set_cons_succ])
      refine wpAnyH_take (i := 4) (v := ?_) rfl (by kernel_rfl) (by kernel_rfl) (by kernel_rfl) (fun _ _ _ h => h) (Or.inl ⟨by rfl, ?_⟩) (by assumption) ?_
      rotate_left
      · intro w hSw
        (try dsimp only at hSw)
        have cc := hSw.cell l1 hFw
        go_simp
        all_goals (with_reducible rfl)
      (try simp only [Act.put, List.getElem_toArray, List.getElem_cons_succ, List.getElem_cons_zero, List.setIfInBounds_toArray, List.set_cons_zero, List.set_cons_succ])
      refine wpAnyH_take (i := 5) (v := ?_) rfl (by kernel_rfl) (by kernel_rfl) (by kernel_rfl) (fun _ _ _ h => h) (Or.inl ⟨by rfl, ?_⟩) (by assumption) ?_
      rotate_left
      · intro w hSw
        (try dsimp only at hSw)
        go_simp
        all_goals (with_reducible rfl)
      (try simp only [Act.put, List.getElem_toArray, List.getElem_cons_succ, List.getElem_cons_zero, List.setIfInBounds_toArray, List.set_cons_zero, List.set_cons_succ])
      refine wpAnyH_take (i := 7) (v := ?_) rfl (by kernel_rfl) (by kernel_rfl) (by kernel_rfl) (fun _ _ _ h => h) (Or.inl ⟨by rfl, ?_⟩) (by assumption) ?_
      rotate_left
      · intro w hSw
        (try dsimp only at hSw)
        go_simp
        all_goals (with_reducible rfl)
      (try simp only [Act.put, List.getElem_toArray, List.getElem_cons_succ, List.getElem_cons_zero, List.setIfInBounds_toArray, List.set_cons_zero, List.set_cons_succ])
      refine wpAnyH_take (i := 8) (v := ?_) rfl (by kernel_rfl) (by kernel_rfl) (by kernel_rfl) (fun _ _ _ h => h) (Or.inl ⟨by rfl, ?_⟩) (by assumption) ?_
      rotate_left
      · intro w hSw
        (try dsimp only at hSw)
        go_simp
        all_goals (with_reducible rfl)
      (try simp only [Act.put, List.getElem_toArray, List.getElem_cons_succ, List.getElem_cons_zero, List.setIfInBounds_toArray, List.set_cons_zero, List.set_cons_succ])
      refine wpAnyH_take (i := 9) (v := ?_) rfl (by kernel_rfl) (by kernel_rfl) (by kernel_rfl) (fun _ _ _ h => h) (Or.inl ⟨by rfl, ?_⟩) (by assumption) ?_
      rotate_left
      · intro w hSw
        (try dsimp only at hSw)
        go_simp
        all_goals (with_reducible rfl)
      (try simp only [Act.put, List.getElem_toArray, List.getElem_cons_succ, List.getElem_cons_zero, List.setIfInBounds_toArray, List.set_cons_zero, List.set_cons_succ])
      refine wpAnyH_take (i := 10) (v := ?_) rfl (by kernel_rfl) (by kernel_rfl) (by kernel_rfl) (fun _ _ _ h => h) (Or.inl ⟨by rfl, ?_⟩) (by assumption) ?_
      rotate_left
      · intro w hSw
        (try dsimp only at hSw)
        have cc := hSw.cell l1 hFw
        go_simp
        all_goals (with_reducible rfl)
      (try simp only [Act.put, List.getElem_toArray, List.getElem_cons_succ, List.getElem_cons_zero, List.setIfInBounds_toArray, List.set_cons_zero, List.set_cons_succ])
      refine wpAnyH_ready (rs := [6]) (by kernel_rfl) (by simp) ?_
      refine AllReadyH.cons rfl (fun K hK => ?_) AllReadyH.nil
      (try rw [if_pos (by rfl)])
      go_simp
      refine HEND.out.mono ?_
      rintro e wz ⟨rfl, rfl⟩
      refine hK.out _ _ ?_ (fun hHeld => ?_)
      · exact hHeld
      clear hK K
      (try simp only [Act.put, List.getElem_toArray, List.getElem_cons_succ, List.getElem_cons_zero, List.setIfInBounds_toArray, List.set_cons_zero, List.set_cons_succ])
      refine wpAnyH_take (i := 11) (v := .int .i64 (rest.length : Int)) rfl (by kernel_rfl) (by kernel_rfl) (by kernel_rfl) (fun _ _ _ h => h) (Or.inl ⟨by rfl, ?_⟩) (by assumption) ?_
      · intro w hSw
        (try dsimp only at hSw)
        go_simp
        all_goals (first | (with_reducible rfl) | (rw [wrap_in (by omega) (by omega)]; omega))
      (try simp only [Act.put, List.getElem_toArray, List.getElem_cons_succ, List.getElem_cons_zero, List.setIfInBounds_toArray, List.set_cons_zero, List.set_cons_succ])
      refine wpAnyH_ready (rs := [12]) (by kernel_rfl) (by simp) ?_
      refine AllReadyH.cons rfl (fun K hK => ?_) AllReadyH.nil
      (try rw [if_pos (by rfl)])
      go_simp
      refine hK.out _ _ ?_ (fun hHeld => ?_)
      · exact hHeld.alloc _
      clear hK K
      (try simp only [Act.put, List.getElem_toArray, List.getElem_cons_succ, List.getElem_cons_zero, List.setIfInBounds_toArray, List.set_cons_zero, List.set_cons_succ])
      refine wpAnyH_ready (rs := [13]) (by kernel_rfl) (by simp) ?_
      refine AllReadyH.cons rfl (fun K hK => ?_) AllReadyH.nil
      (try rw [if_pos (by rfl)])
      go_simp
      refine HWR.out.mono ?_
      rintro e w5 ⟨rfl, F5, R5, d5, s5⟩
      have k5 := s5.kp
      refine hK.out _ _ ?_ (fun hHeld => ?_)
      · exact hHeld.trans s5.kp
      clear hK K
      (try simp only [Act.put, List.getElem_toArray, List.getElem_cons_succ, List.getElem_cons_zero, List.setIfInBounds_toArray, List.set_cons_zero, List.set_cons_succ])
      refine wpAnyH_take (i := 14) (v := ?_) rfl (by kernel_rfl) (by kernel_rfl) (by kernel_rfl) (fun _ _ _ h => h) (Or.inl ⟨by rfl, ?_⟩) (by assumption) ?_
      rotate_left
      · intro w hSw
        (try dsimp only at hSw)
        go_simp
        all_goals (with_reducible rfl)
      (try simp only [Act.put, List.getElem_toArray, List.getElem_cons_succ, List.getElem_cons_zero, List.setIfInBounds_toArray, List.set_cons_zero, List.set_cons_succ])
      refine wpAnyH_done (by kernel_rfl) ?_ _
      refine onlyN_intro ?_
      go_simp
      clear hHeld hmk l1 HEND HWR
      have s5 := (Step.of_nob KDA.out : Step F R W _ F R).trans s5
      have hFb : ∀ k, w.heap.size ≤ k → ¬ F k := fun k h1 hf => by have := hFlt k hf; omega
      have l5 := LQ.out.kp k5 (hFb _ (Nat.le_refl _))
      have v5 := VQ.out.kp k5 fun k _ hk => hFb k (by omega)
      have r5 := RQ.out.kp k5 fun k _ hk => hFb k (by omega)
      have c5 := k5.cell CQ.out (hFb (w.heap.size + 1) (by omega))
      have x5 := k5.obj XQ.out (hFb _ (by omega))
      clear k5 hFb KDA DQ LQ VQ RQ CQ XQ
      by_cases hz : writeE D (lenC ps : Nat) (List.replicate rest.length 0) = 0
      · have HE := Lib.hid (HE.out.trans hz)
        rw [hz]
        have D5 : ∃ D5, D5 = writeD D (lenC ps : Nat) (List.replicate rest.length 0) := ⟨_, rfl⟩
        obtain ⟨D5, hD5⟩ := D5
        rw [← hD5] at d5
        have HRD : Hid (syncD D5 = syncD (recD D ps rest)) := by rw [hD5]; exact HRD
        clear hz hD5
        gi_wp2
        refine ⟨trivial, (callsIn_wide.2 (sync_calls d5)).mono ?_⟩
        rintro e w6 ⟨rfl, F6, R6, d6, s6⟩
        have hF5 : ∀ k, w.heap.size ≤ k → k < W.heap.size → ¬ F5 k := fun k h1 h2 hf => (s5.f k hf).elim (fun h => by have := hFlt k h; omega) fun h => by omega
        have l6 := l5.kp s6.kp (hF5 _ (Nat.le_refl _) (by omega))
        have v6 := v5.kp s6.kp fun k _ hk => hF5 k (by omega) hk.2
        have r6 := r5.kp s6.kp fun k _ hk => hF5 k (by omega) hk.2
        have c6 := s6.kp.cell c5 (hF5 (w.heap.size + 1) (by omega) (by omega))
        have x6 := s6.kp.obj x5 (hF5 _ (by omega) hnW)
        have s56 := s5.trans s6
        have e3 := l6.l3
        have e4 := l6.l4
        have f4 := l6.fz 4 (by decide)
        have c7 : ∀ v : Value, (w6.setCell ⟨w.heap.size, 4, none⟩ v).cell? ⟨w.heap.size + 1, 0, none⟩ = some (.slice Ao us.length co) := fun v => (World.cell?_setCell_other w6 ⟨w.heap.size, 4, none⟩ ⟨w.heap.size + 1, 0, none⟩ v (by intro h; injection h with h _; omega)).trans c6
        have x7 : ∀ v : Value, (w6.setCell ⟨w.heap.size, 4, none⟩ v).drew.heap[w4.heap.size]? = some (.deferred (some [])) := fun v => (((Kp.refl (fun k => k = w.heap.size) w6).setCell (p := ⟨w.heap.size, 4, none⟩) (.inr rfl) v).drew).obj x6 (show ¬ (w4.heap.size = w.heap.size) by omega)
        have L6 := Lib.hid l6
        have V6 := Lib.hid v6
        have R6' := Lib.hid r6
        have X6 := Lib.hid x6
        have D6 := Lib.hid d6
        have S56 := Lib.hid s56
        have X7 := Lib.hid x7
        clear l5 v5 r5 c5 x5 d5 s5 s6 l6 v6 r6 x6 d6 s56 c6 hF5 x7
        gi_wp2
        refine wpIn_wide.2 ?_
        refine wp_onlyN ?_
        refine wp_region_held_drew (S := (fun w' => w' = (w6.setCell ⟨w.heap.size, 4, none⟩ (.int .u32 (ps.length : Int))).drew)) (by kernel_rfl) rfl (fun hHeld => ?_)
        refine wpAnyH_take (i := 0) (v := ?_) rfl (by kernel_rfl) (by kernel_rfl) (by kernel_rfl) (fun _ _ _ h => h) (Or.inl ⟨by rfl, ?_⟩) (by assumption) ?_
        rotate_left
        · intro w hSw
          (try dsimp only at hSw)
          go_simp
          all_goals (with_reducible rfl)
        (try simp only [Act.put, List.getElem_toArray, List.getElem_cons_succ, List.getElem_cons_zero, List.setIfInBounds_toArray, List.set_cons_zero, List.set_cons_succ])
        refine wpAnyH_take (i := 1) (v := ?_) rfl (by kernel_rfl) (by kernel_rfl) (by kernel_rfl) (fun _ _ _ h => h) (Or.inl ⟨by rfl, ?_⟩) (by assumption) ?_
        rotate_left
        · intro w hSw
          (try dsimp only at hSw)
          subst hSw
          have cc := c7 (.int .u32 (ps.length : Int))
          go_simp
          all_goals (with_reducible rfl)
        (try simp only [Act.put, List.getElem_toArray, List.getElem_cons_succ, List.getElem_cons_zero, List.setIfInBounds_toArray, List.set_cons_zero, List.set_cons_succ])
        refine wpAnyH_take (i := 2) (v := ?_) rfl (by kernel_rfl) (by kernel_rfl) (by kernel_rfl) (fun _ _ _ h => h) (Or.inl ⟨by rfl, ?_⟩) (by assumption) ?_
        rotate_left
        · intro w hSw
          (try dsimp only at hSw)
          go_simp
          all_goals (with_reducible rfl)
        (try simp only [Act.put, List.getElem_toArray, List.getElem_cons_succ, List.getElem_cons_zero, List.setIfInBounds_toArray, List.set_cons_zero, List.set_cons_succ])
        refine wpAnyH_take (i := 3) (v := ?_) rfl (by kernel_rfl) (by kernel_rfl) (by kernel_rfl) (fun _ _ _ h => h) (Or.inl ⟨by rfl, ?_⟩) (by assumption) ?_
        rotate_left
        · intro w hSw
          (try dsimp only at hSw)
          go_simp
          all_goals (with_reducible rfl)
        (try simp only [Act.put, List.getElem_toArray, List.getElem_cons_succ, List.getElem_cons_zero, List.setIfInBounds_toArray, List.set_cons_zero, List.set_cons_succ])
        refine wpAnyH_take (i := 4) (v := ?_) rfl (by kernel_rfl) (by kernel_rfl) (by kernel_rfl) (fun _ _ _ h => h) (Or.inl ⟨by rfl, ?_⟩) (by assumption) ?_
        rotate_left
        · intro w hSw
          (try dsimp only at hSw)
          go_simp
          all_goals (with_reducible rfl)
        (try simp only [Act.put, List.getElem_toArray, List.getElem_cons_succ, List.getElem_cons_zero, List.setIfInBounds_toArray, List.set_cons_zero, List.set_cons_succ])
        refine wpAnyH_done (by kernel_rfl) ?_ _
        refine onlyN_intro ?_
        go_simp
        gi_wp2
        refine ⟨by simp, .inl ⟨_, _, rfl, run_takeDeferred (X7.out _), ?_⟩⟩
        refine ⟨_, results_tmp3 rfl _ _ _, ?_⟩
        exact rec_ok HP.out HE.out HRD.out (by omega) hnW KW.out hFlt hRlt S56.out D6.out L6.out X6.out V6.out R6'.out _ rfl
      · have hDD : writeD D (lenC ps : Nat) (List.replicate rest.length 0) = D := by unfold writeD; rw [if_neg hz]
        rw [hDD] at d5
        obtain ⟨N, hN, hN0⟩ : ∃ N, N = writeE D (lenC ps : Nat) (List.replicate rest.length 0) ∧ N ≠ 0 := ⟨_, rfl, hz⟩
        have HE : Hid (recE D ps rest = N) := Lib.hid (HE.out.trans hN.symm)
        rw [← hN]
        have hne : ((N : Int) == 0) = false := by simp; exact hN0
        have X5 := Lib.hid x5
        have S5 := Lib.hid s5
        have D5 := Lib.hid d5
        clear hN hz hDD x5 s5 d5 l5 v5 r5 c5
        gi_wp2
        refine ⟨by simp, .inl ⟨_, _, rfl, run_takeDeferred X5.out, ?_⟩⟩
        refine ⟨_, results_tmp3 rfl _ _ _, ?_⟩
        exact rec_no HP.out (by rw [HE.out]; exact hN0) (by omega) hnW KW.out hFlt hRlt S5.out D5.out _ (by rw [HE.out]; rfl)
end Go.Proofs.YtgjaggnpheoehaaDoor
