/- A range over an iterator that turns the cells of one block of its own. -/
import Derived.Test.YtgjaggnpheoehaaDoorLogC
set_option linter.unusedVariables false
set_option linter.unusedSimpArgs false
namespace Go.Proofs.YtgjaggnpheoehaaDoor
open Go.RowKit Go.Shelf

/-- What has changed is cells alone: the loops' records lie as they lay. -/
theorem keeps_cells {F : Nat → Prop} {B : Nat} {W W' : World} (k : Kp F W W') (h : ∀ i, F i → B ≤ i → ∀ o, W.heap[i]? = some o → o.isCells = false → False) : KeepsFrom B W W' :=
  ⟨k.size, fun i o hB hi ho => k.obj hi fun hf => h i hf hB o hi ho⟩
/-- How a round ends here: it goes on. -/
def roundGoes (K : World → World → Prop) (J : World → Prop) (B : Nat) (W : World) : Exit → Act → World → Prop
  | .normal, _, W' => KeepsFrom B W W' ∧ K W W' ∧ J W'
  | _, _, _ => False

theorem wpIn_rangeTurns {n : Nat} {g : Operand} {p : Tmp} {assign body : Code} {Q : Exit → Act → World → Prop} {a : Act} {w : World} (h1 : 1 ≤ n) {gf : Nat} {lb : Array Value} (hg : a.eval g = .func (.func gf) #[] lb)
    (eg : ∀ args w, (callFunc gf args).run Tryd.prog w = .ok (.enter gf args) w) (b o : Nat) (hb : b < w.heap.size)
    (I S : List (List UInt8) → World → Prop)
    (hIo : ∀ ps W (l : Nat) (x y : Obj), I ps W → w.heap.size ≤ l → W.heap[l]? = some x → x.isCells = false → I ps (W.putObj l y))
    (hIb : ∀ ps A B, I ps A → Kp (fun k => k = b) A B → I ps B)
    (hiter : ∀ (l : Nat) (J : List (List UInt8) → World → Prop) (W1 : World), Kp NoB w W1 → (∀ ps A B, J ps A → Kp (fun k => k = b) A B → J ps B) →
      (∀ ps x v W0 W, J ps W0 → Kp (fun k => k = b) W0 W → BS (fun k => W0.heap.size ≤ k) W v x → lenC ps ≤ 1048576 → YieldAt Fence.wide (n - 1 - 1) Tryd.prog l #[v] W fun e W' => e = .returned (.bool true) ∧ J (ps ++ [x]) W' ∧ Kp (fun k => k = o ∨ w.heap.size ≤ k) W W') → J [] W1 →
      CallsIn Fence.wide (n - 1) Tryd.prog gf (#[.func (.yield l) #[] #[]] ++ lb) W1 fun e W' => (∃ v, e = .returned v) ∧ ∃ ps, J ps W' ∧ S ps W')
    (h0 : ∀ W1, Kp NoB w W1 → I [] W1) (a₁ : Value → Act)
    (hassign : ∀ (l : Nat) (v : Value) (W : World) (K : Act → World → Prop), K (a₁ v) W → assign.wpIn (Fence.wide.inRound l) (n - 1 - 1) Tryd.prog (Exit.then K (fun _ _ _ => False)) { tmps := a.tmps.setIfInBounds p v, defers := [] } W)
    (hbody : ∀ (l : Nat) ps x v W0 W, Kp (fun k => k = b ∨ k = w.heap.size + 1) W0 W → I ps W0 → I ps W → BS (fun k => W0.heap.size ≤ k) W v x → lenC ps ≤ 1048576 → w.heap.size ≤ W0.heap.size →
      body.wpIn (Fence.wide.inRound l) (n - 1 - 1) Tryd.prog (roundGoes (Kp fun k => k = o ∨ w.heap.size ≤ k) (I (ps ++ [x])) w.heap.size W) (a₁ v) W)
    (hdone : ∀ ps W2 W, S ps W2 → I ps W → Kp (fun k => k = w.heap.size + 1) W2 W → W.heap[w.heap.size]? = some (.deferred (some [])) → Q .normal { a with defers := { target := .collected w.heap.size, args := #[] } :: a.defers } W) :
    (Code.rangeFunc g #[p] assign body).wpIn Fence.wide n Tryd.prog Q a w := by
  refine wpIn_rangeFunc fun fn hfn => ?_
  obtain ⟨rec, hrec⟩ : ∃ rec : LoopState → Loop, rec = fun st => { state := st, pending := none, fn, tmps := a.tmps, params := #[p], assign, body, defers := w.heap.size } := ⟨_, rfl⟩
  obtain ⟨W1, hW1⟩ : ∃ W1, W1 = (w.alloc (.deferred (some []))).alloc (.loop (rec .ready)) := ⟨_, rfl⟩
  have k1 : Kp NoB w W1 := by rw [hW1]; exact ((Kp.refl NoB w).alloc _).alloc _
  have hl1 : W1.heap[w.heap.size + 1]? = some (.loop (rec .ready)) := by
    have := World.alloc_heap_new (w.alloc (.deferred (some []))) (.loop (rec .ready))
    rw [World.size_alloc] at this
    rw [hW1]; exact this
  have hd1 : W1.heap[w.heap.size]? = some (.deferred (some [])) := by
    rw [hW1]; exact (Below.heap_alloc _ _ _ (by simp)).trans (World.alloc_heap_new w _)
  have hz1 : w.heap.size + 2 ≤ W1.heap.size := by rw [hW1]; simp
  refine ⟨w.heap.size + 1, [{ target := .collected w.heap.size, args := #[] }], W1, { target := .fn (.func gf) lb, args := #[.func (.yield (w.heap.size + 1)) #[] #[]] }, W1, gf, #[.func (.yield (w.heap.size + 1)) #[] #[]] ++ lb, W1, ?_, ?_, fun _ _ => trivial, ?_, fun _ => h1, ?_⟩
  · rw [hW1, hrec]
    exact run_enterLoop_outer _ _ _ _ _
  · simp only [resolve, hg]
    simp [go_sem]
  · simp [invoke, go_sem, eg]
  · refine (hiter (w.heap.size + 1) (fun ps W => I ps W ∧ W.heap[w.heap.size + 1]? = some (.loop (rec .ready)) ∧ W.heap[w.heap.size]? = some (.deferred (some [])) ∧ w.heap.size + 2 ≤ W.heap.size) W1 k1 ?_ ?_ ⟨h0 _ k1, hl1, hd1, hz1⟩).mono ?_
    · rintro ps A B ⟨hi, hl, hd, hz⟩ k
      exact ⟨hIb _ _ _ hi k, k.obj hl (show ¬ (w.heap.size + 1 = b) by omega), k.obj hd (show ¬ (w.heap.size = b) by omega), Nat.le_trans hz k.size⟩
    · rintro ps x v W0 W ⟨hi0, hl0, hd0, hz0⟩ k hv hle
      have hi := hIb _ _ _ hi0 k
      have hl := k.obj hl0 (show ¬ (w.heap.size + 1 = b) by omega)
      have hd := k.obj hd0 (show ¬ (w.heap.size = b) by omega)
      have hlt : w.heap.size + 1 < W.heap.size := (Array.getElem?_eq_some_iff.1 hl).1
      have hy := run_yield (P := Tryd.prog) (args := #[v]) hl (by rw [hrec]; rfl)
      rw [hrec] at hy
      have hy2 : (Instr.yield (w.heap.size + 1) #[v]).run Tryd.prog W = .ok (.round (w.heap.size + 1) fn (a.tmps.setIfInBounds p v) assign body) W := by
        rw [hy]
        simp
      refine ⟨fn, _, assign, body, hy2, roundIn_of_wpIn hfn ?_⟩
      refine hassign _ v W _ ?_
      refine ⟨_, run_beginRound hl (by rw [hrec]), ?_⟩
      obtain ⟨Wb, hWb⟩ : ∃ Wb, Wb = W.putObj (w.heap.size + 1) (.loop { rec .ready with state := .busy }) := ⟨_, rfl⟩
      rw [← hWb]
      have hib : I ps Wb := by rw [hWb]; exact hIo _ _ _ _ _ hi (by omega) hl rfl
      have kb : Kp (fun k => k = w.heap.size + 1) W Wb := by rw [hWb]; exact Kp.of_grown (grownBy_putObj' W _ _) |>.mono fun k _ h => by injection h with h; exact h.symm
      have hvb : BS (fun k => W0.heap.size ≤ k) Wb v x := hv.kp kb fun k _ hk h => by have h1 : k = w.heap.size + 1 := h; have h2 : W0.heap.size ≤ k := hk; omega
      have hlb : Wb.heap[w.heap.size + 1]? = some (.loop { rec .ready with state := .busy }) := by rw [hWb]; exact World.putObj_heap_same hlt
      have hdb : Wb.heap[w.heap.size]? = some (.deferred (some [])) := by rw [hWb]; exact (World.putObj_heap_other (by omega)).trans hd
      refine wpIn_mono (hbody _ ps x v W0 Wb ((k.mono fun _ _ h => .inl h).trans (kb.mono fun _ _ h => .inr h)) hi0 hib hvb hle (by omega)) ?_
      rintro e a3 W3 hp
      cases e with
      | normal =>
        obtain ⟨hk3, hq3, hi3⟩ := hp
        have hl3 := hk3.same _ _ (by omega) hlb rfl
        have hd3 := hk3.same _ _ (Nat.le_refl _) hdb rfl
        have hlt3 := (Array.getElem?_eq_some_iff.1 hl3).1
        have hr := run_endRound (P := Tryd.prog) none hl3
        refine ⟨_, _, hr, rfl, ⟨hIo _ _ _ _ _ hi3 (by omega) hl3 rfl, ?_, (World.putObj_heap_other (by omega)).trans hd3, by simp; omega⟩, ?_⟩
        · rw [World.putObj_heap_same hlt3]
          simp [hrec]
        · refine ((kb.mono fun k _ h => ?_).trans hq3).trans ((Kp.of_grown (grownBy_putObj' W3 _ _)).mono fun k _ h => ?_)
          · exact .inr (by have h1 : k = w.heap.size + 1 := h; omega)
          · exact .inr (by injection h with h; omega)
      | ret => exact hp.elim
      | exit id => exact hp.elim
      | goto t => exact hp.elim
      | panic ch => exact hp.elim
      | outgrown => exact hp.elim
    · rintro e W2 ⟨⟨v, rfl⟩, ps, ⟨hi, hl, hd, hz⟩, hS⟩
      have hr := run_endLoop (P := Tryd.prog) hl (by rw [hrec]; simp)
      refine ⟨none, _, by rw [hrec] at hr; exact hr, hdone ps W2 _ hS (hIo _ _ _ _ _ hi (by omega) hl rfl) ?_ ((World.putObj_heap_other (by omega)).trans hd)⟩
      exact (Kp.of_grown (grownBy_putObj' W2 _ _)).mono fun k _ h => by injection h with h; exact h.symm
end Go.Proofs.YtgjaggnpheoehaaDoor
