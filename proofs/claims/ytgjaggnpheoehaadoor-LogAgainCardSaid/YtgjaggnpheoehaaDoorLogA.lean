/- A log in memory: Next, Sure, Size, Sync, Append. -/
import Derived.Test.YtgjaggnpheoehaaDoorDisk6
import Derived.Test.YtgjaggnpheoehaaDoorOpenUni
import Derived.Test.YtgjaggnpheoehaaDoorFrameLaw
set_option linter.unusedVariables false
set_option linter.unusedSimpArgs false
namespace Go.Proofs.YtgjaggnpheoehaaDoor
open Go.RowKit

def lenC (ps : List (List UInt8)) : Nat := (chainB 0 1 ps).length
theorem lenC_len (ps : List (List UInt8)) : 10 * ps.length ≤ lenC ps := by unfold lenC; rw [chainB_length]; omega
theorem lenC_snoc (ps : List (List UInt8)) (p : List UInt8) : lenC (ps ++ [p]) = lenC ps + (10 + p.length) := by
  unfold lenC; rw [chainB_append]; simp [chainB, length_sealN]
theorem chainS_snoc (ps : List (List UInt8)) (p : List UInt8) : chainS 0 1 (ps ++ [p]) = sumN (chainS 0 1 ps) (ps.length + 1) p := by
  rw [chainS_append, Nat.add_comm]; rfl
/-- A log: the payloads that its frames hold; how many are sure. -/
structure LogAt (w : World) (b : Nat) (d : Value) (ps : List (List UInt8)) (sure : Nat) : Prop where
  l0 : w.cell? ⟨b, 0, none⟩ = some d
  l1 : w.cell? ⟨b, 1, none⟩ = some (.int .i64 ((lenC ps : Nat) : Int))
  l2 : w.cell? ⟨b, 2, none⟩ = some (.int .u32 ((chainS 0 1 ps : Nat) : Int))
  l3 : w.cell? ⟨b, 3, none⟩ = some (.int .u32 ((ps.length + 1 : Nat) : Int))
  l4 : w.cell? ⟨b, 4, none⟩ = some (.int .u32 ((sure : Nat) : Int))
  fz : ∀ i, i < 5 → w.frozen? ⟨b, i, none⟩ = false
  c1 : lenC ps ≤ 1048576
  c2 : sure ≤ ps.length
  c3 : ∀ p ∈ ps, p.length ≤ 16384
theorem LogAt.lt {w : World} {b : Nat} {d : Value} {ps : List (List UInt8)} {s : Nat} (h : LogAt w b d ps s) : b < w.heap.size := World.block_lt_of_cell? w _ h.l0
theorem LogAt.kp {w w' : World} {F : Nat → Prop} {b : Nat} {d : Value} {ps : List (List UInt8)} {s : Nat} (h : LogAt w b d ps s) (k : Kp F w w') (hF : ¬ F b) : LogAt w' b d ps s :=
  ⟨k.cell h.l0 hF, k.cell h.l1 hF, k.cell h.l2 hF, k.cell h.l3 hF, k.cell h.l4 hF, fun i hi => (k.frozen (p := ⟨b, i, none⟩) h.lt hF).trans (h.fz i hi), h.c1, h.c2, h.c3⟩
theorem LogAt.nob {w w' : World} {b : Nat} {d : Value} {ps : List (List UInt8)} {s : Nat} (h : LogAt w b d ps s) (k : Kp NoB w w') : LogAt w' b d ps s := h.kp k id
/-- What a call on a log and its disk may do. -/
structure LStep (b : Nat) (F R : Nat → Prop) (w w' : World) (F' R' : Nat → Prop) : Prop where
  kp : Kp (fun k => F k ∨ k = b) w w'
  f : ∀ k, F' k → F k ∨ w.heap.size ≤ k
  r : ∀ k, R' k → R k ∨ w.heap.size ≤ k
theorem LStep.of_step {b : Nat} {F R F' R' : Nat → Prop} {w w' : World} (h : Step F R w w' F' R') : LStep b F R w w' F' R' := ⟨h.kp.mono fun _ _ h => .inl h, h.f, h.r⟩
theorem LStep.set {b : Nat} {F R F' R' : Nat → Prop} {w w' : World} (h : LStep b F R w w' F' R') (i : Nat) (v : Value) : LStep b F R w (w'.setCell ⟨b, i, none⟩ v) F' R' :=
  ⟨h.kp.setCell (p := ⟨b, i, none⟩) (.inr (.inr rfl)) v, h.f, h.r⟩
theorem LStep.next {b : Nat} {F R F' R' : Nat → Prop} {w w' w2 : World} (h : LStep b F R w w' F' R') (k : Kp NoB w' w2) : LStep b F R w w2 F' R' := ⟨h.kp.next k, h.f, h.r⟩
theorem LStep.clearF {b : Nat} {F R F' R' : Nat → Prop} {w w' : World} (h : LStep b F R w w' F' R') (hb : b < w.heap.size) (hF : ¬ F b) : ¬ F' b := fun hf => (h.f b hf).elim hF fun h => by omega
theorem LStep.clearR {b : Nat} {F R F' R' : Nat → Prop} {w w' : World} (h : LStep b F R w w' F' R') (hb : b < w.heap.size) (hR : ¬ R b) : ¬ R' b := fun hf => (h.r b hf).elim hR fun h => by omega
theorem DiskIs.setL {w : World} {F R : Nat → Prop} {p : Value} {D : DD} (h : DiskIs w F R p D) {b : Nat} (hF : ¬ F b) (hR : ¬ R b) (i : Nat) (v : Value) : DiskIs (w.setCell ⟨b, i, none⟩ v) F R p D :=
  h.kp ((Kp.refl (fun k => k = b) w).setCell (p := ⟨b, i, none⟩) (.inr rfl) v) fun k _ hk => by subst hk; exact ⟨hF, hR⟩
theorem cell_set_same {w : World} {b i : Nat} {u : Value} (h : w.cell? ⟨b, i, none⟩ = some u) (v : Value) : (w.setCell ⟨b, i, none⟩ v).cell? ⟨b, i, none⟩ = some v := World.cell?_setCell_same _ _ _ h
theorem cell_set_other {w : World} {b i j : Nat} {u : Value} (h : w.cell? ⟨b, j, none⟩ = some u) (v : Value) (hne : j ≠ i) : (w.setCell ⟨b, i, none⟩ v).cell? ⟨b, j, none⟩ = some u :=
  (World.cell?_setCell_other w ⟨b, i, none⟩ ⟨b, j, none⟩ v (by intro h; injection h with _ h; exact hne h.symm)).trans h
theorem LogAt.setSure {w : World} {b : Nat} {d : Value} {ps : List (List UInt8)} {s : Nat} (h : LogAt w b d ps s) (n : Nat) (hn : n ≤ ps.length) : LogAt (w.setCell ⟨b, 4, none⟩ (.int .u32 (n : Int))) b d ps n :=
  ⟨cell_set_other h.l0 _ (by decide), cell_set_other h.l1 _ (by decide), cell_set_other h.l2 _ (by decide), cell_set_other h.l3 _ (by decide), cell_set_same h.l4 _, fun i hi => by rw [World.frozen?_setCell]; exact h.fz i hi, h.c1, hn, h.c3⟩

section
variable {w : World} {b : Nat} {q : Addr} {ps : List (List UInt8)} {s : Nat}
theorem lnone_calls (h : LogAt w b (.pointer (some q)) ps s) :
    Calls Tryd.prog 57 #[.pointer (some ⟨b, 0, none⟩)] w fun e w' => e = .returned (.bool false) ∧ w = w' := by
  have h0 := h.l0
  clear h
  go_enter Tryd.func57, Tryd.ntmps57
  go_wp2
  go_ret
  exact ⟨rfl, rfl⟩
theorem lnext_calls (h : LogAt w b (.pointer (some q)) ps s) :
    Calls Tryd.prog 41 #[.pointer (some ⟨b, 0, none⟩)] w fun e w' => e = .returned (.int .u32 ((ps.length + 1 : Nat) : Int)) ∧ w = w' := by
  have hn := lnone_calls h
  have h3 := h.l3
  clear h
  go_enter Tryd.func41, Tryd.ntmps41
  go_wp2_with fail
  refine hn.mono ?_
  rintro e w1 ⟨rfl, rfl⟩
  go_wp2
  go_ret
  exact ⟨rfl, rfl⟩
theorem lsure_calls (h : LogAt w b (.pointer (some q)) ps s) :
    Calls Tryd.prog 29 #[.pointer (some ⟨b, 0, none⟩)] w fun e w' => e = .returned (.int .u32 (s : Int)) ∧ w = w' := by
  have hn := lnone_calls h
  have h3 := h.l4
  clear h
  go_enter Tryd.func29, Tryd.ntmps29
  go_wp2_with fail
  refine hn.mono ?_
  rintro e w1 ⟨rfl, rfl⟩
  go_wp2
  go_ret
  exact ⟨rfl, rfl⟩
theorem lsize_calls (h : LogAt w b (.pointer (some q)) ps s) :
    Calls Tryd.prog 28 #[.pointer (some ⟨b, 0, none⟩)] w fun e w' => e = .returned (.int .i64 ((lenC ps : Nat) : Int)) ∧ w = w' := by
  have hn := lnone_calls h
  have h3 := h.l1
  clear h
  go_enter Tryd.func28, Tryd.ntmps28
  go_wp2_with fail
  refine hn.mono ?_
  rintro e w1 ⟨rfl, rfl⟩
  go_wp2
  go_ret
  exact ⟨rfl, rfl⟩
variable {F R : Nat → Prop} {D : DD}
set_option maxRecDepth 100000 in
theorem lsync_calls (h : LogAt w b (.pointer (some q)) ps s) (hd : DiskIs w F R (.pointer (some q)) D) (hF : ¬ F b) (hR : ¬ R b) :
    Calls Tryd.prog 30 #[.pointer (some ⟨b, 0, none⟩)] w fun e w' => e = .returned (.int .i64 0) ∧ ∃ F' R', LogAt w' b (.pointer (some q)) ps ps.length ∧ DiskIs w' F' R' (.pointer (some q)) { D with sure := D.seen, waits := [] } ∧ LStep b F R w w' F' R' := by
  have hn := lnone_calls h
  have h0 := h.l0
  have hlt := h.lt
  have H := Lib.hid h
  have hpl := lenC_len ps
  have hc := h.c1
  clear h
  go_enter Tryd.func30, Tryd.ntmps30
  go_wp2_with fail
  refine hn.mono ?_
  rintro e w1 ⟨rfl, rfl⟩
  go_wp2_with fail
  refine (sync_calls hd).mono ?_
  rintro e w1 ⟨rfl, F1, R1, hd1, s1⟩
  have hl1 := H.out.kp s1.kp hF
  have ls : LStep b F R w w1 F1 R1 := LStep.of_step s1
  have h3 := hl1.l3
  have h4 := hl1.l4
  have f4 := hl1.fz 4 (by decide)
  have hf1 := ls.clearF hlt hF
  have hr1 := ls.clearR hlt hR
  have HL := Lib.hid hl1
  have HD := Lib.hid hd1
  have LS := Lib.hid ls
  clear hn h0 hl1 hd1 ls s1 hd
  go_wp2_with fail
  go_ret
  exact ⟨rfl, F1, R1, HL.out.setSure ps.length (Nat.le_refl _), HD.out.setL hf1 hr1 _ _, LS.out.set _ _⟩
end
end Go.Proofs.YtgjaggnpheoehaaDoor
