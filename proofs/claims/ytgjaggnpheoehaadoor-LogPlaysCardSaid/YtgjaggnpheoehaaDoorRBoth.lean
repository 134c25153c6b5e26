/- Both logs and both disks: the program's and the document's side by side. -/
import Derived.Test.YtgjaggnpheoehaaDoorRLogB
import Derived.Test.YtgjaggnpheoehaaDoorDPair
import Derived.Test.YtgjaggnpheoehaaDoorLogE
set_option linter.unusedVariables false
set_option linter.unusedSimpArgs false
namespace Go.Proofs.YtgjaggnpheoehaaDoor
open Go.RowKit

structure PLStep (b : Nat) (F T : Nat → Prop) (w w' : World) (F' T' : Nat → Prop) : Prop where
  kp : Kp (fun k => F k ∨ k = b) w w'
  f : ∀ k, F' k → F k ∨ w.heap.size ≤ k
  t : ∀ k, T' k → T k ∨ w.heap.size ≤ k
/-- The program's disk under a log: what a call on the log leaves of both. -/
theorem Pair.diskL {w : World} {F T : Nat → Prop} {p r : Value} {D E : DD} (h : Pair w F T p r D E) {b : Nat} (hb : ¬ F b) (hbT : ¬ T b) :
    ∃ A R, DiskIs w A R p D ∧ (∀ k, A k → F k) ∧ (∀ k, R k → T k) ∧ ∀ w' A' R' D', DiskIs w' A' R' p D' → LStep b A R w w' A' R' → ∃ F' T', Pair w' F' T' p r D' E ∧ PLStep b F T w w' F' T' := by
  obtain ⟨A, R, B, S, h1, h2, h3, h4, h5, h6⟩ := h
  refine ⟨A, R, h1, fun k hk => (h5 k).2 (.inl hk), fun k hk => (h6 k).2 (.inl hk), fun w' A' R' D' d s => ⟨fun k => A' k ∨ B k, fun k => R' k ∨ S k, ⟨A', R', B, S, d, h2.kp s.kp fun i _ ha => ?_, fun k hk => ?_, fun k hk hr => ?_, fun k => Iff.rfl, fun k => Iff.rfl⟩, ?_⟩⟩
  · rcases ha with ha | ha
    · exact h3 i ha
    · subst ha; exact ⟨fun hB => hb ((h5 i).2 (.inr hB)), fun hS => hbT ((h6 i).2 (.inr hS))⟩
  · rcases s.f k hk with h | h
    · exact h3 k h
    · exact ⟨fun hb => by have := h2.lt k hb; omega, fun hs => by have := (h2.hR k hs).1; omega⟩
  · rcases s.r k hr with h | h
    · exact h4 k hk h
    · have := h2.lt k hk; omega
  · exact ⟨s.kp.mono fun k _ hk => hk.imp (fun hk => (h5 k).2 (.inl hk)) id, fun k hk => by
      rcases hk with hk | hk
      · exact (s.f k hk).imp (fun h => (h5 k).2 (.inl h)) id
      · exact .inl ((h5 k).2 (.inr hk)), fun k hk => by
      rcases hk with hk | hk
      · exact (s.r k hk).imp (fun h => (h6 k).2 (.inl h)) id
      · exact .inl ((h6 k).2 (.inr hk))⟩
/-- The document's disk likewise. -/
theorem Pair.refL {w : World} {F T : Nat → Prop} {p r : Value} {D E : DD} (h : Pair w F T p r D E) {b : Nat} (hb : ¬ F b) (hbT : ¬ T b) :
    ∃ B S, RefIs w B S r E ∧ (∀ k, B k → F k) ∧ (∀ k, S k → T k) ∧ ∀ w' B' S' E', RefIs w' B' S' r E' → LStep b B S w w' B' S' → ∃ F' T', Pair w' F' T' p r D E' ∧ PLStep b F T w w' F' T' := by
  obtain ⟨A, R, B, S, h1, h2, h3, h4, h5, h6⟩ := h
  refine ⟨B, S, h2, fun k hk => (h5 k).2 (.inr hk), fun k hk => (h6 k).2 (.inr hk), fun w' B' S' E' d s => ⟨fun k => A k ∨ B' k, fun k => R k ∨ S' k, ⟨A, R, B', S', h1.kp s.kp fun i _ hb' => ?_, d, fun k hk => ⟨fun hb => ?_, fun hs => ?_⟩, fun k hk hr => ?_, fun k => Iff.rfl, fun k => Iff.rfl⟩, ?_⟩⟩
  · rcases hb' with hb' | hb'
    · exact ⟨fun ha => (h3 i ha).1 hb', h4 i hb'⟩
    · subst hb'; exact ⟨fun hA => hb ((h5 i).2 (.inl hA)), fun hR => hbT ((h6 i).2 (.inl hR))⟩
  · rcases s.f k hb with h | h
    · exact (h3 k hk).1 h
    · have := h1.lt k hk; omega
  · rcases s.r k hs with h | h
    · exact (h3 k hk).2 h
    · have := h1.lt k hk; omega
  · rcases s.f k hk with h | h
    · exact h4 k h hr
    · have := (h1.hR k hr).1; omega
  · exact ⟨s.kp.mono fun k _ hk => hk.imp (fun hk => (h5 k).2 (.inr hk)) id, fun k hk => by
      rcases hk with hk | hk
      · exact .inl ((h5 k).2 (.inl hk))
      · exact (s.f k hk).imp (fun h => (h5 k).2 (.inr h)) id, fun k hk => by
      rcases hk with hk | hk
      · exact .inl ((h6 k).2 (.inl hk))
      · exact (s.r k hk).imp (fun h => (h6 k).2 (.inr h)) id⟩

/-- A log that a cell points at, or none. -/
def LogOf (w : World) (F T : Nat → Prop) (bx base : Nat) (d : Addr) (v : Value) : Option (List (List UInt8) × Nat) → Prop
  | none => v = .pointer none
  | some x => ∃ b, v = .pointer (some ⟨b, 0, none⟩) ∧ LogAt w b (.pointer (some d)) x.1 x.2 ∧ ¬ F b ∧ ¬ T b ∧ b ≠ bx ∧ base ≤ b
theorem LogOf.kp {w w' : World} {F T F' T' Z : Nat → Prop} {bx base : Nat} {d : Addr} {v : Value} {X : Option (List (List UInt8) × Nat)} (h : LogOf w F T bx base d v X) (k : Kp Z w w') (hZ : ∀ b, v = .pointer (some ⟨b, 0, none⟩) → ¬ F b → b ≠ bx → ¬ Z b)
    (hf : ∀ k, F' k → F k ∨ w.heap.size ≤ k) (ht : ∀ k, T' k → T k ∨ w.heap.size ≤ k) : LogOf w' F' T' bx base d v X := by
  cases X with
  | none => exact h
  | some x =>
    obtain ⟨b, rfl, hl, h1, h2, h3, h4⟩ := h
    exact ⟨b, rfl, hl.kp k (hZ b rfl h1 h3), fun hx => (hf b hx).elim h1 fun hge => by have := hl.lt; omega, fun hx => (ht b hx).elim h2 fun hge => by have := hl.lt; omega, h3, h4⟩
def gset (F : Nat → Prop) (bx : Nat) (pl pm : Value) (k : Nat) : Prop := F k ∨ k = bx ∨ pl = .pointer (some ⟨k, 0, none⟩) ∨ pm = .pointer (some ⟨k, 0, none⟩)
structure XStep (bx : Nat) (F : Nat → Prop) (pl pm : Value) (w w' : World) (F' : Nat → Prop) (pl' pm' : Value) : Prop where
  kp : Kp (gset F bx pl pm) w w'
  g : ∀ k, gset F' bx pl' pm' k → gset F bx pl pm k ∨ w.heap.size ≤ k
theorem XStep.of_nob {bx : Nat} {F : Nat → Prop} {pl pm : Value} {w w' : World} (k : Kp NoB w w') : XStep bx F pl pm w w' F pl pm := ⟨k.weak, fun _ h => .inl h⟩
theorem XStep.trans {bx : Nat} {F F1 F2 : Nat → Prop} {pl pm pl1 pm1 pl2 pm2 : Value} {a b c : World} (h : XStep bx F pl pm a b F1 pl1 pm1) (k : XStep bx F1 pl1 pm1 b c F2 pl2 pm2) : XStep bx F pl pm a c F2 pl2 pm2 :=
  ⟨h.kp.step k.kp fun i hi hf => (h.g i hf).elim id fun hge => absurd hi (by omega), fun i hi => (k.g i hi).elim (fun h1 => h.g i h1) fun hge => .inr (Nat.le_trans h.kp.size hge)⟩
/-- A pair of logs on a pair of disks, in the cells of block bx. X, Y: what each log holds. -/
structure BothAt (w0 w : World) (bx : Nat) (p r : Addr) (F T : Nat → Prop) (D E : DD) (X Y : Option (List (List UInt8) × Nat)) (pl pm : Value) : Prop where
  pair : Pair w F T (.pointer (some p)) (.pointer (some r)) D E
  c0 : w.cell? ⟨bx, 0, none⟩ = some (.pointer (some p))
  c1 : w.cell? ⟨bx, 1, none⟩ = some pl
  c2 : w.cell? ⟨bx, 2, none⟩ = some (.pointer (some r))
  c3 : w.cell? ⟨bx, 3, none⟩ = some pm
  fz : ∀ i, i < 4 → w.frozen? ⟨bx, i, none⟩ = false
  nF : ¬ F bx
  nT : ¬ T bx
  lx : LogOf w F T bx w0.heap.size p pl X
  ly : LogOf w F T bx w0.heap.size r pm Y
  sep : ∀ b, pl = .pointer (some ⟨b, 0, none⟩) → pm = .pointer (some ⟨b, 0, none⟩) → False
  kp : Kp NoB w0 w
  newF : ∀ k, F k → w0.heap.size ≤ k
  nbx : w0.heap.size ≤ bx
  tab : TabOk w0
section
variable {w0 w w' : World} {bx : Nat} {p r : Addr} {F T F' T' : Nat → Prop} {D E D' E' : DD} {X Y : Option (List (List UInt8) × Nat)} {pl pm : Value}
theorem BothAt.blt (h : BothAt w0 w bx p r F T D E X Y pl pm) : bx < w.heap.size := World.block_lt_of_cell? w _ h.c0
theorem BothAt.w0lt (h : BothAt w0 w bx p r F T D E X Y pl pm) : 0 < w0.heap.size := World.block_lt_of_cell? w0 _ (h.tab 0 (by decide))
theorem BothAt.table (h : BothAt w0 w bx p r F T D E X Y pl pm) : TabOk w := h.tab.nob h.kp
theorem BothAt.pstep (h : BothAt w0 w bx p r F T D E X Y pl pm) (hp : Pair w' F' T' (.pointer (some p)) (.pointer (some r)) D' E') (t : PStep F T w w' F' T') :
    BothAt w0 w' bx p r F' T' D' E' X Y pl pm ∧ XStep bx F pl pm w w' F' pl pm := by
  have hb := h.blt
  have hs := h.kp.size
  refine ⟨{ pair := hp, c0 := t.kp.cell h.c0 h.nF, c1 := t.kp.cell h.c1 h.nF, c2 := t.kp.cell h.c2 h.nF, c3 := t.kp.cell h.c3 h.nF, fz := fun i hi => (t.kp.frozen (p := ⟨bx, i, none⟩) hb h.nF).trans (h.fz i hi)
            nF := fun hf => (t.f _ hf).elim h.nF fun hge => by omega
            nT := fun hf => (t.t _ hf).elim h.nT fun hge => by omega
            lx := h.lx.kp t.kp (fun b _ hF _ => hF) t.f t.t
            ly := h.ly.kp t.kp (fun b _ hF _ => hF) t.f t.t
            sep := h.sep
            kp := h.kp.step t.kp fun i hi hf => absurd hi (by have := h.newF i hf; omega)
            newF := fun k hk => (t.f k hk).elim (h.newF k) fun hge => by omega
            nbx := h.nbx, tab := h.tab }, ⟨t.kp.mono fun k _ hk => .inl hk, fun k hk => ?_⟩⟩
  rcases hk with hk | hk
  · exact (t.f k hk).imp .inl id
  · exact .inl (.inr hk)
theorem BothAt.nob (h : BothAt w0 w bx p r F T D E X Y pl pm) (k : Kp NoB w w') : BothAt w0 w' bx p r F T D E X Y pl pm := (h.pstep (h.pair.nob k) (PStep.of_nob k)).1
/-- The program's disk, and what a call on it leaves of all. -/
theorem BothAt.disk (h : BothAt w0 w bx p r F T D E X Y pl pm) :
    ∃ A R, DiskIs w A R (.pointer (some p)) D ∧ (∀ k, A k → F k) ∧ ∀ w' A' R' D', DiskIs w' A' R' (.pointer (some p)) D' → Step A R w w' A' R' → ∃ F' T', BothAt w0 w' bx p r F' T' D' E X Y pl pm ∧ XStep bx F pl pm w w' F' pl pm ∧ PStep F T w w' F' T' := by
  obtain ⟨A, R, hd, hA, hn⟩ := h.pair.disk
  refine ⟨A, R, hd, hA, fun w' A' R' D' d s => ?_⟩
  obtain ⟨F', T', hp, t⟩ := hn _ _ _ _ d s
  have := h.pstep hp t
  exact ⟨F', T', this.1, this.2, t⟩
theorem BothAt.ref (h : BothAt w0 w bx p r F T D E X Y pl pm) :
    ∃ B S, RefIs w B S (.pointer (some r)) E ∧ (∀ k, B k → F k) ∧ ∀ w' B' S' E', RefIs w' B' S' (.pointer (some r)) E' → Step B S w w' B' S' → ∃ F' T', BothAt w0 w' bx p r F' T' D E' X Y pl pm ∧ XStep bx F pl pm w w' F' pl pm ∧ PStep F T w w' F' T' := by
  obtain ⟨A, R, hd, hA, hn⟩ := h.pair.ref
  refine ⟨A, R, hd, hA, fun w' A' R' D' d s => ?_⟩
  obtain ⟨F', T', hp, t⟩ := hn _ _ _ _ d s
  have := h.pstep hp t
  exact ⟨F', T', this.1, this.2, t⟩
/-- The program's log on its disk. -/
theorem BothAt.progL {b : Nat} {x : List (List UInt8) × Nat} (h : BothAt w0 w bx p r F T D E (some x) Y (.pointer (some ⟨b, 0, none⟩)) pm) :
    ∃ A R, LogAt w b (.pointer (some p)) x.1 x.2 ∧ DiskIs w A R (.pointer (some p)) D ∧ ¬ A b ∧ ¬ R b ∧ ¬ A 0 ∧ b ≠ 0 ∧ (∀ k, A k → F k) ∧
      ∀ w' A' R' D' x', LogAt w' b (.pointer (some p)) x'.1 x'.2 → DiskIs w' A' R' (.pointer (some p)) D' → LStep b A R w w' A' R' → ∃ F' T', BothAt w0 w' bx p r F' T' D' E (some x') Y (.pointer (some ⟨b, 0, none⟩)) pm ∧ XStep bx F (.pointer (some ⟨b, 0, none⟩)) pm w w' F' (.pointer (some ⟨b, 0, none⟩)) pm ∧ PLStep b F T w w' F' T' := by
  obtain ⟨b', he, hl, h1, h2, h3, h4⟩ := h.lx
  injection he with he
  injection he with he
  injection he with he
  subst he
  obtain ⟨A, R, hd, hA, hR, hn⟩ := h.pair.diskL h1 h2
  have hb := h.blt
  have hs := h.kp.size
  have hz := h.w0lt
  refine ⟨A, R, hl, hd, fun ha => h1 (hA _ ha), fun hr => h2 (hR _ hr), fun h0 => by have := h.newF 0 (hA 0 h0); omega, by omega, hA, fun w' A' R' D' x' l d s => ?_⟩
  obtain ⟨F', T', hp, t⟩ := hn _ _ _ _ d s
  have hbx : ¬ (F bx ∨ bx = b) := fun h' => h'.elim h.nF fun he => h3 he.symm
  have hbl : ∀ k, F' k → F k ∨ w.heap.size ≤ k := t.f
  refine ⟨F', T', {
            pair := hp
            c0 := t.kp.cell h.c0 hbx
            c1 := t.kp.cell h.c1 hbx
            c2 := t.kp.cell h.c2 hbx
            c3 := t.kp.cell h.c3 hbx
            fz := fun i hi => (t.kp.frozen (p := ⟨bx, i, none⟩) hb hbx).trans (h.fz i hi)
            nF := fun hf => (t.f _ hf).elim h.nF fun hge => by omega
            nT := fun hf => (t.t _ hf).elim h.nT fun hge => by omega
            lx := ⟨b, rfl, l, fun hf => (t.f _ hf).elim h1 fun hge => by have := hl.lt; omega, fun hf => (t.t _ hf).elim h2 fun hge => by have := hl.lt; omega, h3, h4⟩
            ly := h.ly.kp t.kp (fun c hc hF _ hz => hz.elim hF fun he => h.sep b rfl (by rw [hc, he])) t.f t.t
            sep := h.sep
            kp := h.kp.step t.kp fun i hi hf => absurd hi (by rcases hf with hf | hf; have := h.newF i hf; omega; omega)
            newF := fun k hk => (t.f k hk).elim (h.newF k) fun hge => by omega
            nbx := h.nbx, tab := h.tab }, ⟨t.kp.mono fun k _ hk => hk.elim .inl fun he => .inr (.inr (.inl (by rw [he]))), fun k hk => ?_⟩, t⟩
  rcases hk with hk | hk
  · exact (t.f k hk).imp .inl id
  · exact .inl (.inr hk)
/-- The document's log on its disk. -/
theorem BothAt.refL {b : Nat} {x : List (List UInt8) × Nat} (h : BothAt w0 w bx p r F T D E X (some x) pl (.pointer (some ⟨b, 0, none⟩))) :
    ∃ A R, LogAt w b (.pointer (some r)) x.1 x.2 ∧ RefIs w A R (.pointer (some r)) E ∧ ¬ A b ∧ ¬ R b ∧ (∀ k, A k → F k) ∧
      ∀ w' A' R' E' x', LogAt w' b (.pointer (some r)) x'.1 x'.2 → RefIs w' A' R' (.pointer (some r)) E' → LStep b A R w w' A' R' → ∃ F' T', BothAt w0 w' bx p r F' T' D E' X (some x') pl (.pointer (some ⟨b, 0, none⟩)) ∧ XStep bx F pl (.pointer (some ⟨b, 0, none⟩)) w w' F' pl (.pointer (some ⟨b, 0, none⟩)) ∧ PLStep b F T w w' F' T' := by
  obtain ⟨b', he, hl, h1, h2, h3, h4⟩ := h.ly
  injection he with he
  injection he with he
  injection he with he
  subst he
  obtain ⟨A, R, hd, hA, hR, hn⟩ := h.pair.refL h1 h2
  have hb := h.blt
  have hs := h.kp.size
  refine ⟨A, R, hl, hd, fun ha => h1 (hA _ ha), fun hr => h2 (hR _ hr), hA, fun w' A' R' D' x' l d s => ?_⟩
  obtain ⟨F', T', hp, t⟩ := hn _ _ _ _ d s
  have hbx : ¬ (F bx ∨ bx = b) := fun h' => h'.elim h.nF fun he => h3 he.symm
  refine ⟨F', T', {
            pair := hp
            c0 := t.kp.cell h.c0 hbx
            c1 := t.kp.cell h.c1 hbx
            c2 := t.kp.cell h.c2 hbx
            c3 := t.kp.cell h.c3 hbx
            fz := fun i hi => (t.kp.frozen (p := ⟨bx, i, none⟩) hb hbx).trans (h.fz i hi)
            nF := fun hf => (t.f _ hf).elim h.nF fun hge => by omega
            nT := fun hf => (t.t _ hf).elim h.nT fun hge => by omega
            ly := ⟨b, rfl, l, fun hf => (t.f _ hf).elim h1 fun hge => by have := hl.lt; omega, fun hf => (t.t _ hf).elim h2 fun hge => by have := hl.lt; omega, h3, h4⟩
            lx := h.lx.kp t.kp (fun c hc hF _ hz => hz.elim hF fun he => h.sep b (by rw [hc, he]) rfl) t.f t.t
            sep := h.sep
            kp := h.kp.step t.kp fun i hi hf => absurd hi (by rcases hf with hf | hf; have := h.newF i hf; omega; omega)
            newF := fun k hk => (t.f k hk).elim (h.newF k) fun hge => by omega
            nbx := h.nbx, tab := h.tab }, ⟨t.kp.mono fun k _ hk => hk.elim .inl fun he => .inr (.inr (.inr (by rw [he]))), fun k hk => ?_⟩, t⟩
  rcases hk with hk | hk
  · exact (t.f k hk).imp .inl id
  · exact .inl (.inr hk)
end
end Go.Proofs.YtgjaggnpheoehaaDoor
