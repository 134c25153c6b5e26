/- What each call does to both logs and both disks. -/
import Derived.Test.YtgjaggnpheoehaaDoorLRec
import Derived.Test.YtgjaggnpheoehaaDoorLogN
import Derived.Test.YtgjaggnpheoehaaDoorLFew
set_option linter.unusedVariables false
set_option linter.unusedSimpArgs false
namespace Go.Proofs.YtgjaggnpheoehaaDoor
open Go.RowKit

section
variable {w0 w : World} {bx : Nat} {p r : Addr} {F T : Nat → Prop} {D E : DD} {X Y : Option (List (List UInt8) × Nat)} {pl pm : Value}
theorem BothAt.ge (h : BothAt w0 w bx p r F T D E X Y pl pm) : ∀ k, gset F bx pl pm k → w0.heap.size ≤ k := fun k hk => by
  rcases hk with hk | hk | hk | hk
  · exact h.newF k hk
  · subst hk; exact h.nbx
  · cases X with
    | none => have := h.lx; rw [hk] at this; have he : Value.pointer (some ⟨k, 0, none⟩) = .pointer none := this; injection he with he; cases he
    | some x =>
      obtain ⟨b, he, _, _, _, _, hb⟩ := h.lx
      rw [hk] at he; injection he with he; injection he with he; injection he with he
      subst he; exact hb
  · cases Y with
    | none => have := h.ly; rw [hk] at this; have he : Value.pointer (some ⟨k, 0, none⟩) = .pointer none := this; injection he with he; cases he
    | some x =>
      obtain ⟨b, he, _, _, _, _, hb⟩ := h.ly
      rw [hk] at he; injection he with he; injection he with he; injection he with he
      subst he; exact hb
theorem BothAt.lt (h : BothAt w0 w bx p r F T D E X Y pl pm) : ∀ k, gset F bx pl pm k → k < w.heap.size := fun k hk => by
  rcases hk with hk | hk | hk | hk
  · exact h.pair.lt k hk
  · subst hk; exact h.blt
  · cases X with
    | none => have := h.lx; rw [hk] at this; have he : Value.pointer (some ⟨k, 0, none⟩) = .pointer none := this; injection he with he; cases he
    | some x =>
      obtain ⟨b, he, hb, _⟩ := h.lx
      rw [hk] at he; injection he with he; injection he with he; injection he with he
      subst he; exact hb.lt
  · cases Y with
    | none => have := h.ly; rw [hk] at this; have he : Value.pointer (some ⟨k, 0, none⟩) = .pointer none := this; injection he with he; cases he
    | some x =>
      obtain ⟨b, he, hb, _⟩ := h.ly
      rw [hk] at he; injection he with he; injection he with he; injection he with he
      subst he; exact hb.lt
/-- What was handed in is not touched. -/
theorem BothAt.oldB {w' : World} {F' : Nat → Prop} {pl' pm' v : Value} {l : List UInt8} (h : BothAt w0 w bx p r F T D E X Y pl pm) (t : XStep bx F pl pm w w' F' pl' pm') (hb : BS (fun k => k < w0.heap.size) w v l) : BS (fun k => k < w0.heap.size) w' v l :=
  hb.kp t.kp fun k _ hk hg => by have := h.ge k hg; omega
theorem BothAt.oldV {w' : World} {F' : Nat → Prop} {pl' pm' v : Value} {us : List Value} (h : BothAt w0 w bx p r F T D E X Y pl pm) (t : XStep bx F pl pm w w' F' pl' pm') (hb : Vals (fun k => k < w0.heap.size) w v us) : Vals (fun k => k < w0.heap.size) w' v us :=
  hb.kp t.kp fun k _ hk hg => by have := h.ge k hg; omega
/-- What a call leaves. -/
def After (w0 : World) (bx : Nat) (p r : Addr) (F : Nat → Prop) (w w' : World) (D E : DD) (X Y : Option (List (List UInt8) × Nat)) (pl pm : Value) : Prop :=
  ∃ F' T', BothAt w0 w' bx p r F' T' D E X Y pl pm ∧ XStep bx F pl pm w w' F' pl pm
theorem BothAt.write1 (h : BothAt w0 w bx p r F T D E X Y pl pm) (a : Int) (b : List UInt8) (vb : Value) (hb : BS (fun k => k < w0.heap.size) w vb b) (ha : -9223372036854775808 ≤ a ∧ a ≤ 9223372036854775807) (hw : D.waits.length ≤ 100000) :
    Calls Tryd.prog 45 #[.pointer (some p), .int .i64 a, vb] w fun e w' => e = .returned (.int .i64 (writeE D a b : Nat)) ∧ After w0 bx p r F w w' (writeD D a b) E X Y pl pm := by
  obtain ⟨A, R, hd, hA, hn⟩ := h.disk
  refine (write_calls hd a b vb (hb.mono fun k hk hlt => ⟨hk, fun ha => by have := h.newF k (hA k ha); omega⟩) ha (by omega)).mono ?_
  rintro e w' ⟨he, A', R', d, s⟩
  obtain ⟨F', T', b1, t1, _⟩ := hn _ _ _ _ d s
  exact ⟨he, F', T', b1, t1⟩
theorem BothAt.write2 (h : BothAt w0 w bx p r F T D E X Y pl pm) (a : Int) (b : List UInt8) (vb : Value) (hb : BS (fun k => k < w0.heap.size) w vb b) (ha : -9223372036854775808 ≤ a ∧ a ≤ 9223372036854775807) (hw : E.waits.length ≤ 100000) (hbl : b.length ≤ 1000000) :
    Calls Tryd.prog 66 #[.pointer (some r), .int .i64 a, vb] w fun e w' => e = .returned (.int .i64 (writeE E a b : Nat)) ∧ After w0 bx p r F w w' D (writeD E a b) X Y pl pm := by
  obtain ⟨A, R, hd, hA, hn⟩ := h.ref
  refine (refWrite_calls hd a b vb (hb.mono fun k hk hlt => ⟨hk, fun ha => by have := h.newF k (hA k ha); omega⟩) ha (by omega) (by omega)).mono ?_
  rintro e w' ⟨he, A', R', d, s⟩
  obtain ⟨F', T', b1, t1, _⟩ := hn _ _ _ _ d s
  exact ⟨he, F', T', b1, t1⟩
def crashD (D : DD) (ks : List Int) : DD := { D with sure := crashL D.sure D.waits ks, seen := crashL D.sure D.waits ks, waits := [] }
theorem BothAt.crash1 (h : BothAt w0 w bx p r F T D E X Y pl pm) (ks : List Int) (vk : Value) (hk : Vals (fun k => k < w0.heap.size) w vk (ks.map (.int .i64))) (hki : ∀ k ∈ ks, -9223372036854775808 ≤ k ∧ k ≤ 9223372036854775807) (hw : D.waits.length ≤ 100000) :
    Calls Tryd.prog 31 #[.pointer (some p), vk] w fun e w' => e = .returned (.int .i64 0) ∧ After w0 bx p r F w w' (crashD D ks) E X Y pl pm := by
  obtain ⟨A, R, hd, hA, hn⟩ := h.disk
  refine (crash_calls hd ks vk (hk.mono fun k hk hlt => ⟨hk, fun ha => by have := h.newF k (hA k ha); omega⟩) hki (by omega)).mono ?_
  rintro e w' ⟨he, A', R', d, s⟩
  obtain ⟨F', T', b1, t1, _⟩ := hn _ _ _ _ d s
  exact ⟨he, F', T', b1, t1⟩
theorem BothAt.crash2 (h : BothAt w0 w bx p r F T D E X Y pl pm) (ks : List Int) (vk : Value) (hk : Vals (fun k => k < w0.heap.size) w vk (ks.map (.int .i64))) (hki : ∀ k ∈ ks, -9223372036854775808 ≤ k ∧ k ≤ 9223372036854775807) (hw : E.waits.length ≤ 100000) :
    Calls Tryd.prog 65 #[.pointer (some r), vk] w fun e w' => e = .returned (.tuple #[]) ∧ After w0 bx p r F w w' D (crashD E ks) X Y pl pm := by
  obtain ⟨A, R, hd, hA, hn⟩ := h.ref
  refine (refCrash_calls hd ks vk (hk.mono fun k hk hlt => ⟨hk, fun ha => by have := h.newF k (hA k ha); omega⟩) hki (by omega)).mono ?_
  rintro e w' ⟨he, R', d, s⟩
  obtain ⟨F', T', b1, t1, _⟩ := hn _ _ _ _ d s
  exact ⟨he, F', T', b1, t1⟩
theorem BothAt.fill1 (h : BothAt w0 w bx p r F T D E X Y pl pm) (on : Bool) :
    Calls Tryd.prog 44 #[.pointer (some p), .bool on] w fun e w' => e = .returned (.int .i64 0) ∧ After w0 bx p r F w w' { D with full := on } E X Y pl pm := by
  obtain ⟨A, R, hd, hA, hn⟩ := h.disk
  refine (fill_calls hd on).mono ?_
  rintro e w' ⟨he, d, s⟩
  obtain ⟨F', T', b1, t1, _⟩ := hn _ _ _ _ d s
  exact ⟨he, F', T', b1, t1⟩
/-- The field Full of the document's disk. -/
theorem BothAt.full2 (h : BothAt w0 w bx p r F T D E X Y pl pm) : ∃ q, r = ⟨q, 0, none⟩ ∧ q ≠ bx ∧ w.cell? ⟨q, 1, none⟩ = some (.bool E.full) ∧ w.frozen? ⟨q, 1, none⟩ = false ∧
    ∀ on, After w0 bx p r F w (w.setCell ⟨q, 1, none⟩ (.bool on)) D { E with full := on } X Y pl pm := by
  obtain ⟨B, S, hr, hB, hn⟩ := h.ref
  obtain ⟨q, vw, he, f1, z1, _⟩ := hr.full
  injection he with he
  injection he with he
  subst he
  refine ⟨q, rfl, fun he => ?_, f1, z1, fun on => ?_⟩
  · obtain ⟨_, s1⟩ := hr.setFull true
    obtain ⟨b, vs, vw, ws, he2, hra⟩ := hr
    injection he2 with he2
    injection he2 with he2
    injection he2 with he2
    subst he2
    exact h.nF (he ▸ hB _ hra.hb)
  · obtain ⟨hr1, s1⟩ := hr.setFull on
    obtain ⟨F', T', b1, t1, _⟩ := hn _ _ _ _ hr1 s1
    exact ⟨F', T', b1, t1⟩
def apN (D : DD) (x : List (List UInt8) × Nat) (p : List UInt8) : Nat := if appE D x.1 p = 0 then x.1.length + 1 else 0
def apX (D : DD) (x : List (List UInt8) × Nat) (p : List UInt8) : List (List UInt8) × Nat := if appE D x.1 p = 0 then (x.1 ++ [p], x.2) else x
def apD (D : DD) (x : List (List UInt8) × Nat) (p : List UInt8) : DD := if appE D x.1 p = 0 then appD D x.1 p else D
theorem BothAt.append1 {b : Nat} {x : List (List UInt8) × Nat} (h : BothAt w0 w bx p r F T D E (some x) Y (.pointer (some ⟨b, 0, none⟩)) pm) (l : List UInt8) (vl : Value) (hl : BS (fun k => k < w0.heap.size) w vl l) (hw : D.waits.length ≤ 100000) :
    Calls Tryd.prog 25 #[.pointer (some ⟨b, 0, none⟩), vl] w fun e w' => e = .returned (.tuple #[.int .u32 (apN D x l : Nat), .int .i64 (appE D x.1 l : Nat)]) ∧ After w0 bx p r F w w' (apD D x l) E (some (apX D x l)) Y (.pointer (some ⟨b, 0, none⟩)) pm := by
  obtain ⟨A, R, ha, hd, h1, h2, h3, h4, hA, hn⟩ := h.progL
  refine (lappend_calls ha hd h1 h2 h.table h3 h4 l vl (hl.mono fun k hk hlt => ⟨hk, fun ha => by have := h.newF k (hA k ha); omega⟩) (by omega)).mono ?_
  unfold apN apX apD
  rintro e w' ⟨A', R', s, ⟨hE, rfl, l1, d1⟩ | ⟨hE, rfl, l1, d1⟩⟩
  · rw [if_pos hE, if_pos hE, if_pos hE, hE]
    obtain ⟨F', T', b1, t1, _⟩ := hn _ _ _ _ (x.1 ++ [l], x.2) l1 d1 s
    exact ⟨rfl, F', T', b1, t1⟩
  · rw [if_neg hE, if_neg hE, if_neg hE]
    obtain ⟨F', T', b1, t1, _⟩ := hn _ _ _ _ x l1 d1 s
    exact ⟨rfl, F', T', b1, t1⟩
theorem BothAt.append2 {b : Nat} {x : List (List UInt8) × Nat} (h : BothAt w0 w bx p r F T D E X (some x) pl (.pointer (some ⟨b, 0, none⟩))) (l : List UInt8) (vl : Value) (hl : BS (fun k => k < w0.heap.size) w vl l) (h16 : l.length ≤ 16384) (hw : E.waits.length ≤ 100000) :
    Calls Tryd.prog 63 #[.pointer (some ⟨b, 0, none⟩), vl] w fun e w' => e = .returned (.tuple #[.int .u32 (apN E x l : Nat), .int .i64 (appE E x.1 l : Nat)]) ∧ After w0 bx p r F w w' D (apD E x l) X (some (apX E x l)) pl (.pointer (some ⟨b, 0, none⟩)) := by
  obtain ⟨A, R, ha, hd, h1, h2, hA, hn⟩ := h.refL
  refine (rlappend_calls ha hd h1 h2 l vl (hl.mono fun k hk hlt => ⟨hk, fun ha => by have := h.newF k (hA k ha); omega⟩) h16 (by omega)).mono ?_
  unfold apN apX apD
  rintro e w' ⟨A', R', s, ⟨hE, rfl, l1, d1⟩ | ⟨hE, rfl, l1, d1⟩⟩
  · rw [if_pos hE, if_pos hE, if_pos hE, hE]
    obtain ⟨F', T', b1, t1, _⟩ := hn _ _ _ _ (x.1 ++ [l], x.2) l1 d1 s
    exact ⟨rfl, F', T', b1, t1⟩
  · rw [if_neg hE, if_neg hE, if_neg hE]
    obtain ⟨F', T', b1, t1, _⟩ := hn _ _ _ _ x l1 d1 s
    exact ⟨rfl, F', T', b1, t1⟩
theorem BothAt.sync1 {b : Nat} {x : List (List UInt8) × Nat} (h : BothAt w0 w bx p r F T D E (some x) Y (.pointer (some ⟨b, 0, none⟩)) pm) :
    Calls Tryd.prog 30 #[.pointer (some ⟨b, 0, none⟩)] w fun e w' => e = .returned (.int .i64 0) ∧ After w0 bx p r F w w' (syncD D) E (some (x.1, x.1.length)) Y (.pointer (some ⟨b, 0, none⟩)) pm := by
  obtain ⟨A, R, ha, hd, h1, h2, h3, h4, hA, hn⟩ := h.progL
  refine (lsync_calls ha hd h1 h2).mono ?_
  rintro e w' ⟨rfl, A', R', l1, d1, s⟩
  obtain ⟨F', T', b1, t1, _⟩ := hn _ _ _ _ (x.1, x.1.length) l1 d1 s
  exact ⟨rfl, F', T', b1, t1⟩
theorem BothAt.sync2 {b : Nat} {x : List (List UInt8) × Nat} (h : BothAt w0 w bx p r F T D E X (some x) pl (.pointer (some ⟨b, 0, none⟩))) (hw : E.waits.length ≤ 100000) :
    Calls Tryd.prog 64 #[.pointer (some ⟨b, 0, none⟩)] w fun e w' => e = .returned (.tuple #[]) ∧ After w0 bx p r F w w' D (syncD E) X (some (x.1, x.1.length)) pl (.pointer (some ⟨b, 0, none⟩)) := by
  obtain ⟨A, R, ha, hd, h1, h2, hA, hn⟩ := h.refL
  refine (rlsync_calls ha hd h1 h2 (by omega)).mono ?_
  rintro e w' ⟨rfl, A', R', l1, d1, s⟩
  obtain ⟨F', T', b1, t1, _⟩ := hn _ _ _ _ (x.1, x.1.length) l1 d1 s
  exact ⟨rfl, F', T', b1, t1⟩
theorem writeD_fit (D : DD) (a : Int) (b : List UInt8) : (writeD D a b).cap = D.cap ∧ (writeD D a b).waits.length ≤ D.waits.length + 1 := by
  unfold writeD
  split
  · exact ⟨rfl, by simp⟩
  · exact ⟨rfl, Nat.le_succ _⟩
theorem apD_fit (D : DD) (x : List (List UInt8) × Nat) (p : List UInt8) : (apD D x p).cap = D.cap ∧ (apD D x p).waits.length ≤ D.waits.length + 1 := by
  unfold apD
  split
  · exact writeD_fit _ _ _
  · exact ⟨rfl, Nat.le_succ _⟩
end
end Go.Proofs.YtgjaggnpheoehaaDoor
