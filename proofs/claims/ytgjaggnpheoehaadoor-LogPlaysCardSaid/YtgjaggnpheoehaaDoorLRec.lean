/- both.recovers: both are recovered, and tell the same. -/
import Derived.Test.YtgjaggnpheoehaaDoorRBoth
set_option linter.unusedVariables false
set_option linter.unusedSimpArgs false
namespace Go.Proofs.YtgjaggnpheoehaaDoor
open Go.RowKit

theorem Pair.diskN {w : World} {F T : Nat → Prop} {p r : Value} {D E : DD} (h : Pair w F T p r D E) :
    ∃ A R, DiskIs w A R p D ∧ (∀ k, A k → F k) ∧ ∀ w' A' R' D', DiskIs w' A' R' p D' → Step A R w w' A' R' → ∃ F' T', Pair w' F' T' p r D' E ∧ PStep F T w w' F' T' ∧ (∀ k, F' k → A' k ∨ k < w.heap.size) ∧ (∀ k, T' k → R' k ∨ k < w.heap.size) := by
  obtain ⟨A, R, B, S, h1, h2, h3, h4, h5, h6⟩ := h
  refine ⟨A, R, h1, fun k hk => (h5 k).2 (.inl hk), fun w' A' R' D' d s => ⟨fun k => A' k ∨ B k, fun k => R' k ∨ S k, ⟨A', R', B, S, d, h2.kp s.kp fun i _ ha => h3 i ha, fun k hk => ?_, fun k hk hr => ?_, fun k => Iff.rfl, fun k => Iff.rfl⟩, ?_, fun k hk => hk.imp id (h2.lt k), fun k hk => hk.imp id fun h => (h2.hR k h).1⟩⟩
  · rcases s.f k hk with h | h
    · exact h3 k h
    · exact ⟨fun hb => by have := h2.lt k hb; omega, fun hs => by have := (h2.hR k hs).1; omega⟩
  · rcases s.r k hr with h | h
    · exact h4 k hk h
    · have := h2.lt k hk; omega
  · exact ⟨s.kp.mono fun k _ hk => (h5 k).2 (.inl hk), fun k hk => by
      rcases hk with hk | hk
      · exact (s.f k hk).imp (fun h => (h5 k).2 (.inl h)) id
      · exact .inl ((h5 k).2 (.inr hk)), fun k hk => by
      rcases hk with hk | hk
      · exact (s.r k hk).imp (fun h => (h6 k).2 (.inl h)) id
      · exact .inl ((h6 k).2 (.inr hk))⟩
theorem Pair.refN {w : World} {F T : Nat → Prop} {p r : Value} {D E : DD} (h : Pair w F T p r D E) :
    ∃ B S, RefIs w B S r E ∧ (∀ k, B k → F k) ∧ (∀ k, S k → T k) ∧ ∀ w' B' S' E', RefIs w' B' S' r E' → Step B S w w' B' S' → ∃ F' T', Pair w' F' T' p r D E' ∧ PStep F T w w' F' T' ∧ (∀ k, F' k → B' k ∨ k < w.heap.size) ∧ (∀ k, T' k → S' k ∨ k < w.heap.size) := by
  obtain ⟨A, R, B, S, h1, h2, h3, h4, h5, h6⟩ := h
  refine ⟨B, S, h2, fun k hk => (h5 k).2 (.inr hk), fun k hk => (h6 k).2 (.inr hk), fun w' B' S' E' d s => ⟨fun k => A k ∨ B' k, fun k => R k ∨ S' k, ⟨A, R, B', S', h1.kp s.kp fun i _ hb => ⟨fun ha => (h3 i ha).1 hb, h4 i hb⟩, d, fun k hk => ⟨fun hb => ?_, fun hs => ?_⟩, fun k hk hr => ?_, fun k => Iff.rfl, fun k => Iff.rfl⟩, ?_, fun k hk => hk.symm.imp id (h1.lt k), fun k hk => hk.symm.imp id fun h => (h1.hR k h).1⟩⟩
  · rcases s.f k hb with h | h
    · exact (h3 k hk).1 h
    · have := h1.lt k hk; omega
  · rcases s.r k hs with h | h
    · exact (h3 k hk).2 h
    · have := h1.lt k hk; omega
  · rcases s.f k hk with h | h
    · exact h4 k h hr
    · have := (h1.hR k hr).1; omega
  · exact ⟨s.kp.mono fun k _ hk => (h5 k).2 (.inr hk), fun k hk => by
      rcases hk with hk | hk
      · exact .inl ((h5 k).2 (.inl hk))
      · exact (s.f k hk).imp (fun h => (h5 k).2 (.inr h)) id, fun k hk => by
      rcases hk with hk | hk
      · exact .inl ((h6 k).2 (.inl hk))
      · exact (s.r k hk).imp (fun h => (h6 k).2 (.inr h)) id⟩
section
variable {w0 w w' : World} {bx : Nat} {p r : Addr} {F T F' T' : Nat → Prop} {D E D' E' : DD} {X Y X' Y' : Option (List (List UInt8) × Nat)} {pl pm pl' pm' : Value}
/-- Both logs are put anew. -/
theorem BothAt.setLogs (h : BothAt w0 w bx p r F T D E X Y pl pm) (hx : LogOf w F T bx w0.heap.size p pl' X') (hy : LogOf w F T bx w0.heap.size r pm' Y') (hs : ∀ b, pl' = .pointer (some ⟨b, 0, none⟩) → pm' = .pointer (some ⟨b, 0, none⟩) → False) :
    BothAt w0 ((w.setCell ⟨bx, 1, none⟩ pl').setCell ⟨bx, 3, none⟩ pm') bx p r F T D E X' Y' pl' pm' := by
  have k : Kp (fun k => k = bx) w ((w.setCell ⟨bx, 1, none⟩ pl').setCell ⟨bx, 3, none⟩ pm') := ((Kp.refl (fun k => k = bx) w).setCell (p := ⟨bx, 1, none⟩) (.inr rfl) _).setCell (p := ⟨bx, 3, none⟩) (.inr rfl) _
  have hsz := k.size
  exact {
    pair := h.pair.kp k fun i _ hi => by subst hi; exact ⟨h.nF, h.nT⟩
    c0 := cell_set_other (cell_set_other h.c0 _ (by decide)) _ (by decide)
    c1 := cell_set_other (cell_set_same h.c1 _) _ (by decide)
    c2 := cell_set_other (cell_set_other h.c2 _ (by decide)) _ (by decide)
    c3 := cell_set_same (cell_set_other h.c3 _ (by decide)) _
    fz := fun i hi => by simp only [World.frozen?_setCell]; exact h.fz i hi
    nF := h.nF
    nT := h.nT
    lx := hx.kp k (fun b _ _ hb => hb) (fun _ h => .inl h) (fun _ h => .inl h)
    ly := hy.kp k (fun b _ _ hb => hb) (fun _ h => .inl h) (fun _ h => .inl h)
    sep := hs
    kp := h.kp.step k fun i hi h' => by have := h.nbx; omega
    newF := h.newF
    nbx := h.nbx
    tab := h.tab }
theorem XStep.setLogs {F2 : Nat → Prop} {w2 : World} (h : XStep bx F pl pm w w2 F2 pl pm) (h1 : ∀ k, pl' = .pointer (some ⟨k, 0, none⟩) → w.heap.size ≤ k) (h2 : ∀ k, pm' = .pointer (some ⟨k, 0, none⟩) → w.heap.size ≤ k) :
    XStep bx F pl pm w ((w2.setCell ⟨bx, 1, none⟩ pl').setCell ⟨bx, 3, none⟩ pm') F2 pl' pm' :=
  ⟨(h.kp.setCell (p := ⟨bx, 1, none⟩) (.inr (.inr (.inl rfl))) _).setCell (p := ⟨bx, 3, none⟩) (.inr (.inr (.inl rfl))) _, fun k hk => by
    rcases hk with hk | hk | hk | hk
    · exact h.g k (.inl hk)
    · exact .inl (.inr (.inl hk))
    · exact .inr (h1 k hk)
    · exact .inr (h2 k hk)⟩

set_option maxRecDepth 100000 in
set_option maxHeartbeats 8000000 in
theorem recovers_calls (h : BothAt w0 w bx p r F T D D X Y pl pm) (hw : D.waits.length ≤ 100000) :
    Calls Tryd.prog 36 #[.pointer (some ⟨bx, 0, none⟩)] w fun e w' => e = .returned (.bool true) ∧ ∃ F' T' D' X' pl' pm', BothAt w0 w' bx p r F' T' D' D' X' X' pl' pm' ∧ XStep bx F pl pm w w' F' pl' pm' ∧ D'.cap = D.cap ∧ D'.waits.length ≤ D.waits.length := by
  have c0 := h.c0
  have hz0 := h.w0lt
  have hb := h.blt
  have hks := h.kp.size
  obtain ⟨A, R, hd, hA, hn⟩ := h.pair.diskN
  have hrc := lrecover_calls hd h.table (fun h0 => by have := h.newF 0 (hA 0 h0); omega) (by omega)
  have hsl := hd.seen_le
  have H := Lib.hid h
  have HN := Lib.hid hn
  have HRC := Lib.hid hrc
  clear h hn hrc hd
  go_enter Tryd.func36, Tryd.ntmps36
  go_wp2_with fail
  refine HRC.out.mono ?_
  rintro e w1 ⟨ps, rest, A1, R1, hp, s1, ⟨hE, bl, vo, us, rfl, hbl, hAb, hRb, l1, d1, v1, r1⟩ | ⟨hE, rfl, d1⟩⟩
  · obtain ⟨F1, T1, p1, t1, f1, x1⟩ := HN.out _ _ _ _ d1 s1
    obtain ⟨b1, z1⟩ := H.out.pstep p1 t1
    have hF1 : ∀ k, w.heap.size ≤ k → ¬ A1 k → ¬ F1 k := fun k h1 h2 h3 => (f1 k h3).elim h2 fun h => by omega
    have hT1 : ∀ k, w.heap.size ≤ k → ¬ R1 k → ¬ T1 k := fun k h1 h2 h3 => (x1 k h3).elim h2 fun h => by omega
    obtain ⟨B, S, hr, hB, hSs, hn2⟩ := p1.refN
    have hnT1 := b1.nT
    have hrr := rlrecover_calls hr hw
    have c2 := b1.c2
    obtain ⟨Ao, co, rfl⟩ := v1.len
    have hs1 := t1.kp.size
    have B1 := Lib.hid b1
    have Z1 := Lib.hid z1
    have HP := Lib.hid hp
    have L1 := Lib.hid l1
    have V1 := Lib.hid v1
    have R1' := Lib.hid r1
    have HN2 := Lib.hid hn2
    have HRR := Lib.hid hrr
    clear c0 HN HRC d1 s1 p1 t1 f1 x1 b1 z1 hp l1 v1 r1 hn2 hrr hr
    go_wp2_with fail
    refine HRR.out.mono ?_
    rintro e w2 ⟨ps', rest', B2, S2, hp', s2, ⟨hE', bm, vo', us', rfl, hbm, hBb, hSb, l2, d2, v2, r2⟩ | ⟨hE', _⟩⟩
    · obtain ⟨rfl, rfl⟩ := HP.out.uniq hp' hsl
      obtain ⟨F2, T2, p2, t2, f2, x2⟩ := HN2.out _ _ _ _ d2 s2
      obtain ⟨b2, z2⟩ := B1.out.pstep p2 t2
      have hlt1 := L1.out.lt
      have hFl : ¬ F2 bl := fun hf => (t2.f _ hf).elim (hF1 _ hbl hAb) fun h => by omega
      have hTl : ¬ T2 bl := fun hf => (t2.t _ hf).elim (hT1 _ hbl hRb) fun h => by omega
      have hFm : ¬ F2 bm := fun hf => (f2 _ hf).elim hBb fun h => by omega
      have hTm : ¬ T2 bm := fun hf => (x2 _ hf).elim hSb fun h => by omega
      have l12 := L1.out.kp s2.kp fun h => hF1 _ hbl hAb (hB _ h)
      have v12 := V1.out.kp s2.kp fun k _ hk h => hF1 k hk.1 hk.2.1 (hB _ h)
      have r12 := R1'.out.kp s2.kp fun k _ hk h => hF1 k hk.1 hk.2.1 (hB _ h)
      obtain ⟨Am, cm, rfl⟩ := v2.len
      have d1 := b2.c1
      have d3 := b2.c3
      have e1 := b2.fz 1 (by decide)
      have e3 := b2.fz 3 (by decide)
      have hset := b2.setLogs (pl' := .pointer (some ⟨bl, 0, none⟩)) (pm' := .pointer (some ⟨bm, 0, none⟩)) (X' := some (ps, ps.length)) (Y' := some (ps, ps.length)) ⟨bl, rfl, l12, hFl, hTl, by omega, by omega⟩ ⟨bm, rfl, l2, hFm, hTm, by omega, by omega⟩ (fun b e1 e2 => by injection e1 with e1; injection e1 with e1; injection e1 with e1; injection e2 with e2; injection e2 with e2; injection e2 with e2; omega)
      have hxs := (Z1.out.trans z2).setLogs (pl' := .pointer (some ⟨bl, 0, none⟩)) (pm' := .pointer (some ⟨bm, 0, none⟩)) (fun k he => by injection he with he; injection he with he; injection he with he; omega) (fun k he => by injection he with he; injection he with he; injection he with he; omega)
      have kst : Kp (fun k => k = bx) w2 ((w2.setCell ⟨bx, 1, none⟩ (.pointer (some ⟨bl, 0, none⟩))).setCell ⟨bx, 3, none⟩ (.pointer (some ⟨bm, 0, none⟩))) := ((Kp.refl (fun k => k = bx) w2).setCell (p := ⟨bx, 1, none⟩) (.inr rfl) _).setCell (p := ⟨bx, 3, none⟩) (.inr rfl) _
      have hsame := same_yes ps us us' (.slice Ao us.length co) (.slice Am us'.length cm) _ ((v12.mono (T := fun k => ¬ k = bx) fun k _ hk => by have := hk.1; omega).kp kst fun k _ hk => hk).all
        ((v2.mono (T := fun k => ¬ k = bx) fun k _ hk he => hk.elim (fun h => hnT1 (he ▸ hSs k h)) fun h => by omega).kp kst fun k _ hk => hk).all
        ((r12.mono (T := fun k => ¬ k = bx) fun k _ hk => by have := hk.1; omega).kp kst fun k _ hk => hk).all
        ((r2.mono (T := fun k => ¬ k = bx) fun k _ hk he => hk.elim (fun h => hnT1 (he ▸ hSs k h)) fun h => by omega).kp kst fun k _ hk => hk).all
      have hcap := rec_cap D ps rest
      have HSET := Lib.hid hset
      have HXS := Lib.hid hxs
      have HSM := Lib.hid hsame
      have HCAP : Hid ((syncD (recD D ps rest)).cap = D.cap) := Lib.hid hcap.1
      clear c2 HN2 HRR B1 Z1 HP L1 V1 R1' s2 p2 t2 f2 x2 b2 z2 l12 v12 r12 l2 d2 v2 r2 hset hxs kst hsame hcap hp'
      go_wp2_with fail
      refine HSM.out.mono ?_
      rintro e w4 ⟨rfl, rfl⟩
      go_wp2_with fail
      go_ret
      exact ⟨rfl, F2, T2, _, _, _, _, HSET.out, HXS.out, HCAP.out, Nat.zero_le _⟩
    · obtain ⟨rfl, rfl⟩ := HP.out.uniq hp' hsl
      exact absurd hE hE'
  · obtain ⟨F1, T1, p1, t1, f1, x1⟩ := HN.out _ _ _ _ d1 s1
    obtain ⟨b1, z1⟩ := H.out.pstep p1 t1
    obtain ⟨B, S, hr, hB, hSs, hn2⟩ := p1.refN
    have hrr := rlrecover_calls hr hw
    have c2 := b1.c2
    have B1 := Lib.hid b1
    have Z1 := Lib.hid z1
    have HP := Lib.hid hp
    have HN2 := Lib.hid hn2
    have HRR := Lib.hid hrr
    clear c0 HN HRC d1 s1 p1 t1 f1 x1 b1 z1 hp hn2 hrr hr
    obtain ⟨N, hN, hN0⟩ : ∃ N, N = recE D ps rest ∧ N ≠ 0 := ⟨_, rfl, hE⟩
    have HN := Lib.hid hN
    rw [← hN]
    clear hN hE
    go_wp2_with fail
    refine HRR.out.mono ?_
    rintro e w2 ⟨ps', rest', B2, S2, hp', s2, ⟨hE', _⟩ | ⟨hE', rfl, d2⟩⟩
    · obtain ⟨rfl, rfl⟩ := HP.out.uniq hp' hsl
      exact absurd (HN.out.trans hE') hN0
    · obtain ⟨rfl, rfl⟩ := HP.out.uniq hp' hsl
      rw [← HN.out]
      obtain ⟨F2, T2, p2, t2, f2, x2⟩ := HN2.out _ _ _ _ d2 s2
      obtain ⟨b2, z2⟩ := B1.out.pstep p2 t2
      have d1 := b2.c1
      have d3 := b2.c3
      have e1 := b2.fz 1 (by decide)
      have e3 := b2.fz 3 (by decide)
      have hset := b2.setLogs (pl' := .pointer none) (pm' := .pointer none) (X' := none) (Y' := none) rfl rfl (fun b e1 e2 => by injection e1 with e1; cases e1)
      have hxs := (Z1.out.trans z2).setLogs (pl' := .pointer none) (pm' := .pointer none) (fun k he => by injection he with he; cases he) (fun k he => by injection he with he; cases he)
      have hsame := same_yes [] [] [] (.slice none 0 0) (.slice none 0 0) ((w2.setCell ⟨bx, 1, none⟩ (.pointer none)).setCell ⟨bx, 3, none⟩ (.pointer none)) (Vals.nil _ _) (Vals.nil _ _) (RS.nil _ _) (RS.nil _ _)
      have HSET := Lib.hid hset
      have HXS := Lib.hid hxs
      have HSM := Lib.hid hsame
      clear c2 HN2 HRR B1 Z1 HP s2 p2 t2 f2 x2 b2 z2 d2 hset hxs hsame hp' hE'
      go_wp2_with fail
      refine HSM.out.mono ?_
      rintro e w4 ⟨rfl, rfl⟩
      go_wp2_with fail
      go_ret
      exact ⟨rfl, F2, T2, _, _, _, _, HSET.out, HXS.out, rfl, Nat.le_refl _⟩
end
end Go.Proofs.YtgjaggnpheoehaaDoor
