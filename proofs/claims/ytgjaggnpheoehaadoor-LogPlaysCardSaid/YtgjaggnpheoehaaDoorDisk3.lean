/- Write of a disk. -/
import Derived.Test.YtgjaggnpheoehaaDoorDisk2
set_option linter.unusedVariables false
set_option linter.unusedSimpArgs false
namespace Go.Proofs.YtgjaggnpheoehaaDoor
open Go.RowKit
attribute [local go_sem ↓] Go.wp_at_zero Go.wp_at_succ

/-- A type of slices whose elements have two cells. -/
structure TwoT (P : Program) (t e : TypeId) (z : Value) (bytes : Nat) : Prop where
  sl : P.underlying t = some (.slice e)
  info : (P.info? e).map (fun i => (i.zero, i.size, i.bytes)) = some (some z, 2, bytes)
  zc : z.cells.size = 2
  by0 : 0 < bytes
section
variable {P : Program} {t e : TypeId} {z : Value} {bytes : Nat} (B : TwoT P t e z bytes)
include B
theorem run_push2 {W : World} (ty : TypeId) {n : Nat} {v x1 x2 : Value} {xs : List Value} (ho : W.ownsRow 0 e 2 v n xs) (g off c : Nat) (hc : W.cell? ⟨g, off, none⟩ = some x1) (hc2 : W.cell? ⟨g, off + 1, none⟩ = some x2) (h1 : x1.oneCell' = true) (h2 : x2.oneCell' = true) (hl : (n + 1) * bytes ≤ 140737488355328) :
    ∃ v' w', (Builtin.append_ #[t, t] ty #[v, .slice (some ⟨g, off, none⟩) 1 c]).run P W = .ok v' w' ∧ w'.ownsRow 0 e 2 v' (n + 1) (xs ++ [x1, x2]) ∧ W.grownBy w' v.ownBlock ∧ (v'.ownBlock = v.ownBlock ∨ v'.ownBlock = some W.heap.size) := by
  obtain ⟨i0, hi, hzz⟩ := Option.map_eq_some_iff.1 B.info
  simp only [Prod.mk.injEq] at hzz
  obtain ⟨hz0, hz1, hz2⟩ := hzz
  have hb := B.by0
  have hlen : n + 1 ≤ 140737488355328 := Nat.le_trans (Nat.le_mul_of_pos_right _ hb) hl
  obtain ⟨v', w', h1, h2, h3, _, h5⟩ := run_append_own_at (P := P) W 0 t ty e i0 z 2 bytes B.sl hi hz0 hz1 hz2 B.zc (by decide) v n xs ho ⟨g, off, none⟩ 1 c [x1, x2] (by simp) (by
    intro j x hj
    match j, hj with
    | 0, hj =>
      obtain rfl : x1 = x := by simpa using hj
      have : (⟨g, off, none⟩ : Addr).add 0 = ⟨g, off, none⟩ := by simp [Addr.add]
      rw [this]; exact hc
    | 1, hj =>
      obtain rfl : x2 = x := by simpa using hj
      have : (⟨g, off, none⟩ : Addr).add 1 = ⟨g, off + 1, none⟩ := by simp [Addr.add]
      rw [this]; exact hc2
    | j + 2, hj => simp at hj) (by intro u hu; simp at hu; rcases hu with rfl | rfl <;> assumption) (by simp only [maxLen]; omega) hl (Nat.zero_le _)
  exact ⟨v', w', h1, h2, h3, h5⟩
variable {ops : Array Oper} {o : Oper} {a : Act} {K : Act → World → Prop} {Q : Exit → Act → World → Prop} {E : Prop}
/-- append(v, u), a step of a region that draws. -/
theorem step_push2 {W : World} (hgd : o.guard = none) (s y : Operand) (ho : o.op = .call { callee := .builtin .append, args := #[s, y], argTypes := #[t, t] }) (n : Nat) (v x1 x2 : Value) (xs : List Value) (g off c : Nat) (hs : a.eval s = v) (hy : a.eval y = .slice (some ⟨g, off, none⟩) 1 c)
    (hown : W.ownsRow 0 e 2 v n xs) (hc : W.cell? ⟨g, off, none⟩ = some x1) (hc2 : W.cell? ⟨g, off + 1, none⟩ = some x2) (h1 : x1.oneCell' = true) (h2 : x2.oneCell' = true) (hl : (n + 1) * bytes ≤ 140737488355328)
    (h : ∀ A c' w', w'.ownsRow 0 e 2 (.slice A (n + 1) c') (n + 1) (xs ++ [x1, x2]) → Kp (fun k => v.ownBlock = some k) W w' → ((Value.slice A (n + 1) c').ownBlock = v.ownBlock ∨ (Value.slice A (n + 1) c').ownBlock = some W.heap.size) → K (a.put o.dst (.slice A (n + 1) c')) w') :
    if Region.wanted o (yielded ops a.tmps) = true then Oper.wp P o a W K Q else E := by
  obtain ⟨v', w', r1, r2, r3, r4⟩ := run_push2 B o.type hown g off c hc hc2 h1 h2 hl
  have hw : Region.wanted o (yielded ops a.tmps) = true := by simp [Region.wanted, hgd]
  rw [if_pos hw]
  obtain ⟨A, c', rfl⟩ : ∃ A c', v' = .slice A (n + 1) c' := by
    rcases r2.2 with ⟨_, h0⟩ | ⟨g, cap, cur, rfl, _⟩
    · omega
    · exact ⟨_, _, rfl⟩
  exact Lib.wp_append_run W s y t t ho v _ hs hy _ w' r1 (h _ _ w' r2 (Kp.of_grown r3) r4)
end

theorem cell_new2 (w : World) (x1 x2 : Value) (e : TypeId) (fr : Nat × Nat) : (w.alloc (.cells #[x1, x2] e fr)).cell? ⟨w.heap.size, 0, none⟩ = some x1 ∧ (w.alloc (.cells #[x1, x2] e fr)).cell? ⟨w.heap.size, 0 + 1, none⟩ = some x2 := by
  have h : (w.alloc (.cells #[x1, x2] e fr)).heap[w.heap.size]? = some (.cells #[x1, x2] e fr) := heap_alloc_new w _
  simp only [World.cell?, h]
  exact ⟨rfl, rfl⟩
theorem fc_kp {F : Nat → Prop} {w w' : World} {p : Addr} {v : Value} (k : Kp F w w') (h : w.cell? p = some v ∧ w.frozen? p = false) (hF : ¬ F p.block) : w'.cell? p = some v ∧ w'.frozen? p = false :=
  ⟨k.cell h.1 hF, (k.frozen (World.block_lt_of_cell? w p h.1) hF).trans h.2⟩
def writeE (D : DD) (a : Int) (b : List UInt8) : Nat := if a < 0 ∨ (D.seen.length : Int) < a then 1 else if D.full = true ∨ (D.cap : Int) - a < b.length then 7 else 0
def writeD (D : DD) (a : Int) (b : List UInt8) : DD := if writeE D a b = 0 then { D with seen := overL D.seen a.toNat b, waits := D.waits ++ [(a.toNat, b)] } else D

theorem writeT : TwoT Tryd.prog 96 103 (.agg #[.int .i64 0, .slice none 0 0]) 32 := ⟨Tryd.underlying96, by kernel_rfl, rfl, by decide⟩

set_option maxRecDepth 100000 in
set_option maxHeartbeats 4000000 in
theorem write_calls {w : World} {F R : Nat → Prop} {p : Value} {D : DD} (h : DiskIs w F R p D) (a : Int) (b : List UInt8) (vb : Value) (hb : BS (Out F w) w vb b) (ha : -9223372036854775808 ≤ a ∧ a ≤ 9223372036854775807) (hw : D.waits.length ≤ 1000000) :
    Calls Tryd.prog 45 #[p, .int .i64 a, vb] w fun e w' => e = .returned (.int .i64 (writeE D a b : Nat)) ∧ ∃ F' R', DiskIs w' F' R' p (writeD D a b) ∧ Step F R w w' F' R' := by
  have hn := none_calls h
  have hin := h
  obtain ⟨q, vs, ve, vw, ws, rfl, h⟩ := h
  have h1 := h.f1
  have h2 := h.f2
  have h3 := h.f3
  have h4 := h.f4
  have z1 := h.fz 1 (by decide)
  have z2 := h.fz 2 (by decide)
  have c1 := h.c1
  have c3 := h.c3
  obtain ⟨Ae, ce, rfl⟩ := h.oe.bs.len
  obtain ⟨Ab, cb, rfl⟩ := hb.len
  have hbm : b.length ≤ 9223372036854775807 := by obtain ⟨_, _, he, h1, h2, _⟩ := id hb; omega
  have H := Lib.hid h
  have HIN := Lib.hid hin
  have HB := Lib.hid hb
  clear h hin hb
  unfold writeD
  by_cases hc1 : a < 0 ∨ (D.seen.length : Int) < a
  · have he : writeE D a b = 1 := by unfold writeE; rw [if_pos hc1]
    rw [he, if_neg (by decide)]
    clear he
    go_enter Tryd.func45, Tryd.ntmps45
    rcases (by omega : a < 0 ∨ ((0 : Int) ≤ a ∧ (D.seen.length : Int) < a)) with hc1 | ⟨h0, hc1⟩
    all_goals
      go_wp2_with (go_at_call 58; refine hn.mono ?_; rintro e w1 ⟨rfl, rfl⟩)
      go_ret
      exact ⟨rfl, F, R, HIN.out, Step.of_nob (Kp.refl _ _)⟩
  · obtain ⟨x, rfl⟩ : ∃ x : Nat, a = x := ⟨a.toNat, by omega⟩
    have hx : x ≤ D.seen.length := by omega
    have i1 : ¬ ((x : Int) < 0) := by omega
    have i2 : ¬ ((x : Int) > (D.seen.length : Int)) := by omega
    have e1 : IntKind.i64.wrap ((D.cap : Int) - x) = (D.cap : Int) - x := wrap_in (by omega) (by omega)
    by_cases hc2 : D.full = true ∨ (D.cap : Int) - x < b.length
    · have he : writeE D x b = 7 := by unfold writeE; rw [if_neg hc1, if_pos hc2]
      rw [he, if_neg (by decide)]
      clear he hc1
      cases hfu : D.full
      · have hc3 : (D.cap : Int) - x < b.length := by rcases hc2 with h | h; · rw [hfu] at h; cases h
                                                      · exact h
        rw [hfu] at h4
        go_enter Tryd.func45, Tryd.ntmps45
        go_wp2_with (go_at_call 58; refine hn.mono ?_; rintro e w1 ⟨rfl, rfl⟩)
        go_ret
        exact ⟨rfl, F, R, HIN.out, Step.of_nob (Kp.refl _ _)⟩
      · rw [hfu] at h4
        go_enter Tryd.func45, Tryd.ntmps45
        go_wp2_with (go_at_call 58; refine hn.mono ?_; rintro e w1 ⟨rfl, rfl⟩)
        go_ret
        exact ⟨rfl, F, R, HIN.out, Step.of_nob (Kp.refl _ _)⟩
    · have he : writeE D x b = 0 := by unfold writeE; rw [if_neg hc1, if_neg hc2]
      rw [he, if_pos rfl]
      clear he hc1
      have hfu : D.full = false := by cases h : D.full <;> simp_all
      have hc3 : ¬ ((b.length : Int) > (D.cap : Int) - x) := by omega
      have hbl : b.length + x ≤ D.cap := by omega
      rw [hfu] at h4
      obtain ⟨Aw, cw, rfl⟩ : ∃ A c, vw = .slice A D.waits.length c := by
        rcases H.out.ow.2 with ⟨rfl, h0⟩ | ⟨g, cap, cur, rfl, _⟩
        · exact ⟨none, 0, by rw [h0]⟩
        · exact ⟨_, _, rfl⟩
      clear hc2
      go_enter Tryd.func45, Tryd.ntmps45
      go_wp2_with (go_at_call 58; refine hn.mono ?_; rintro e w1 ⟨rfl, rfl⟩)
      have hb1 := HB.out
      have hlen : b.length ≤ 140737488355328 := by omega
      have how := H.out.ow
      have hnq : ¬ (Value.slice Aw D.waits.length cw).ownBlock = some q := fun h => H.out.nb q (.inr (.inr h)) rfl
      have hwb : (D.waits.length + 1) * 32 ≤ 140737488355328 := by omega
      have hkd := (Kp.refl NoB w).drew
      have hcl := cloneD_calls b _ w.drew (hb1.all.nob hkd) hlen
      clear hn hkd hb1
      have hc2 := And.intro h2 z2
      have hc2d := fc_kp (Kp.refl NoB w).drew hc2 id
      have g2 := hc2d.1
      go_region_law? (first
          | (rw [if_pos (by rfl)]; go_simp; go_at_call 52; refine hcl.mono ?_; rintro e w1 ⟨v1, rfl, ho1, hk1⟩; obtain ⟨A1, d1, rfl⟩ := ho1.bs.len; obtain ⟨g3, y3⟩ := fc_kp hk1 hc2d id; have g4 : ∀ o, (w1.alloc o).cell? ⟨q, 2, none⟩ = some (.slice Aw D.waits.length cw) := fun o => (fc_kp (F := NoB) ((Kp.refl _ _).alloc _) ⟨g3, y3⟩ id).1)
          | (refine step_push2 writeT rfl (.tmp 42) (.tmp 47) rfl D.waits.length _ (.int .i64 (x : Int)) (.slice A1 b.length d1) (wrow D.waits ws) w1.heap.size 0 1 rfl rfl (own_nob (own_nob how ((Kp.refl NoB w).drew.trans hk1)) ((Kp.refl _ _).alloc _)) (cell_new2 _ _ _ _ _).1 (cell_new2 _ _ _ _ _).2 rfl rfl hwb ?_; intro A2 c2 w2 ho2 hk2 hb2; obtain ⟨g5, y5⟩ := fc_kp (F := fun k => (Value.slice Aw D.waits.length cw).ownBlock = some k) hk2 (fc_kp (F := NoB) ((Kp.refl _ _).alloc _) ⟨g3, y3⟩ id) hnq)
          | fail)
      all_goals (
        have h := H.out
        have hb := HB.out
        have k1 : Kp NoB w w1 := (Kp.refl NoB w).drew.trans hk1
        have k2 : Kp (fun k => (Value.slice Aw D.waits.length cw).ownBlock = some k) w w2 := ((k1.alloc _).weak).trans hk2
        have k3 : Kp (fun k => k = q ∨ (Value.slice Aw D.waits.length cw).ownBlock = some k) w (w2.setCell ⟨q, 2, none⟩ (.slice A2 (D.waits.length + 1) c2)) := (k2.mono fun _ _ h => .inr h).step kp_set fun _ _ h => .inl h
        have hd := (h.head.kp k2 hnq).set2 (.slice A2 (D.waits.length + 1) c2)
        have hwe : ∀ k, (Value.slice Ae D.seen.length ce).ownBlock = some k → ¬ (k = q ∨ (Value.slice Aw D.waits.length cw).ownBlock = some k) := by
          rintro k hk (hk2 | hk2)
          · exact h.nb k (.inr (.inl hk)) hk2
          · exact rows_ne h.oe h.ow (by decide) k hk hk2
        have hwS : ∀ k, vs.ownBlock = some k → ¬ (k = q ∨ (Value.slice Aw D.waits.length cw).ownBlock = some k) := by
          rintro k hk (hk2 | hk2)
          · exact h.nb k (.inl hk) hk2
          · exact rows_ne h.os h.ow (by decide) k hk hk2
        have hFx : ∀ k, (k = q ∨ (Value.slice Aw D.waits.length cw).ownBlock = some k) → F k := by
          rintro k (rfl | hk)
          · exact h.hb
          · exact h.hF k (.inr (.inr hk))
        have oe3 := h.oe.kp k3 fun k _ hk => hwe k hk
        have os3 := h.os.kp k3 fun k _ hk => hwS k hk
        have hb3 := hb.kp k3 fun k _ hk hx => hk.2 (hFx k hx)
        have f1 := hd.f1
        have f1z := hd.fz 1 (by decide)
        have hov := over_calls D.seen b x _ _ _ _ oe3 hb3 (fun k hk he => hk.2 (h.hF k (.inr (.inl he)))) (by omega) (by omega) (by omega)
        have HD := Lib.hid hd
        have HOS := Lib.hid os3
        have HOE := Lib.hid oe3
        have HK3 := Lib.hid k3
        have HFX := Lib.hid hFx
        have HWS := Lib.hid hwS
        have K1 := Lib.hid k1
        have K2 := Lib.hid hk2
        have HO2 := Lib.hid ho2
        have HO1 := Lib.hid ho1
        have HB2 := Lib.hid hb2
        clear hd os3 k3 hFx hwS k1 hk2 ho2 ho1 hb2 oe3 hb3 hb h hwe hcl hk1 k2 g2 g3 g4 g5 y3 y5 hc2d how h1 h2 h3 h4 z1 z2
        go_wp2_with fail
        refine hov.mono ?_
        rintro e w5 ⟨v5, rfl, ho5, hk5, hb5⟩
        obtain ⟨A5, c5, rfl⟩ := ho5.bs.len
        have hvq : ¬ (Value.slice Ae D.seen.length ce).ownBlock = some q := fun he => H.out.nb q (.inr (.inl he)) rfl
        obtain ⟨f5, f5z⟩ := fc_kp hk5 ⟨f1, f1z⟩ hvq
        have HO5 := Lib.hid ho5
        have HK5 := Lib.hid hk5
        have HB5 := Lib.hid hb5
        clear ho5 hk5 hb5 f1 f1z hov
        go_wp2_with fail
        go_ret
        have h := H.out
        have hsz2 : w1.heap.size + 1 ≤ w2.heap.size := by have := K2.out.size; simpa using this
        have hsz1 := K1.out.size
        have hsz5 := HK5.out.size
        have hszs : (w2.setCell ⟨q, 2, none⟩ (.slice A2 (D.waits.length + 1) c2)).heap.size = w2.heap.size := by simp [World.setCell]
        rw [hszs] at hsz5
        have hlt5 := HO5.out.lt
        have hlt2 := World.ownsRow.lt HO2.out
        have hql := h.lt q h.hb
        have hbv2 : ∀ k, (Value.slice A2 (D.waits.length + 1) c2).ownBlock = some k → (Value.slice Aw D.waits.length cw).ownBlock = some k ∨ k = w1.heap.size + 1 := by
          intro k hk
          rcases HB2.out with h1 | h1
          · exact .inl (h1.symm.trans hk)
          · right
            rw [hk] at h1
            have := Option.some.inj h1
            simpa using this
        have hbv5 : ∀ k, (Value.slice A5 (overL D.seen x b).length c5).ownBlock = some k → (Value.slice Ae D.seen.length ce).ownBlock = some k ∨ w2.heap.size ≤ k := by
          intro k hk
          have := HB5.out k hk
          rwa [hszs] at this
        have hFw : ∀ k, (Value.slice Aw D.waits.length cw).ownBlock = some k → F k := fun k hk => h.hF k (.inr (.inr hk))
        have hFe : ∀ k, (Value.slice Ae D.seen.length ce).ownBlock = some k → F k := fun k hk => h.hF k (.inr (.inl hk))
        have hFs : ∀ k, vs.ownBlock = some k → F k := fun k hk => h.hF k (.inl hk)
        have kA : Kp (fun k => (Value.slice Aw D.waits.length cw).ownBlock = some k) w1 w2 := ((Kp.refl NoB w1).alloc _).weak.trans K2.out
        have kT1 : Kp F w1 ((w5.setCell ⟨q, 1, none⟩ (.slice A5 (overL D.seen x b).length c5))) :=
          (((kA.mono fun k _ hk => hFw k hk).step kp_set fun k _ hk => hk ▸ h.hb).step HK5.out fun k _ hk => hFe k hk).step kp_set fun k _ hk => hk ▸ h.hb
        have kT := K1.out.weak.trans kT1
        have kq : Kp (fun k => k = q) w5 (w5.setCell ⟨q, 1, none⟩ (.slice A5 (overL D.seen x b).length c5)) := kp_set
        have hsz6 := kq.size
        have hd := (HD.out.kp HK5.out hvq).set1 (.slice A5 (overL D.seen x b).length c5)
        have hv2q : ∀ k, (Value.slice A2 (D.waits.length + 1) c2).ownBlock = some k → ¬ k = q := by
          rintro k hk rfl
          rcases hbv2 k hk with h1 | h1
          · exact hnq h1
          · omega
        have hv5q : ∀ k, (Value.slice A5 (overL D.seen x b).length c5).ownBlock = some k → ¬ k = q := by
          rintro k hk rfl
          rcases hbv5 k hk with h1 | h1
          · exact hvq h1
          · omega
        have ow3 := own_kp HO2.out (kp_set (b := q) (i := 2) (v := .slice A2 (D.waits.length + 1) c2)) hv2q
        have ow5 := own_kp ow3 HK5.out fun k hk => rows_ne ow3 HOE.out (by decide) k hk
        have rs5 := (h.rs.kp kT fun k _ hk hf => (h.hR k hk).2 hf).mono (T := fun k => R k ∨ (w.heap.size ≤ k ∧ k < w1.heap.size)) fun k _ hk => .inl hk
        have rb5 := ((HO1.out.bs.mono (T := fun k => R k ∨ (w.heap.size ≤ k ∧ k < w1.heap.size)) fun k hk1 hk => .inr ⟨hk.1, hk1⟩).kp kT1 fun k hk1 hk hf => by
          rcases hk with hk | hk
          · exact (h.hR k hk).2 hf
          · have := h.lt k hf; omega)
        refine ⟨rfl, fun k => F k ∨ (w1.heap.size ≤ k ∧ k < w5.heap.size), fun k => R k ∨ (w.heap.size ≤ k ∧ k < w1.heap.size), ⟨q, vs, .slice A5 (overL D.seen x b).length c5, .slice A2 (D.waits.length + 1) c2, ws ++ [.slice A1 b.length d1], rfl, ?_⟩, ⟨kT, fun k hk => hk.imp id fun h => by omega, fun k hk => hk.imp id fun h => by omega⟩⟩
        exact { f0 := hd.f0, f1 := hd.f1, f2 := hd.f2, f3 := hd.f3, f4 := hd.f4, f5 := hd.f5, fz := hd.fz,
                os := (HOS.out.kp HK5.out fun k _ hk => h.nse k hk).kp kq fun k _ hk => h.nb k (.inl hk)
                oe := HO5.out.kp kq fun k _ hk => hv5q k hk
                ow := by
                  have := own_kp ow5 kq hv2q
                  rw [← wrow_snoc D.waits ws x b _ (by simpa using h.rs.1)] at this
                  simpa using this
                rs := by
                  have := rs5.snoc rb5
                  simpa using this
                nb := fun k hk => by
                  rcases hk with hk | hk | hk
                  · exact h.nb k (.inl hk)
                  · exact hv5q k hk
                  · exact hv2q k hk
                nse := fun k hk hk' => by
                  rcases hbv5 k hk' with h1 | h1
                  · exact h.nse k hk h1
                  · have := h.lt k (hFs k hk); omega
                hb := .inl h.hb
                hF := fun k hk => by
                  rcases hk with hk | hk | hk
                  · exact .inl (hFs k hk)
                  · rcases hbv5 k hk with h1 | h1
                    · exact .inl (hFe k h1)
                    · have := (hlt5 k hk).2; exact .inr ⟨by omega, by omega⟩
                  · rcases hbv2 k hk with h1 | h1
                    · exact .inl (hFw k h1)
                    · have := (hlt2 k hk).2; exact .inr ⟨by omega, by omega⟩
                lt := fun k hk => by
                  rcases hk with hk | hk
                  · have := h.lt k hk; omega
                  · omega
                hR := fun k hk => ⟨by
                    rcases hk with hk | hk
                    · have := (h.hR k hk).1; omega
                    · omega, fun hf => by
                    rcases hk with hk | hk
                    · rcases hf with hf | hf
                      · exact (h.hR k hk).2 hf
                      · have := (h.hR k hk).1; omega
                    · rcases hf with hf | hf
                      · have := h.lt k hf; omega
                      · omega⟩
                c1 := h.c1
                c2 := h.c2
                c3 := by
                  have := h.c3
                  show (overL D.seen x b).length ≤ D.cap
                  rw [length_overL]
                  split <;> omega
                c4 := fun y hy => by
                  rcases List.mem_append.1 hy with hy | hy
                  · exact h.c4 y hy
                  · simp at hy
                    subst hy
                    show x + b.length ≤ D.cap
                    omega })
end Go.Proofs.YtgjaggnpheoehaaDoor
