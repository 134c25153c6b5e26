/- Copy of a disk. -/
import Derived.Test.YtgjaggnpheoehaaDoorDisk4
set_option linter.unusedVariables false
set_option linter.unusedSimpArgs false
namespace Go.Proofs.YtgjaggnpheoehaaDoor
open Go.RowKit
attribute [local go_sem ↓] Go.wp_at_zero Go.wp_at_succ

theorem wrow_one : ∀ (ds : List (Nat × List UInt8)) (vs : List Value), (∀ v ∈ vs, v.oneCell' = true) → ∀ u ∈ wrow ds vs, u.oneCell' = true
  | [], vs, _, u, hu => by cases vs <;> simp [wrow] at hu
  | (a, b) :: ds, [], _, u, hu => by simp [wrow] at hu
  | (a, b) :: ds, v :: vs, h, u, hu => by
    simp only [wrow, List.mem_cons] at hu
    rcases hu with rfl | rfl | hu
    · rfl
    · exact h _ (by simp)
    · exact wrow_one ds vs (fun x hx => h x (by simp [hx])) u hu
theorem RS.one {S : Nat → Prop} {w : World} {us : List Value} {ls : List (List UInt8)} (h : RS S w us ls) : ∀ u ∈ us, u.oneCell' = true := by
  intro u hu
  obtain ⟨j, hj, rfl⟩ := List.getElem_of_mem hu
  obtain ⟨A, c, he⟩ := (h.2 j hj (by rw [← h.1]; exact hj)).len
  rw [he]
  rfl
theorem own2_len {w : World} {base n : Nat} {e : TypeId} {v : Value} {xs : List Value} (h : w.ownsRow base e 2 v n xs) : ∃ A c, v = .slice A n c := by
  rcases h.2 with ⟨rfl, h0⟩ | ⟨g, cap, cur, rfl, _⟩
  · exact ⟨none, 0, by rw [h0]⟩
  · exact ⟨_, _, rfl⟩
section
variable {P : Program} {t e : TypeId} {z : Value} {bytes : Nat} (B : TwoT P t e z bytes)
include B
variable {ops : Array Oper} {rest : List Oper} {o : Oper} {a : Act} {Q : Exit → Act → World → Prop}
/-- append(an empty row, v...) of two-cell elements: a clone. -/
theorem wp_clone2 {w0 W : World} (hgd : o.guard = none) (s y : Operand) (ho : o.op = .call { callee := .builtin .append, args := #[s, y], argTypes := #[t, t] }) (v x : Value) (n g c : Nat) (xs : List Value) (hs : a.eval s = v) (hy : a.eval y = .slice (some ⟨g, 0, none⟩) n c)
    (he : W.ownsRow w0.heap.size e 2 v 0 []) (hk : Kp NoB w0 W) (hx : W.ownsRow 0 e 2 (.slice (some ⟨g, 0, none⟩) n c) n xs) (h1 : ∀ u ∈ xs, u.oneCell' = true) (hl : n * bytes ≤ 140737488355328)
    (h : ∀ v' w', w'.ownsRow w0.heap.size e 2 v' n xs → Kp NoB w0 w' → wpList P ops Q rest (a.put o.dst v') w') : wpList P ops Q (o :: rest) a W := by
  obtain ⟨i0, hi, hzz⟩ := Option.map_eq_some_iff.1 B.info
  simp only [Prod.mk.injEq] at hzz
  obtain ⟨hz0, hz1, hz2⟩ := hzz
  have hb := B.by0
  have hlen : n ≤ 140737488355328 := Nat.le_trans (Nat.le_mul_of_pos_right _ hb) hl
  obtain ⟨v', w', r1, r2, r3, _, r5⟩ := run_append_own_at (P := P) (w := W) w0.heap.size t o.type e i0 z 2 bytes B.sl hi hz0 hz1 hz2 B.zc (by decide) v 0 [] he ⟨g, 0, none⟩ n c xs hx.1 (fun j u hu => World.ownsRow.cells hx (g := g) rfl j u hu) h1
    (by simp only [maxLen]; omega) (by simpa using hl) hk.size
  rw [Nat.zero_add, List.nil_append] at r2
  exact Lib.wpList_append_run W hgd s y t t ho v _ hs hy v' w' r1 (h v' w' r2 (hk.grown r3 fun k hk' => .inl (World.ownsRow.lt he k hk').1))
end

set_option maxRecDepth 100000 in
/-- slices.Clone of waiting writes. -/
theorem cloneW_calls (n : Nat) (xs : List Value) (v : Value) (w : World) (hv : w.ownsRow 0 103 2 v n xs) (h1 : ∀ u ∈ xs, u.oneCell' = true) (hl : n * 32 ≤ 140737488355328) :
    Calls Tryd.prog 59 #[v] w fun e w' => ∃ v', e = .returned v' ∧ w'.ownsRow w.heap.size 103 2 v' n xs ∧ Kp NoB w w' := by
  rcases hv.2 with ⟨rfl, rfl⟩ | ⟨g, cap, cur, rfl, _⟩
  · have hx : xs = [] := List.eq_nil_of_length_eq_zero (by have := hv.1; omega)
    subst hx
    have hnil := fun w : World => Lib.run_eql_slice_nil (P := Tryd.prog) w 96 103 none 0 0 0 0 Tryd.underlying96
    clear hv h1 hl
    go_enter Tryd.func59, Tryd.ntmps59
    go_wp2
    go_ret
    exact ⟨_, rfl, World.ownsRow_nil _ _ _ _, Kp.refl _ _⟩
  · have hne := fun w : World => Lib.run_eql_slice_nil (P := Tryd.prog) w 96 103 (some ⟨g, 0, none⟩) n cap 0 0 Tryd.underlying96
    have HV := Lib.hid hv
    have H1 := Lib.hid h1
    clear hv h1
    have hlit := World.ownsRow_lit (base := w.heap.size) (e := 103) (size := 2) w #[] 0 (Nat.le_refl _) (by simp only [maxLen]; omega) rfl
    have HLI := Lib.hid hlit
    clear hlit
    go_enter Tryd.func59, Tryd.ntmps59
    go_wp2_with ((with_reducible refine gate_dst (N := 7) rfl ?_); go_must (refine wp_clone2 (w0 := w) writeT rfl _ _ rfl _ (.slice none 0 0) n g cap xs rfl rfl HLI.out ((Kp.refl _ _).alloc _) (own_nob HV.out ((Kp.refl _ _).alloc _)) H1.out hl ?_); intro v' w' ho hk)
    go_ret
    exact ⟨_, rfl, ho, hk⟩

set_option maxRecDepth 100000 in
set_option maxHeartbeats 4000000 in
theorem copy_calls {w : World} {F R : Nat → Prop} {p : Value} {D : DD} (h : DiskIs w F R p D) (hw : D.waits.length ≤ 1000000) :
    Calls Tryd.prog 26 #[p] w fun e w' => ∃ p', e = .returned p' ∧ DiskIs w' (fun k => w.heap.size ≤ k ∧ k < w'.heap.size) R p' D ∧ Kp NoB w w' := by
  have hn := none_calls h
  obtain ⟨q, vs, ve, vw, ws, rfl, h⟩ := h
  have h0 := h.f0
  have h1 := h.f1
  have h2 := h.f2
  have h3 := h.f3
  have h4 := h.f4
  have h5 := h.f5
  have hq := h.lt q h.hb
  obtain ⟨As, cs, rfl⟩ := h.os.bs.len
  obtain ⟨Ae, ce, rfl⟩ := h.oe.bs.len
  obtain ⟨Aw, cw, rfl⟩ : ∃ A c, vw = .slice A D.waits.length c := by
    rcases h.ow.2 with ⟨rfl, h0⟩ | ⟨g, cap, cur, rfl, _⟩
    · exact ⟨none, 0, by rw [h0]⟩
    · exact ⟨_, _, rfl⟩
  have H := Lib.hid h
  clear h
  go_enter Tryd.func26, Tryd.ntmps26
  go_wp2_with (go_at_call 58; refine hn.mono ?_; rintro e w1 ⟨rfl, rfl⟩)
  clear hn
  have hsc : Kp NoB w (w.alloc (.cells #[.slice As D.sure.length cs, .slice Ae D.seen.length ce, .slice Aw D.waits.length cw, .int .i64 (D.cap : Int), .bool D.full, .bool true] 98)) := (Kp.refl _ _).alloc _
  have hh := heap_alloc_new w (.cells #[.slice As D.sure.length cs, .slice Ae D.seen.length ce, .slice Aw D.waits.length cw, .int .i64 (D.cap : Int), .bool D.full, .bool true] 98)
  have hhd : Head (w.alloc (.cells #[.slice As D.sure.length cs, .slice Ae D.seen.length ce, .slice Aw D.waits.length cw, .int .i64 (D.cap : Int), .bool D.full, .bool true] 98)) w.heap.size (.slice As D.sure.length cs) (.slice Ae D.seen.length ce) (.slice Aw D.waits.length cw) D.cap D.full := by
    have hc' : ∀ i v, (#[.slice As D.sure.length cs, .slice Ae D.seen.length ce, .slice Aw D.waits.length cw, .int .i64 (D.cap : Int), .bool D.full, .bool true] : Array Value)[i]? = some v → (w.alloc (.cells #[.slice As D.sure.length cs, .slice Ae D.seen.length ce, .slice Aw D.waits.length cw, .int .i64 (D.cap : Int), .bool D.full, .bool true] 98)).cell? ⟨w.heap.size, i, none⟩ = some v := by
      intro i v hv
      simp only [World.cell?, hh]
      exact hv
    exact ⟨hc' 0 _ rfl, hc' 1 _ rfl, hc' 2 _ rfl, hc' 3 _ rfl, hc' 4 _ rfl, hc' 5 _ rfl, fun i _ => by simp only [World.frozen?, hh]; simp⟩
  have hsz : (w.alloc (.cells #[.slice As D.sure.length cs, .slice Ae D.seen.length ce, .slice Aw D.waits.length cw, .int .i64 (D.cap : Int), .bool D.full, .bool true] 98)).heap.size = w.heap.size + 1 := by simp
  have n0 := hsc.cell h0 id
  have n1 := hsc.cell h1 id
  have n2 := hsc.cell h2 id
  generalize w.alloc (.cells #[.slice As D.sure.length cs, .slice Ae D.seen.length ce, .slice Aw D.waits.length cw, .int .i64 (D.cap : Int), .bool D.full, .bool true] 98) = wa at *
  have bos := (H.out.os.bs.all.nob hsc).nob (Kp.refl NoB wa).drew
  have boe := (H.out.oe.bs.all.nob hsc).nob (Kp.refl NoB wa).drew
  have bow := own_nob (own_nob H.out.ow hsc) (Kp.refl NoB wa).drew
  have l1 : D.sure.length ≤ 140737488355328 := by have := H.out.c1; have := H.out.c2; omega
  have l2 : D.seen.length ≤ 140737488355328 := by have := H.out.c1; have := H.out.c3; omega
  have l3 : D.waits.length * 32 ≤ 140737488355328 := by omega
  have one := wrow_one D.waits ws H.out.rs.one
  have hqn : ¬ w.heap.size = q := by omega
  have HSC := Lib.hid hsc
  have HSZ := Lib.hid hsz
  have HHD := Lib.hid hhd
  have BOS := Lib.hid bos
  have BOE := Lib.hid boe
  have BOW := Lib.hid bow
  have ONE := Lib.hid one
  clear hsc hsz hh hhd bos boe bow one h0 h1 h2 h3 h4 h5
  go_region_held3 (fun w' => w'.cell? ⟨q, 0, none⟩ = some (.slice As D.sure.length cs) ∧ w'.cell? ⟨q, 1, none⟩ = some (.slice Ae D.seen.length ce) ∧ w'.cell? ⟨q, 2, none⟩ = some (.slice Aw D.waits.length cw))
    (first
      | exact c3_kp (F := NoB) (Kp.refl _ _).drew ⟨n0, n1, n2⟩ id id id
      | exact c3_kp (F := NoB) (by assumption) (by assumption) id id id
      | exact c3_kp (F := fun k => k = w.heap.size) kp_set (by assumption) (fun h => hqn h.symm) (fun h => hqn h.symm) (fun h => hqn h.symm)
      | go_keep)
    (first
      | (go_at_call 59; refine (cloneW_calls D.waits.length _ _ w2 (own_nob BOW.out (hk1.trans hk2)) ONE.out l3).mono ?_; rintro e w3 ⟨v3, rfl, ho3, hk3⟩; obtain ⟨A3, d3, rfl⟩ : (∃ A c, v3 = .slice A D.waits.length c) := own2_len ho3; have hd3 := HHD.out.kp ((((Kp.refl NoB wa).drew.trans hk1).trans hk2).trans hk3) id; have m0 := hd3.f0; have m1 := hd3.f1; have m2 := hd3.f2; have y0 := hd3.fz 0 (by decide); have y1 := hd3.fz 1 (by decide); have y2 := hd3.fz 2 (by decide); clear hd3)
      | (go_at_call 52; refine (cloneD_calls D.seen _ w1 (BOE.out.nob hk1) l2).mono ?_; rintro e w2 ⟨v2, rfl, ho2, hk2⟩; obtain ⟨A2, d2, rfl⟩ := ho2.bs.len)
      | (go_at_call 52; refine (cloneD_calls D.sure _ wa.drew BOS.out l1).mono ?_; rintro e w1 ⟨v1, rfl, ho1, hk1⟩; obtain ⟨A1, d1, rfl⟩ := ho1.bs.len)
      | fail)
  clear m0 m1 m2 y0 y1 y2
  go_wp2_with fail
  go_ret
  have h := H.out
  have kd : Kp NoB wa w1 := (Kp.refl NoB wa).drew.trans hk1
  have k03 : Kp NoB w w3 := ((HSC.out.trans kd).trans hk2).trans hk3
  have kq : Kp (fun k => k = w.heap.size) w3 (((w3.setCell ⟨w.heap.size, 0, none⟩ (.slice A1 D.sure.length d1)).setCell ⟨w.heap.size, 1, none⟩ (.slice A2 D.seen.length d2)).setCell ⟨w.heap.size, 2, none⟩ (.slice A3 D.waits.length d3)) := (kp_set.trans kp_set).trans kp_set
  have kT : Kp NoB w (((w3.setCell ⟨w.heap.size, 0, none⟩ (.slice A1 D.sure.length d1)).setCell ⟨w.heap.size, 1, none⟩ (.slice A2 D.seen.length d2)).setCell ⟨w.heap.size, 2, none⟩ (.slice A3 D.waits.length d3)) := k03.step kq fun k hk he => by omega
  have hd := (((HHD.out.kp ((kd.trans hk2).trans hk3) id).set0 (.slice A1 D.sure.length d1)).set1 (.slice A2 D.seen.length d2)).set2 (.slice A3 D.waits.length d3)
  have s0 : wa.drew.heap.size = w.heap.size + 1 := HSZ.out
  have s1 := hk1.size
  have s2 := hk2.size
  have s3 := hk3.size
  have s4 := kq.size
  have t1 := ho1.lt
  have t2 := ho2.lt
  have t3 := World.ownsRow.lt ho3
  refine ⟨_, rfl, ⟨w.heap.size, .slice A1 D.sure.length d1, .slice A2 D.seen.length d2, .slice A3 D.waits.length d3, ws, rfl, ?_⟩, kT⟩
  exact { f0 := hd.f0, f1 := hd.f1, f2 := hd.f2, f3 := hd.f3, f4 := hd.f4, f5 := hd.f5, fz := hd.fz,
          os := (((ho1.low (Nat.zero_le _)).nob hk2).nob hk3).kp kq fun k _ hk => by have := t1 k hk; omega
          oe := ((ho2.low (Nat.zero_le _)).nob hk3).kp kq fun k _ hk => by have := t2 k hk; omega
          ow := own_kp (own_low ho3 (Nat.zero_le _)) kq fun k hk => by have := t3 k hk; omega
          rs := h.rs.nob kT
          nb := fun k hk => by
            rcases hk with hk | hk | hk
            · have := t1 k hk; omega
            · have := t2 k hk; omega
            · have := t3 k hk; omega
          nse := fun k hk hk' => by have := t1 k hk; have := t2 k hk'; omega
          hb := ⟨Nat.le_refl _, by omega⟩
          hF := fun k hk => by
            rcases hk with hk | hk | hk
            · have := t1 k hk; exact ⟨by omega, by omega⟩
            · have := t2 k hk; exact ⟨by omega, by omega⟩
            · have := t3 k hk; exact ⟨by omega, by omega⟩
          lt := fun k hk => hk.2
          hR := fun k hk => ⟨by have := (h.hR k hk).1; omega, fun hf => by have := (h.hR k hk).1; omega⟩
          c1 := h.c1, c2 := h.c2, c3 := h.c3, c4 := h.c4 }
end Go.Proofs.YtgjaggnpheoehaaDoor
