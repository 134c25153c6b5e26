/- The walk of the law LogSure. -/
import Derived.Test.YtgjaggnpheoehaaDoorLSureD
import Derived.Deep.CutBlock
import Derived.Deep.DeepCutAuto
set_option linter.unusedVariables false
set_option linter.unusedSimpArgs false
namespace Go.Proofs.YtgjaggnpheoehaaDoor
open Go.RowKit

theorem owp_push {W : World} {o : Oper} {a : Act} {K : Act → World → Prop} {Q : Exit → Act → World → Prop} (s y : Operand) (ho : o.op = .call { callee := .builtin .append, args := #[s, y], argTypes := #[41, 41] }) (base : Nat) (v u : Value) (us : List Value) (g off c : Nat) (hs : a.eval s = v) (hy : a.eval y = .slice (some ⟨g, off, none⟩) 1 c)
    (hown : Own1 22 W base v us) (hk : base ≤ W.heap.size) (hc : W.cell? ⟨g, off, none⟩ = some u) (h1 : u.oneCell' = true) (hl : (us.length + 1) * 24 ≤ 140737488355328)
    (h : ∀ v' w', Own1 22 w' base v' (us ++ [u]) → (v'.ownBlock = v.ownBlock ∨ v'.ownBlock = some W.heap.size) → Kp (fun k => v.ownBlock = some k) W w' → K (a.put o.dst v') w') : o.wp Tryd.prog a W K Q := by
  obtain ⟨v', w', h1, h2, h3, h4⟩ := run_push rowL o.type hown g off c hc h1 hl hk
  exact Lib.wp_append_run W s y _ _ ho v _ hs hy v' w' h1 (h v' w' h2 h4 (Kp.of_grown h3))

set_option maxRecDepth 100000 in
set_option maxHeartbeats 16000000 in
theorem logSure_walk (us0 : List (Value × Value)) (xs0 : List AR) (v : Value) (w : World) (hT : TabOk w) (hv : Acts w v us0 xs0) :
    Calls Tryd.prog 12 #[v] w fun e w' => e = .returned (.bool true) ∧ Kp NoB w w' := by
  obtain ⟨Av, cv, he, _⟩ := hv.2
  have HX := Lib.hid hv
  have HT := Lib.hid hT
  subst he
  clear hv hT
  go_enter Tryd.func12, Tryd.ntmps12
  go_wp2_with fail
  refine (new_calls 3000 (by decide) w).mono ?_
  rintro e w1 ⟨p, rfl, d1, k1⟩
  obtain ⟨q, rfl⟩ := d1.ptr
  have m1 : Made w (fun k => k = w.heap.size) w1 := ⟨k1, fun k h => by omega⟩
  generalize (fun k => k = w.heap.size) = F1 at *
  clear k1
  go_wp2_with fail
  refine (ld_recover d1 m1 HT.out (by decide) parse_none rfl (by decide)).mono ?_
  rintro e w2 ⟨F2, R2, b2, vo, us2, rfl, s2, hb2, h2, hv2, hr2⟩
  obtain ⟨Ao, co, rfl⟩ := hv2.len
  change LD w w2 b2 q F2 R2 [] 0 (dSure [] 0 0 0) at h2
  have k3 : Kp NoB w2 (w2.alloc (.cells #[.slice none 0 0, .int .i64 0] 84)) := (Kp.refl _ _).alloc _
  have hh := heap_alloc_new w2 (.cells #[.slice none 0 0, .int .i64 0] 84)
  have c0 : (w2.alloc (.cells #[.slice none 0 0, .int .i64 0] 84)).cell? ⟨w2.heap.size, 0, none⟩ = some (.slice none 0 0) := by simp only [World.cell?, hh]; rfl
  have c1 : (w2.alloc (.cells #[.slice none 0 0, .int .i64 0] 84)).cell? ⟨w2.heap.size, 1, none⟩ = some (.int .i64 0) := by simp only [World.cell?, hh]; rfl
  have cf : ∀ i, (w2.alloc (.cells #[.slice none 0 0, .int .i64 0] 84)).frozen? ⟨w2.heap.size, i, none⟩ = false := fun i => by simp only [World.frozen?, hh]; simp
  have hsz : (w2.alloc (.cells #[.slice none 0 0, .int .i64 0] 84)).heap.size = w2.heap.size + 1 := by simp
  have H2 := Lib.hid h2
  have K3 := Lib.hid k3
  have C0 := Lib.hid c0
  have C1 := Lib.hid c1
  have CF := Lib.hid cf
  have HSZ := Lib.hid hsz
  clear hv2 hr2 d1 m1 s2 hb2 h2 k3 hh c0 c1 cf hsz
  go_wp2_with fail
  have K3 := K3.out
  have C0 := C0.out
  have C1 := C1.out
  have CF := CF.out
  have HSZ := HSZ.out
  have hlt2 := H2.out.lt
  have hk02 := H2.out.made.kp
  have hs02 := hk02.size
  generalize w2.alloc (.cells #[.slice none 0 0, .int .i64 0] 84) = w3 at *
  refine (few_calls xs0 us0 _ 40 w3 ((HX.out.nob hk02).nob K3) (by decide) (fun b => b < w.heap.size) ((((HX.out.1.mono (T := fun b => b < w.heap.size) fun _ h _ => h).nob hk02).nob K3))).mono ?_
  rintro e w4 ⟨v4, us4, rfl, o4, a4, k4⟩
  change w4.ownsRow w3.heap.size _ 4 v4 (few 40 xs0).length (arow (few 40 xs0) us4) at o4
  change AS _ w3 us4 (few 40 xs0) at a4
  have hfl := few_length 40 xs0
  have hfb := few_b 40 xs0
  have hus : us4.length = (few 40 xs0).length := a4.1
  generalize few 40 xs0 = zs at *
  obtain ⟨A4, c4, rfl⟩ := own4_len o4
  have si : SI w w4 q w2.heap.size b2 F2 R2 [] 0 (dSure [] 0 0 0) [] 0 (.slice none 0 0) [] (.slice A4 zs.length c4) zs.length (arow zs us4) :=
    ⟨(H2.out.nob K3).nob k4, k4.cell C0 id, k4.cell C1 id, fun i hi => (k4.frozen (p := ⟨w2.heap.size, i, none⟩) (show w2.heap.size < w3.heap.size by omega) id).trans (CF i), Own1.nil _ _ _, RS.nil _ _, fun g h => absurd h (by simp [Value.ownBlock]),
     ⟨fun h => by have := hlt2 _ (.inl h); omega, fun h => by have := hlt2 _ (.inr (.inl h)); omega, fun h => by have := hlt2 _ (.inr (.inr h)); omega, hs02, by have := k4.size; omega⟩, own_low o4 (by omega),
     fun g hg => by
      have h1 := (World.ownsRow.lt o4 g hg).1
      exact ⟨fun h => by have := hlt2 _ (.inl h); omega, fun h => by have := hlt2 _ (.inr (.inl h)); omega, fun h => by have := hlt2 _ (.inr (.inr h)); omega, by omega, by simp [Value.ownBlock]⟩⟩
  generalize w2.heap.size = bm at *
  have HSI := Lib.hid si
  have HL := Lib.hid hus
  have k04 := (hk02.trans K3).trans k4
  have HA := Lib.hid (a4.nob k4)
  have HFB := Lib.hid hfb
  have K04 := Lib.hid k04
  clear si hus a4 o4 hfb k04 hlt2 hk02 hs02 K3 C0 C1 CF HSZ H2
  go_wp2_with fail
  go_loopw [5, 39] (fun x i wr => ∃ (k b : Nat) (F R : Nat → Prop) (L : List (List UInt8)) (s z0 z : Nat) (va : Value) (us : List Value), k ≤ zs.length ∧ i = .int .i64 (k : Int) ∧ x = .pointer (some ⟨b, 0, none⟩) ∧ SI w wr q bm b F R L s (dSure L s z0 z) L s va us (.slice A4 zs.length c4) zs.length (arow zs us4) ∧ L.length ≤ k ∧ (∀ p ∈ L, p.length ≤ 60)) (fun _ i _ => zs.length - (intOf i).toNat)
  case atStart => exact ⟨0, b2, F2, R2, [], 0, 0, 0, _, [], Nat.zero_le _, rfl, rfl, HSI.out, Nat.le_refl _, fun p hp => by cases hp⟩
  case round =>
    obtain ⟨k, b, F, R, L, s, z0, z, va, us, hk, rfl, rfl, hsi, hLk, hL60⟩ := hrel
    clear HSI
    by_cases hlt : k < zs.length
    · have hku : k < us4.length := by rw [HL.out]; exact hlt
      obtain ⟨g, c, he, hcc, x0, x1, x2, x3⟩ := own4_at hsi.act HL.out rfl k hlt hku
      injection he with e1 e2 e3
      subst e1 e3
      have kwr := hsi.kp0
      have hx := HA.out.2 k hku hlt
      have hyb := HFB.out zs[k] (List.getElem_mem hlt)
      generalize zs[k] = y at *
      generalize us4[k] = u at *
      obtain ⟨u1, u2⟩ := u
      obtain ⟨what, many, p, keep⟩ := y
      obtain ⟨hb1, hb2, ⟨hi1, hi2, hi3⟩⟩ := hx
      obtain ⟨B1, d1, rfl⟩ := hb1.len
      obtain ⟨B2, d2, rfl⟩ := hb2.len
      simp only at x0 x1 x2 x3 hb1 hb2 hi1 hi2 hi3 hyb
      rw [List.length_map] at *
      have hul := hsi.rows.1
      obtain ⟨Ay, cy, rfl⟩ := hsi.own.vals.len
      rw [hul] at hsi
      have hs : s ≤ L.length := hsi.ld.log.c2
      have hL40 : L.length ≤ 40 := by omega
      have hL16 : ∀ p ∈ L, p.length ≤ 16384 := fun p hp => Nat.le_trans (hL60 p hp) (by decide)
      obtain ⟨hp60, hk20⟩ := hyb
      have hwt : (dSure L s z0 z).waits.length ≤ 1000000 := by show (waitsF _ _ _ _).length ≤ _; rw [waitsF_length, List.length_drop]; omega
      have kal : Kp NoB wr (wr.alloc (.cells #[.int .i64 what, .int .i64 many, .slice B1 p.length d1, .slice B2 keep.length d2] 71)) := (Kp.refl _ _).alloc _
      have y2 : (wr.alloc (.cells #[.int .i64 what, .int .i64 many, .slice B1 p.length d1, .slice B2 keep.length d2] 71)).cell? ⟨wr.heap.size, 2, none⟩ = some (.slice B1 p.length d1) := by simp only [World.cell?, heap_alloc_new wr (.cells #[.int .i64 what, .int .i64 many, .slice B1 p.length d1, .slice B2 keep.length d2] 71)]; rfl
      have hlts := hsi.ld.lt
      have HGA : Hid (¬ F wr.heap.size ∧ wr.heap.size ≠ b ∧ wr.heap.size ≠ bm ∧ ¬ (Value.slice Ay L.length cy).ownBlock = some wr.heap.size) := Lib.hid ⟨fun h => by have := hlts _ (.inl h); omega, fun h => by have := hlts _ (.inr (.inr h)); omega, by have := hsi.a2.2.2.2.2; omega, fun h => by have := (hsi.own.lt _ h).2; omega⟩
      have HBM : Hid (¬ bm = wr.heap.size) := Lib.hid (by have := hsi.a2.2.2.2.2; omega)
      have HSA := Lib.hid (hsi.nob kal)
      have HB1 := Lib.hid (hb1.back K04.out)
      have HB2 := Lib.hid (hb2.back K04.out)
      have HUL := Lib.hid hul
      have Y2 := Lib.hid y2
      have HL60 := Lib.hid hL60
      have HL16 := Lib.hid hL16
      have HI3 := Lib.hid hi3
      have HWT := Lib.hid hwt
      clear hsi hb1 hb2 hul kal y2 hlts hL60 hL16 hi3 hi1 hi2 hwt hcc kwr
      go_upto_block 2 with fail
      go_cut [5] (fun s5 wx => ∃ (b : Nat) (F R : Nat → Prop) (L : List (List UInt8)) (s z0 z : Nat) (va : Value) (us : List Value), s5 = .pointer (some ⟨b, 0, none⟩) ∧ SI w wx q bm b F R L s (dSure L s z0 z) L s va us (.slice (some ⟨g, 0, none⟩) zs.length c4) zs.length (arow zs us4) ∧ L.length ≤ k + 1 ∧ (∀ p ∈ L, p.length ≤ 60))
      case first =>
        by_cases h04 : what = 0 ∨ what = 1 ∨ what = 2 ∨ what = 3 ∨ what = 4
        · as_aux_lemma =>
            go_upto_if 45 with fail
            go_cut [45] (fun s45 wx => s45 = .bool true ∧ wx = (wr.alloc (.cells #[.int .i64 what, .int .i64 many, .slice B1 p.length d1, .slice B2 keep.length d2] 71)))
            case first =>
              clear HSA HGA HB1 HB2 HUL HL60 HL16 HI3 HWT Y2
              rcases h04 with rfl | rfl | rfl | rfl | rfl
              all_goals (go_wp2_with fail; go_meet; exact ⟨rfl, rfl⟩)
            case rest =>
              obtain ⟨rfl, rfl⟩ := hcut
              clear h04
              have hHB := HB1.out
              rcases appE_cases L s z0 z p hp60 with hE | hE
              · have hD := dSure_app L s z0 z p hs hE
                have HE := Lib.hid hE
                have HD := Lib.hid hD
                have y2 := Y2.out
                clear hE hD hHB
                go_wp2_with fail
                clear y2
                refine (ld_append HSA.out.ld p _ (HSA.out.ld.made.old HB1.out) HE.out HWT.out).mono ?_
                rintro e w5 ⟨rfl, F5, R5, h5, s5⟩
                rw [HD.out] at h5
                have si5 := HSA.out.log s5 h5
                have y5 := s5.kp.cell Y2.out (fun h => h.elim HGA.out.1 HGA.out.2.1)
                have hblk := HGA.out.2.2.2
                have hbq := (HB1.out.nob ((si5.nob (Kp.refl NoB w5).drew).kp0))
                have S5 := Lib.hid (si5.nob (Kp.refl NoB w5).drew)
                have HBQ := Lib.hid hbq
                have hyd := (Kp.refl NoB w5).drew.cell y5 id
                have HYD := Lib.hid hyd
                have HBLK := Lib.hid hblk
                clear hyd y5 hblk hbq si5 s5 h5 HE HD HSA HGA
                go_wp2_with fail
                refine wp_region_held_drew (S := (fun w' => w'.cell? ⟨wr.heap.size, 2, none⟩ = some (.slice B1 p.length d1))) (by kernel_rfl) HYD.out (fun hHeld => ?_)
                generalize w5.drew = w6 at *
                refine wpAnyH_take (i := 0) (v := ?_) rfl (by kernel_rfl) (by kernel_rfl) (by kernel_rfl) (fun _ _ _ h => h) (Or.inl ⟨by rfl, ?_⟩) (by assumption) ?_
                rotate_left
                · intro w hSw
                  (try dsimp only at hSw)
                  go_simp
                  all_goals (with_reducible rfl)
                (try simp only [Act.put, List.getElem_toArray, List.getElem_cons_succ, List.getElem_cons_zero, List.setIfInBounds_toArray, List.set_cons_zero, List.set_cons_succ])
                refine wpAnyH_take (i := 2) (v := ?_) rfl (by kernel_rfl) (by kernel_rfl) (by kernel_rfl) (fun _ _ _ h => h) (Or.inl ⟨by rfl, ?_⟩) (by assumption) ?_
                rotate_left
                · intro w hSw
                  (try dsimp only at hSw)
                  go_simp
                  all_goals (with_reducible rfl)
                (try simp only [Act.put, List.getElem_toArray, List.getElem_cons_succ, List.getElem_cons_zero, List.setIfInBounds_toArray, List.set_cons_zero, List.set_cons_succ])
                refine wpAnyH_take (i := 3) (v := ?_) rfl (by kernel_rfl) (by kernel_rfl) (by kernel_rfl) (fun _ _ _ h => h) (Or.inl ⟨by rfl, ?_⟩) (by assumption) ?_
                rotate_left
                · intro w hSw
                  (try dsimp only at hSw)
                  go_simp
                  all_goals (with_reducible rfl)
                (try simp only [Act.put, List.getElem_toArray, List.getElem_cons_succ, List.getElem_cons_zero, List.setIfInBounds_toArray, List.set_cons_zero, List.set_cons_succ])
                refine wpAnyH_ready (rs := [1, 4]) (by kernel_rfl) (by simp) ?_
                refine AllReadyH.cons rfl (fun K hK => ?_) (AllReadyH.cons rfl (fun K hK => ?_) AllReadyH.nil)
                · skip
                  (try rw [if_pos (by rfl)])
                  have n1x := S5.out.m0
                  go_simp
                  clear n1x
                  refine hK.out _ _ ?_ (fun hHeld => ?_)
                  · exact hHeld
                  clear hK K
                  (try simp only [Act.put, List.getElem_toArray, List.getElem_cons_succ, List.getElem_cons_zero, List.setIfInBounds_toArray, List.set_cons_zero, List.set_cons_succ])
                  refine wpAnyH_ready (rs := [4]) (by kernel_rfl) (by simp) ?_
                  refine AllReadyH.cons rfl (fun K hK => ?_) AllReadyH.nil
                  (try rw [if_pos (by rfl)])
                  go_simp
                  refine (bclone_calls p _ _ HBQ.out (by omega)).mono ?_
                  rintro e w7 ⟨v7, rfl, o7, k7⟩
                  obtain ⟨A7, c7, rfl⟩ := o7.bs.len
                  have S7 := Lib.hid (S5.out.nob k7)
                  refine hK.out _ _ (k7.cell hHeld id) (fun hHeld => ?_)
                  clear hK K
                  (try simp only [Act.put, List.getElem_toArray, List.getElem_cons_succ, List.getElem_cons_zero, List.setIfInBounds_toArray, List.set_cons_zero, List.set_cons_succ])
                  refine wpAnyH_ready (rs := [5]) (by kernel_rfl) (by simp) ?_
                  refine AllReadyH.cons rfl (fun K hK => ?_) AllReadyH.nil
                  (try rw [if_pos (by rfl)])
                  go_simp
                  have k8 : Kp NoB w7 (w7.alloc (.cells #[.slice A7 p.length c7] 22)) := (Kp.refl _ _).alloc _
                  have S8 := Lib.hid (S7.out.nob k8)
                  refine hK.out _ _ (k8.cell hHeld id) (fun hHeld => ?_)
                  clear hK K
                  (try simp only [Act.put, List.getElem_toArray, List.getElem_cons_succ, List.getElem_cons_zero, List.setIfInBounds_toArray, List.set_cons_zero, List.set_cons_succ])
                  refine wpAnyH_ready (rs := [6]) (by kernel_rfl) (by simp) ?_
                  refine AllReadyH.cons rfl (fun K hK => ?_) AllReadyH.nil
                  (try rw [if_pos (by rfl)])
                  refine owp_push _ _ rfl w.heap.size _ _ us _ 0 _ rfl rfl S8.out.own S8.out.kp0.size (cell_new1 _ _ _ _) rfl (by rw [HUL.out]; omega) ?_
                  intro v9 w9 own9 c9 k9
                  refine hK.out _ _ (k9.cell hHeld fun hf => HBLK.out hf) (fun hHeld => ?_)
                  clear hK K
                  have S9 := Lib.hid (S5.out.push o7 k7 k8 own9 c9 k9)
                  have n9 := k9.cell S8.out.m0 (fun hf => (S8.out.a1 _ hf).2.2.2 rfl)
                  have f9 := (k9.frozen (p := ⟨bm, 0, none⟩) S8.out.a2.2.2.2.2 (fun hf => (S8.out.a1 _ hf).2.2.2 rfl)).trans (S8.out.mf 0 (by decide))
                  have hb9 : ¬ bm = wr.heap.size := HBM.out
                  have n10 := S9.out.m0
                  obtain ⟨A9, c9', rfl⟩ := own9.vals.len
                  rw [List.length_append, List.length_singleton, HUL.out] at *
                  (try simp only [Act.put, List.getElem_toArray, List.getElem_cons_succ, List.getElem_cons_zero, List.setIfInBounds_toArray, List.set_cons_zero, List.set_cons_succ])
                  refine wpAnyH_take (i := 7) (v := ?_) rfl (by kernel_rfl) (by kernel_rfl) (by kernel_rfl) (fun _ _ _ h => h) (Or.inl ⟨by rfl, ?_⟩) (by assumption) ?_
                  rotate_left
                  · intro w hSw
                    (try dsimp only at hSw)
                    go_simp
                    all_goals (with_reducible rfl)
                  (try simp only [Act.put, List.getElem_toArray, List.getElem_cons_succ, List.getElem_cons_zero, List.setIfInBounds_toArray, List.set_cons_zero, List.set_cons_succ])
                  refine wpAnyH_ready (rs := [8]) (by kernel_rfl) (by simp) ?_
                  refine AllReadyH.cons rfl (fun K hK => ?_) AllReadyH.nil
                  (try rw [if_pos (by rfl)])
                  go_simp
                  refine hK.out _ _ ((kp_bm w9 bm 0 _).cell hHeld fun h => hb9 h.symm) (fun hHeld => ?_)
                  clear hK K
                  (try simp only [Act.put, List.getElem_toArray, List.getElem_cons_succ, List.getElem_cons_zero, List.setIfInBounds_toArray, List.set_cons_zero, List.set_cons_succ])
                  refine wpAnyH_done (by kernel_rfl) ?_ _
                  go_simp
                  clear hHeld n9 f9
                  have e9 : (IntKind.i64.wrap ((L.length : Int) + 1) != (L.length : Int) + 1) = false := by
                    rw [wrap_in (by omega) (by omega)]; simp
                  clear k7 k8 k9 own9 c9 o7 S7 S8 S5
                  go_wp2_with fail
                  go_meet
                  exact ⟨b, F5, R5, L ++ [p], s, z0, z - (10 + p.length), _, _, rfl, S9.out, by simp; omega, fun x hx => (List.mem_append.1 hx).elim (HL60.out x) fun h => by rw [List.mem_singleton.1 h]; exact hp60⟩
                · skip
                  (try rw [if_pos (by rfl)])
                  go_simp
                  refine (bclone_calls p _ _ HBQ.out (by omega)).mono ?_
                  rintro e w7 ⟨v7, rfl, o7, k7⟩
                  obtain ⟨A7, c7, rfl⟩ := o7.bs.len
                  have S7 := Lib.hid (S5.out.nob k7)
                  refine hK.out _ _ (k7.cell hHeld id) (fun hHeld => ?_)
                  clear hK K
                  (try simp only [Act.put, List.getElem_toArray, List.getElem_cons_succ, List.getElem_cons_zero, List.setIfInBounds_toArray, List.set_cons_zero, List.set_cons_succ])
                  refine wpAnyH_ready (rs := [1, 5]) (by kernel_rfl) (by simp) ?_
                  refine AllReadyH.cons rfl (fun K hK => ?_) (AllReadyH.cons rfl (fun K hK => ?_) AllReadyH.nil)
                  · skip
                    (try rw [if_pos (by rfl)])
                    have n1x := S7.out.m0
                    go_simp
                    clear n1x
                    refine hK.out _ _ ?_ (fun hHeld => ?_)
                    · exact hHeld
                    clear hK K
                    (try simp only [Act.put, List.getElem_toArray, List.getElem_cons_succ, List.getElem_cons_zero, List.setIfInBounds_toArray, List.set_cons_zero, List.set_cons_succ])
                    refine wpAnyH_ready (rs := [5]) (by kernel_rfl) (by simp) ?_
                    refine AllReadyH.cons rfl (fun K hK => ?_) AllReadyH.nil
                    (try rw [if_pos (by rfl)])
                    go_simp
                    have k8 : Kp NoB w7 (w7.alloc (.cells #[.slice A7 p.length c7] 22)) := (Kp.refl _ _).alloc _
                    have S8 := Lib.hid (S7.out.nob k8)
                    refine hK.out _ _ (k8.cell hHeld id) (fun hHeld => ?_)
                    clear hK K
                    (try simp only [Act.put, List.getElem_toArray, List.getElem_cons_succ, List.getElem_cons_zero, List.setIfInBounds_toArray, List.set_cons_zero, List.set_cons_succ])
                    refine wpAnyH_ready (rs := [6]) (by kernel_rfl) (by simp) ?_
                    refine AllReadyH.cons rfl (fun K hK => ?_) AllReadyH.nil
                    (try rw [if_pos (by rfl)])
                    refine owp_push _ _ rfl w.heap.size _ _ us _ 0 _ rfl rfl S8.out.own S8.out.kp0.size (cell_new1 _ _ _ _) rfl (by rw [HUL.out]; omega) ?_
                    intro v9 w9 own9 c9 k9
                    refine hK.out _ _ (k9.cell hHeld fun hf => HBLK.out hf) (fun hHeld => ?_)
                    clear hK K
                    have S9 := Lib.hid (S5.out.push o7 k7 k8 own9 c9 k9)
                    have n9 := k9.cell S8.out.m0 (fun hf => (S8.out.a1 _ hf).2.2.2 rfl)
                    have f9 := (k9.frozen (p := ⟨bm, 0, none⟩) S8.out.a2.2.2.2.2 (fun hf => (S8.out.a1 _ hf).2.2.2 rfl)).trans (S8.out.mf 0 (by decide))
                    have hb9 : ¬ bm = wr.heap.size := HBM.out
                    have n10 := S9.out.m0
                    obtain ⟨A9, c9', rfl⟩ := own9.vals.len
                    rw [List.length_append, List.length_singleton, HUL.out] at *
                    (try simp only [Act.put, List.getElem_toArray, List.getElem_cons_succ, List.getElem_cons_zero, List.setIfInBounds_toArray, List.set_cons_zero, List.set_cons_succ])
                    refine wpAnyH_take (i := 7) (v := ?_) rfl (by kernel_rfl) (by kernel_rfl) (by kernel_rfl) (fun _ _ _ h => h) (Or.inl ⟨by rfl, ?_⟩) (by assumption) ?_
                    rotate_left
                    · intro w hSw
                      (try dsimp only at hSw)
                      go_simp
                      all_goals (with_reducible rfl)
                    (try simp only [Act.put, List.getElem_toArray, List.getElem_cons_succ, List.getElem_cons_zero, List.setIfInBounds_toArray, List.set_cons_zero, List.set_cons_succ])
                    refine wpAnyH_ready (rs := [8]) (by kernel_rfl) (by simp) ?_
                    refine AllReadyH.cons rfl (fun K hK => ?_) AllReadyH.nil
                    (try rw [if_pos (by rfl)])
                    go_simp
                    refine hK.out _ _ ((kp_bm w9 bm 0 _).cell hHeld fun h => hb9 h.symm) (fun hHeld => ?_)
                    clear hK K
                    (try simp only [Act.put, List.getElem_toArray, List.getElem_cons_succ, List.getElem_cons_zero, List.setIfInBounds_toArray, List.set_cons_zero, List.set_cons_succ])
                    refine wpAnyH_done (by kernel_rfl) ?_ _
                    go_simp
                    clear hHeld n9 f9
                    have e9 : (IntKind.i64.wrap ((L.length : Int) + 1) != (L.length : Int) + 1) = false := by
                      rw [wrap_in (by omega) (by omega)]; simp
                    clear k7 k8 k9 own9 c9 o7 S7 S8 S5
                    go_wp2_with fail
                    go_meet
                    exact ⟨b, F5, R5, L ++ [p], s, z0, z - (10 + p.length), _, _, rfl, S9.out, by simp; omega, fun x hx => (List.mem_append.1 hx).elim (HL60.out x) fun h => by rw [List.mem_singleton.1 h]; exact hp60⟩
                  · skip
                    (try rw [if_pos (by rfl)])
                    go_simp
                    have k8 : Kp NoB w7 (w7.alloc (.cells #[.slice A7 p.length c7] 22)) := (Kp.refl _ _).alloc _
                    have S8 := Lib.hid (S7.out.nob k8)
                    refine hK.out _ _ (k8.cell hHeld id) (fun hHeld => ?_)
                    clear hK K
                    (try simp only [Act.put, List.getElem_toArray, List.getElem_cons_succ, List.getElem_cons_zero, List.setIfInBounds_toArray, List.set_cons_zero, List.set_cons_succ])
                    refine wpAnyH_ready (rs := [1]) (by kernel_rfl) (by simp) ?_
                    refine AllReadyH.cons rfl (fun K hK => ?_) AllReadyH.nil
                    (try rw [if_pos (by rfl)])
                    have n1x := S8.out.m0
                    go_simp
                    clear n1x
                    refine hK.out _ _ ?_ (fun hHeld => ?_)
                    · exact hHeld
                    clear hK K
                    (try simp only [Act.put, List.getElem_toArray, List.getElem_cons_succ, List.getElem_cons_zero, List.setIfInBounds_toArray, List.set_cons_zero, List.set_cons_succ])
                    refine wpAnyH_ready (rs := [6]) (by kernel_rfl) (by simp) ?_
                    refine AllReadyH.cons rfl (fun K hK => ?_) AllReadyH.nil
                    (try rw [if_pos (by rfl)])
                    refine owp_push _ _ rfl w.heap.size _ _ us _ 0 _ rfl rfl S8.out.own S8.out.kp0.size (cell_new1 _ _ _ _) rfl (by rw [HUL.out]; omega) ?_
                    intro v9 w9 own9 c9 k9
                    refine hK.out _ _ (k9.cell hHeld fun hf => HBLK.out hf) (fun hHeld => ?_)
                    clear hK K
                    have S9 := Lib.hid (S5.out.push o7 k7 k8 own9 c9 k9)
                    have n9 := k9.cell S8.out.m0 (fun hf => (S8.out.a1 _ hf).2.2.2 rfl)
                    have f9 := (k9.frozen (p := ⟨bm, 0, none⟩) S8.out.a2.2.2.2.2 (fun hf => (S8.out.a1 _ hf).2.2.2 rfl)).trans (S8.out.mf 0 (by decide))
                    have hb9 : ¬ bm = wr.heap.size := HBM.out
                    have n10 := S9.out.m0
                    obtain ⟨A9, c9', rfl⟩ := own9.vals.len
                    rw [List.length_append, List.length_singleton, HUL.out] at *
                    (try simp only [Act.put, List.getElem_toArray, List.getElem_cons_succ, List.getElem_cons_zero, List.setIfInBounds_toArray, List.set_cons_zero, List.set_cons_succ])
                    refine wpAnyH_take (i := 7) (v := ?_) rfl (by kernel_rfl) (by kernel_rfl) (by kernel_rfl) (fun _ _ _ h => h) (Or.inl ⟨by rfl, ?_⟩) (by assumption) ?_
                    rotate_left
                    · intro w hSw
                      (try dsimp only at hSw)
                      go_simp
                      all_goals (with_reducible rfl)
                    (try simp only [Act.put, List.getElem_toArray, List.getElem_cons_succ, List.getElem_cons_zero, List.setIfInBounds_toArray, List.set_cons_zero, List.set_cons_succ])
                    refine wpAnyH_ready (rs := [8]) (by kernel_rfl) (by simp) ?_
                    refine AllReadyH.cons rfl (fun K hK => ?_) AllReadyH.nil
                    (try rw [if_pos (by rfl)])
                    go_simp
                    refine hK.out _ _ ((kp_bm w9 bm 0 _).cell hHeld fun h => hb9 h.symm) (fun hHeld => ?_)
                    clear hK K
                    (try simp only [Act.put, List.getElem_toArray, List.getElem_cons_succ, List.getElem_cons_zero, List.setIfInBounds_toArray, List.set_cons_zero, List.set_cons_succ])
                    refine wpAnyH_done (by kernel_rfl) ?_ _
                    go_simp
                    clear hHeld n9 f9
                    have e9 : (IntKind.i64.wrap ((L.length : Int) + 1) != (L.length : Int) + 1) = false := by
                      rw [wrap_in (by omega) (by omega)]; simp
                    clear k7 k8 k9 own9 c9 o7 S7 S8 S5
                    go_wp2_with fail
                    go_meet
                    exact ⟨b, F5, R5, L ++ [p], s, z0, z - (10 + p.length), _, _, rfl, S9.out, by simp; omega, fun x hx => (List.mem_append.1 hx).elim (HL60.out x) fun h => by rw [List.mem_singleton.1 h]; exact hp60⟩
              · have HE := Lib.hid hE
                have y2 := Y2.out
                clear hE hHB
                go_wp2_with fail
                clear y2
                refine (ld_refuse HSA.out.ld p _ (HSA.out.ld.made.old HB1.out) 7 HE.out (by decide) HWT.out).mono ?_
                rintro e w5 ⟨rfl, F5, R5, h5, s5⟩
                have S5 := Lib.hid (HSA.out.log s5 h5)
                clear HE HSA HGA s5 h5
                go_wp2_with fail
                go_meet
                exact ⟨b, F5, R5, L, s, z0, z, _, _, rfl, S5.out, by omega, HL60.out⟩
        · by_cases h5 : what = 5
          · as_aux_lemma =>
              subst h5
              clear h04
              go_wp2_with fail
              refine (ld_sync HSA.out.ld).mono ?_
              rintro e w5 ⟨rfl, F5, R5, h5, s5⟩
              rw [dSure_sync] at h5
              have si5 := HSA.out.log s5 h5
              have n0 := si5.m0
              have n1 := si5.m1
              have nf := si5.mf 1 (by decide)
              have S6 := Lib.hid (si5.setSure L.length)
              clear si5 s5 h5 HSA
              go_wp2_with fail
              go_meet
              exact ⟨b, F5, R5, L, L.length, z, z, _, us, rfl, S6.out, by omega, HL60.out⟩
          · by_cases h6 : what = 6 ∨ what = 8 ∨ what = 9
            · as_aux_lemma =>
                have t0 : (what == 0) = false := by simp; omega
                have t1 : (what == 1) = false := by simp; omega
                have t2 : (what == 2) = false := by simp; omega
                have t3 : (what == 3) = false := by simp; omega
                have t4 : (what == 4) = false := by simp; omega
                have t5 : (what == 5) = false := by simp; omega
                have H6 := Lib.hid h6
                clear h04 h5 h6
                go_upto_if 99 with fail
                go_cut [99] (fun s99 wx => s99 = .bool true ∧ wx = (wr.alloc (.cells #[.int .i64 what, .int .i64 many, .slice B1 p.length d1, .slice B2 keep.length d2] 71)))
                case first =>
                  clear HSA HGA HB1 HB2 HUL HL60 HL16 HI3 HWT Y2
                  have h6 := H6.out
                  clear H6
                  rcases h6 with rfl | rfl | rfl
                  all_goals (go_wp2_with fail; go_meet; exact ⟨rfl, rfl⟩)
                case rest =>
                  obtain ⟨rfl, rfl⟩ := hcut
                  clear t0 t1 t2 t3 t4 t5 H6
                  go_wp2_with fail
                  refine (crash_calls HSA.out.ld.dsk keep _ (HSA.out.ld.made.oldV HB2.out) HI3.out HWT.out).mono ?_
                  rintro e w5 ⟨rfl, F5, R5, d5, s5⟩
                  have m5 := HSA.out.ld.made.step s5
                  have D5 := Lib.hid d5
                  have S5 := Lib.hid s5
                  clear d5 s5
                  go_wp2_with fail
                  refine (ld_recover_any D5.out m5 HT.out (by show 0 ≤ 1000000; decide) rfl).mono ?_
                  rintro e w6 ⟨got, rest, F6, R6, b6, vo6, us6, hp, rfl, s6, hb6, h6, hv6, hr6⟩
                  have hsr := sure_read L s z0 z keep got rest hs (by omega) HL16.out hp
                  have h6' : LD w w6 b6 q F6 R6 got got.length (dSure got got.length rest.length rest.length) := by rw [← dSure_rec]; exact h6
                  have si6 := HSA.out.newlog (S5.out.trans s6) (Nat.le_trans S5.out.kp.size hb6) h6'
                  have hl6 := hr6.1
                  obtain ⟨Av6, cv6, rfl⟩ := hv6.len
                  rw [hl6]
                  have hvo := hv6.all
                  have hro := hr6.all
                  have hsg := hsr.1
                  have hsb : decide (got.length < s) = false := decide_eq_false (by omega)
                  have hm0 := si6.m0
                  have hm1 := si6.m1
                  have hf0 := si6.mf 0 (by decide)
                  have hf1 := si6.mf 1 (by decide)
                  have hkeep := HB2.out.nob si6.kp0
                  obtain ⟨N, hN1, hN2, hN3, hN4⟩ : ∃ N, N ≤ got.length ∧ N ≤ L.length ∧ got.take N = L.take N ∧ (N = got.length ∨ ∃ (j : Nat) (r : List UInt8) (hg : N < got.length) (hl : N < L.length) (hj : j < keep.length), N = s + j ∧ got[N] ≠ L[N] ∧ openE (chainS 0 1 (L.take N)) (N + 1) (tornN (chainS 0 1 (L.take N)) (N + 1) L[N] keep[j]) = 0 ∧ payN (tornN (chainS 0 1 (L.take N)) (N + 1) L[N] keep[j]) = got[N]) := by
                    rcases hsr.2 with ⟨a1, a2⟩ | ⟨K, jj, pp, r, kk, a1, a2, a3, a4, a5, a6, a7, a8⟩
                    · exact ⟨got.length, Nat.le_refl _, a1, by rw [List.take_length]; exact a2, .inl rfl⟩
                    · obtain ⟨hg, e3⟩ := List.getElem?_eq_some_iff.1 a3
                      obtain ⟨hl, e4⟩ := List.getElem?_eq_some_iff.1 a4
                      obtain ⟨hj, e5⟩ := List.getElem?_eq_some_iff.1 a5
                      exact ⟨K, by omega, by omega, a2, .inr ⟨jj, r, hg, hl, hj, a1, by rw [e3, e4]; exact a6, by rw [e4, e5]; exact a7, by rw [e3, e4, e5]; exact a8⟩⟩
                  have SI6 := Lib.hid si6
                  have HVO := Lib.hid hvo
                  have HRO := Lib.hid hro
                  have HL6 := Lib.hid hl6
                  have HN3 := Lib.hid hN3
                  have HN4 := Lib.hid hN4
                  have HM0 := Lib.hid hm0
                  have HM1 := Lib.hid hm1
                  have HF0 := Lib.hid hf0
                  have HF1 := Lib.hid hf1
                  have HKE := Lib.hid hkeep
                  clear hsr hp s6 hb6 h6 hv6 hr6 h6' si6 hl6 hvo hro hN3 hN4 hf0 hf1 hm0 hkeep HSA D5 m5 S5 HGA Y2 HB1 HB2
                  go_wp2_with fail
                  clear hm1 hsb
                  go_loopw [129] (fun i wq => ∃ n : Nat, n ≤ N ∧ i = .int .i64 (n : Int) ∧ w6 = wq) (fun i _ => got.length - (intOf i).toNat)
                  case atStart => exact ⟨0, Nat.zero_le _, rfl, rfl⟩
                  case round =>
                    obtain ⟨n, hn, rfl, hwq⟩ := hrel
                    rw [← hwq]
                    clear hwq
                    by_cases hlt : n < N
                    · have hng : n < got.length := by omega
                      have hnl : n < L.length := by omega
                      have hnu : n < us6.length := by rw [HL6.out]; exact hng
                      have hnv : n < us.length := by rw [HUL.out]; exact hnl
                      obtain ⟨g1, o1, f1, hc1⟩ := HVO.out.at_ n hnu
                      obtain ⟨g2, o2, f2, hc2⟩ := SI6.out.own.vals.at_ n hnv
                      subst f1 f2
                      have r1 := HRO.out.2 n hnu hng
                      have r2 := (SI6.out.rows.2 n hnv hnl).all
                      have hgl : got[n] = L[n] := by
                        have e1 : (got.take N)[n]'(by simp; omega) = got[n] := by simp
                        have e2 : (L.take N)[n]'(by simp; omega) = L[n] := by simp
                        rw [← e1, ← e2]
                        congr 1
                      have heq := equal_calls got[n] L[n] us6[n] us[n] w6 r1 r2
                      rw [show (got[n] == L[n]) = true by rw [hgl]; simp] at heq
                      have hm0 := HM0.out
                      generalize us6[n] = y1 at *
                      generalize us[n] = y2 at *
                      obtain ⟨A1, e1, rfl⟩ := r1.len
                      obtain ⟨A2, e2, rfl⟩ := r2.len
                      have HEQ := Lib.hid heq
                      clear heq r1 r2 hgl hnu hnv
                      generalize got[n].length = q1 at *
                      generalize L[n].length = q2 at *
                      go_wp2_with fail
                      refine HEQ.out.mono ?_
                      rintro e wz ⟨rfl, rfl⟩
                      go_wp2_with fail
                      go_roundw
                      case measure => simp [intOf]; omega
                      case rel =>
                        first
                          | exact ⟨n + 1, by omega, by go_num, by trivial⟩
                          | ((repeat apply Exists.intro); exact ⟨⟨n + 1, by omega, by go_num, by trivial⟩, rfl⟩)
                    · obtain rfl : n = N := by omega
                      rcases HN4.out with h9 | ⟨jj, r, hg, hl, hj, a1, a2, a3, a4⟩
                      · subst h9
                        have S7 := Lib.hid (SI6.out.trim got.length (by rw [HUL.out]; exact hN2))
                        have e7 : L.take got.length = got := by rw [← HN3.out, List.take_length]
                        rw [e7] at S7
                        obtain ⟨hcut, _⟩ := SI6.out.own.vals.cut0 got.length (by rw [HUL.out]; exact hN2)
                        have hm0 := HM0.out
                        have hm1 := HM1.out
                        have hf0 := HF0.out
                        have hf1 := HF1.out
                        have hm1' := (Kp.refl NoB w6)
                        clear e7
                        have h60 : Hid (∀ p ∈ got, p.length ≤ 60) := Lib.hid fun p hp => HL60.out p (by rw [← List.take_length (l := got), HN3.out] at hp; exact List.mem_of_mem_take hp)
                        go_wp2_with fail
                        go_meet
                        exact ⟨b6, F6, R6, got, got.length, rest.length, rest.length, _, _, rfl, S7.out, by omega, h60.out⟩
                      · have hng : n < us6.length := by rw [HL6.out]; exact hg
                        obtain ⟨g1, o1, f1, hc1⟩ := HVO.out.at_ n hng
                        have r1 := HRO.out.2 n hng hg
                        have hnv : n < us.length := by rw [HUL.out]; exact hl
                        obtain ⟨g2, o2, f2, hc2⟩ := SI6.out.own.vals.at_ n hnv
                        have r2 := (SI6.out.rows.2 n hnv hl).all
                        have heq := equal_calls got[n] L[n] us6[n] us[n] w6 r1 r2
                        rw [show (got[n] == L[n]) = false by simp; exact a2] at heq
                        have hch := chance_calls L us (.slice Ay L.length cy) s n jj got[n] us6[n] keep (.slice B2 keep.length d2) w6 (HT.out.nob SI6.out.kp0) SI6.out.own.vals.all SI6.out.rows.all hl (by omega) HL16.out r1 HKE.out a1 hj (HI3.out _ (List.getElem_mem hj)) a3 a4
                        subst f1 f2
                        have hm0 := HM0.out
                        have hm1 := HM1.out
                        have kw6 := SI6.out.kp0
                        generalize us6[n] = y1 at *
                        generalize us[n] = y2 at *
                        obtain ⟨A1, e1, rfl⟩ := r1.len
                        obtain ⟨A2, e2, rfl⟩ := r2.len
                        have HEQ := Lib.hid heq
                        have HCH := Lib.hid hch
                        clear heq hch r1 r2 hnv hng a1 a2 a3 a4
                        generalize got[n].length = q1 at *
                        generalize L[n].length = q2 at *
                        go_wp2_with fail
                        refine HEQ.out.mono ?_
                        rintro e wz ⟨rfl, rfl⟩
                        go_wp2_with fail
                        refine HCH.out.mono ?_
                        rintro e wy ⟨rfl, ky⟩
                        go_wp2_with fail
                        go_ret
                        exact ⟨rfl, kw6.trans ky⟩
            · as_aux_lemma =>
                have t0 : (what == 0) = false := by simp; omega
                have t1 : (what == 1) = false := by simp; omega
                have t2 : (what == 2) = false := by simp; omega
                have t3 : (what == 3) = false := by simp; omega
                have t4 : (what == 4) = false := by simp; omega
                have t5 : (what == 5) = false := by simp; omega
                have t6 : (what == 6) = false := by simp; omega
                have t8 : (what == 8) = false := by simp; omega
                have t9 : (what == 9) = false := by simp; omega
                clear h04 h5 h6
                go_wp2_with fail
                go_meet
                exact ⟨b, F, R, L, s, z0, z, _, us, rfl, HSA.out, by omega, HL60.out⟩
      case rest =>
        as_aux_lemma =>
          clear HSA HGA HB1 HB2 HUL HL60 HL16 HI3 HWT Y2
          obtain ⟨b', F', R', L', s', z0', z', va', us', rfl, si', hL', hl'⟩ := hcut
          have hul := si'.rows.1
          have hs' : s' ≤ L'.length := si'.ld.log.c2
          obtain ⟨Ay', cy', rfl⟩ := si'.own.vals.len
          rw [hul] at si'
          have HSI' := Lib.hid si'
          have HL' := Lib.hid hl'
          clear si' hl' hul
          have NX := Lib.hid (lnext_calls ((HSI'.out.nob (Kp.refl NoB _).drew).ld.log))
          have SX := Lib.hid (lsure_calls ((HSI'.out.nob (Kp.refl NoB _).drew).ld.log))
          have n0 := (HSI'.out.nob (Kp.refl NoB wc).drew).m0
          have n1 := (HSI'.out.nob (Kp.refl NoB wc).drew).m1
          go_wp2_with fail
          refine wp_region_held_drew (S := (fun w' => w' = wc.drew)) (by kernel_rfl) rfl (fun hHeld => ?_)
          refine wpAnyH_take (i := 0) (v := ?_) rfl (by kernel_rfl) (by kernel_rfl) (by kernel_rfl) (fun _ _ _ h => h) (Or.inl ⟨by rfl, ?_⟩) (by assumption) ?_
          rotate_left
          · intro w hSw
            (try dsimp only at hSw)
            go_simp
            all_goals (with_reducible rfl)
          (try simp only [Act.put, List.getElem_toArray, List.getElem_cons_succ, List.getElem_cons_zero, List.setIfInBounds_toArray, List.set_cons_zero, List.set_cons_succ])
          refine wpAnyH_take (i := 3) (v := ?_) rfl (by kernel_rfl) (by kernel_rfl) (by kernel_rfl) (fun _ _ _ h => h) (Or.inl ⟨by rfl, ?_⟩) (by assumption) ?_
          rotate_left
          · intro w hSw
            (try dsimp only at hSw)
            go_simp
            all_goals (with_reducible rfl)
          (try simp only [Act.put, List.getElem_toArray, List.getElem_cons_succ, List.getElem_cons_zero, List.setIfInBounds_toArray, List.set_cons_zero, List.set_cons_succ])
          refine wpAnyH_take (i := 4) (v := ?_) rfl (by kernel_rfl) (by kernel_rfl) (by kernel_rfl) (fun _ _ _ h => h) (Or.inl ⟨by rfl, ?_⟩) (by assumption) ?_
          rotate_left
          · intro w hSw
            (try dsimp only at hSw)
            subst hSw
            go_simp
            all_goals (with_reducible rfl)
          (try simp only [Act.put, List.getElem_toArray, List.getElem_cons_succ, List.getElem_cons_zero, List.setIfInBounds_toArray, List.set_cons_zero, List.set_cons_succ])
          refine wpAnyH_take (i := 5) (v := ?_) rfl (by kernel_rfl) (by kernel_rfl) (by kernel_rfl) (fun _ _ _ h => h) (Or.inl ⟨by rfl, ?_⟩) (by assumption) ?_
          rotate_left
          · intro w hSw
            (try dsimp only at hSw)
            go_simp
            all_goals (with_reducible rfl)
          (try simp only [Act.put, List.getElem_toArray, List.getElem_cons_succ, List.getElem_cons_zero, List.setIfInBounds_toArray, List.set_cons_zero, List.set_cons_succ])
          refine wpAnyH_take (i := 6) (v := ?_) rfl (by kernel_rfl) (by kernel_rfl) (by kernel_rfl) (fun _ _ _ h => h) (Or.inl ⟨by rfl, ?_⟩) (by assumption) ?_
          rotate_left
          · intro w hSw
            (try dsimp only at hSw)
            go_simp
            all_goals (with_reducible rfl)
          (try simp only [Act.put, List.getElem_toArray, List.getElem_cons_succ, List.getElem_cons_zero, List.setIfInBounds_toArray, List.set_cons_zero, List.set_cons_succ])
          refine wpAnyH_ready (rs := [1]) (by kernel_rfl) (by simp) ?_
          refine AllReadyH.cons rfl (fun K hK => ?_) AllReadyH.nil
          (try rw [if_pos (by rfl)])
          go_simp
          refine NX.out.mono ?_
          rintro e wz ⟨rfl, rfl⟩
          refine hK.out _ _ ?_ (fun hHeld => ?_)
          · rfl
          clear hK K
          (try simp only [Act.put, List.getElem_toArray, List.getElem_cons_succ, List.getElem_cons_zero, List.setIfInBounds_toArray, List.set_cons_zero, List.set_cons_succ])
          refine wpAnyH_take (i := 2) (v := ?_) rfl (by kernel_rfl) (by kernel_rfl) (by kernel_rfl) (fun _ _ _ h => h) (Or.inl ⟨by rfl, ?_⟩) (by assumption) ?_
          rotate_left
          · intro w hSw
            (try dsimp only at hSw)
            go_simp
            all_goals (with_reducible rfl)
          (try simp only [Act.put, List.getElem_toArray, List.getElem_cons_succ, List.getElem_cons_zero, List.setIfInBounds_toArray, List.set_cons_zero, List.set_cons_succ])
          refine wpAnyH_take (i := 7) (v := ?_) rfl (by kernel_rfl) (by kernel_rfl) (by kernel_rfl) (fun _ _ _ h => h) (Or.inl ⟨by rfl, ?_⟩) (by assumption) ?_
          rotate_left
          · intro w hSw
            (try dsimp only at hSw)
            go_simp
            all_goals (with_reducible rfl)
          (try simp only [Act.put, List.getElem_toArray, List.getElem_cons_succ, List.getElem_cons_zero, List.setIfInBounds_toArray, List.set_cons_zero, List.set_cons_succ])
          refine wpAnyH_take (i := 8) (v := ?_) rfl (by kernel_rfl) (by kernel_rfl) (by kernel_rfl) (fun _ _ _ h => h) (Or.inl ⟨by rfl, ?_⟩) (by assumption) ?_
          rotate_left
          · intro w hSw
            (try dsimp only at hSw)
            go_simp
            all_goals (with_reducible rfl)
          (try simp only [Act.put, List.getElem_toArray, List.getElem_cons_succ, List.getElem_cons_zero, List.setIfInBounds_toArray, List.set_cons_zero, List.set_cons_succ])
          refine wpAnyH_take (i := 9) (v := ?_) rfl (by kernel_rfl) (by kernel_rfl) (by kernel_rfl) (fun _ _ _ h => h) (Or.inl ⟨by rfl, ?_⟩) (by assumption) ?_
          rotate_left
          · intro w hSw
            (try dsimp only at hSw)
            go_simp
            all_goals (with_reducible rfl)
          (try simp only [Act.put, List.getElem_toArray, List.getElem_cons_succ, List.getElem_cons_zero, List.setIfInBounds_toArray, List.set_cons_zero, List.set_cons_succ])
          refine wpAnyH_take (i := 12) (v := ?_) rfl (by kernel_rfl) (by kernel_rfl) (by kernel_rfl) (fun _ _ _ h => h) (Or.inl ⟨by rfl, ?_⟩) (by assumption) ?_
          rotate_left
          · intro w hSw
            (try dsimp only at hSw)
            go_simp
            all_goals (with_reducible rfl)
          (try simp only [Act.put, List.getElem_toArray, List.getElem_cons_succ, List.getElem_cons_zero, List.setIfInBounds_toArray, List.set_cons_zero, List.set_cons_succ])
          refine wpAnyH_take (i := 13) (v := ?_) rfl (by kernel_rfl) (by kernel_rfl) (by kernel_rfl) (fun _ _ _ h => h) (Or.inl ⟨by rfl, ?_⟩) (by assumption) ?_
          rotate_left
          · intro w hSw
            (try dsimp only at hSw)
            subst hSw
            go_simp
            all_goals (with_reducible rfl)
          (try simp only [Act.put, List.getElem_toArray, List.getElem_cons_succ, List.getElem_cons_zero, List.setIfInBounds_toArray, List.set_cons_zero, List.set_cons_succ])
          refine wpAnyH_ready (rs := [10]) (by kernel_rfl) (by simp) ?_
          refine AllReadyH.cons rfl (fun K hK => ?_) AllReadyH.nil
          (try rw [if_pos (by rfl)])
          go_simp
          refine SX.out.mono ?_
          rintro e wz ⟨rfl, rfl⟩
          refine hK.out _ _ ?_ (fun hHeld => ?_)
          · rfl
          clear hK K
          (try simp only [Act.put, List.getElem_toArray, List.getElem_cons_succ, List.getElem_cons_zero, List.setIfInBounds_toArray, List.set_cons_zero, List.set_cons_succ])
          refine wpAnyH_take (i := 11) (v := ?_) rfl (by kernel_rfl) (by kernel_rfl) (by kernel_rfl) (fun _ _ _ h => h) (Or.inl ⟨by rfl, ?_⟩) (by assumption) ?_
          rotate_left
          · intro w hSw
            (try dsimp only at hSw)
            go_simp
            all_goals (with_reducible rfl)
          (try simp only [Act.put, List.getElem_toArray, List.getElem_cons_succ, List.getElem_cons_zero, List.setIfInBounds_toArray, List.set_cons_zero, List.set_cons_succ])
          refine wpAnyH_take (i := 14) (v := ?_) rfl (by kernel_rfl) (by kernel_rfl) (by kernel_rfl) (fun _ _ _ h => h) (Or.inl ⟨by rfl, ?_⟩) (by assumption) ?_
          rotate_left
          · intro w hSw
            (try dsimp only at hSw)
            go_simp
            all_goals (with_reducible rfl)
          (try simp only [Act.put, List.getElem_toArray, List.getElem_cons_succ, List.getElem_cons_zero, List.setIfInBounds_toArray, List.set_cons_zero, List.set_cons_succ])
          refine wpAnyH_take (i := 15) (v := ?_) rfl (by kernel_rfl) (by kernel_rfl) (by kernel_rfl) (fun _ _ _ h => h) (Or.inl ⟨by rfl, ?_⟩) (by assumption) ?_
          rotate_left
          · intro w hSw
            (try dsimp only at hSw)
            go_simp
            all_goals (with_reducible rfl)
          (try simp only [Act.put, List.getElem_toArray, List.getElem_cons_succ, List.getElem_cons_zero, List.setIfInBounds_toArray, List.set_cons_zero, List.set_cons_succ])
          refine wpAnyH_done (by kernel_rfl) ?_ _
          go_simp
          have e9 : (IntKind.i64.wrap ((s' : Nat) : Int) != ((s' : Nat) : Int)) = false := by
            have h1 : IntKind.i64.wrap ((s' : Nat) : Int) = ((s' : Nat) : Int) := by
              exact wrap_in (by omega) (by omega)
            simp [h1]
          (try rw [e9])
          clear hHeld NX SX n0 n1 e9
          go_wp2_with fail
          go_roundw
          case measure => simp [intOf]; omega
          case rel => exact ⟨k + 1, b', F', R', L', s', z0', z', _, us', by omega, by go_num, rfl, HSI'.out.nob (Kp.refl NoB _).drew, by omega, HL'.out⟩
    · obtain rfl : k = zs.length := by omega
      have kwr := hsi.kp0
      go_wp2_with fail
      refine (lwakes_calls wr (HT.out.nob kwr)).mono ?_
      rintro e we ⟨rfl, ke⟩
      go_wp2_with fail
      go_ret
      exact ⟨rfl, kwr.trans ke⟩
end Go.Proofs.YtgjaggnpheoehaaDoor
