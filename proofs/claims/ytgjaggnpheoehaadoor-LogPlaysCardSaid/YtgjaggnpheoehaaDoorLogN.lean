/- Calls on no log, on a log of no disk; Recover of no disk. -/
import Derived.Test.YtgjaggnpheoehaaDoorLogQ
set_option linter.unusedVariables false
set_option linter.unusedSimpArgs false
namespace Go.Proofs.YtgjaggnpheoehaaDoor
open Go.RowKit Go.Shelf
attribute [local go_sem] Oper.semAt_some

theorem noneN_calls {w : World} : Calls Tryd.prog 58 #[.pointer none] w fun e w' => e = .returned (.bool true) ∧ w = w' := by
  go_enter Tryd.func58, Tryd.ntmps58
  go_wp2
  go_ret
  exact ⟨rfl, rfl⟩
theorem syncN_calls {w : World} : Calls Tryd.prog 46 #[.pointer none] w fun e w' => e = .returned (.int .i64 2) ∧ w = w' := by
  have hn := noneN_calls (w := w)
  go_enter Tryd.func46, Tryd.ntmps46
  go_wp2_with (go_at_call 58; refine hn.mono ?_; rintro e w1 ⟨rfl, rfl⟩)
  go_ret
  exact ⟨rfl, rfl⟩
theorem endN_calls {w : World} : Calls Tryd.prog 56 #[.pointer none] w fun e w' => e = .returned (.int .i64 0) ∧ w = w' := by
  have hn := noneN_calls (w := w)
  go_enter Tryd.func56, Tryd.ntmps56
  go_wp2_with (go_at_call 58; refine hn.mono ?_; rintro e w1 ⟨rfl, rfl⟩)
  go_ret
  exact ⟨rfl, rfl⟩
theorem readN_calls {w : World} (a m : Int) : Calls Tryd.prog 32 #[.pointer none, .int .i64 a, .int .i64 m] w fun e w' => e = .returned (.slice none 0 0) ∧ w = w' := by
  have hn := noneN_calls (w := w)
  go_enter Tryd.func32, Tryd.ntmps32
  go_wp2_with (go_at_call 58; refine hn.mono ?_; rintro e w1 ⟨rfl, rfl⟩)
  go_ret
  exact ⟨rfl, rfl⟩
/-- No log: a nil pointer, or a log without a disk. -/
def NoLog (w : World) (p : Value) : Prop := p = .pointer none ∨ ∃ b, p = .pointer (some ⟨b, 0, none⟩) ∧ w.cell? ⟨b, 0, none⟩ = some (.pointer none)
theorem lnoneN_calls {w : World} {p : Value} (h : NoLog w p) : Calls Tryd.prog 57 #[p] w fun e w' => e = .returned (.bool true) ∧ w = w' := by
  rcases h with rfl | ⟨b, rfl, h⟩
  all_goals
    go_enter Tryd.func57, Tryd.ntmps57
    go_wp2
    go_ret
    exact ⟨rfl, rfl⟩
theorem NoLog.ptr {w : World} {p : Value} (h : NoLog w p) : ∃ q, p = .pointer q := by
  rcases h with rfl | ⟨b, rfl, h⟩ <;> exact ⟨_, rfl⟩
theorem lnextN_calls {w : World} {p : Value} (h : NoLog w p) : Calls Tryd.prog 41 #[p] w fun e w' => e = .returned (.int .u32 0) ∧ w = w' := by
  have hn := lnoneN_calls h
  obtain ⟨q, rfl⟩ := h.ptr
  clear h
  go_enter Tryd.func41, Tryd.ntmps41
  go_wp2_with fail
  refine hn.mono ?_
  rintro e w1 ⟨rfl, rfl⟩
  go_wp2
  go_ret
  exact ⟨rfl, rfl⟩
theorem lsureN_calls {w : World} {p : Value} (h : NoLog w p) : Calls Tryd.prog 29 #[p] w fun e w' => e = .returned (.int .u32 0) ∧ w = w' := by
  have hn := lnoneN_calls h
  obtain ⟨q, rfl⟩ := h.ptr
  clear h
  go_enter Tryd.func29, Tryd.ntmps29
  go_wp2_with fail
  refine hn.mono ?_
  rintro e w1 ⟨rfl, rfl⟩
  go_wp2
  go_ret
  exact ⟨rfl, rfl⟩
theorem lsizeN_calls {w : World} {p : Value} (h : NoLog w p) : Calls Tryd.prog 28 #[p] w fun e w' => e = .returned (.int .i64 0) ∧ w = w' := by
  have hn := lnoneN_calls h
  obtain ⟨q, rfl⟩ := h.ptr
  clear h
  go_enter Tryd.func28, Tryd.ntmps28
  go_wp2_with fail
  refine hn.mono ?_
  rintro e w1 ⟨rfl, rfl⟩
  go_wp2
  go_ret
  exact ⟨rfl, rfl⟩
theorem lsyncN_calls {w : World} {p : Value} (h : NoLog w p) : Calls Tryd.prog 30 #[p] w fun e w' => e = .returned (.int .i64 2) ∧ w = w' := by
  have hn := lnoneN_calls h
  obtain ⟨q, rfl⟩ := h.ptr
  clear h
  go_enter Tryd.func30, Tryd.ntmps30
  go_wp2_with fail
  refine hn.mono ?_
  rintro e w1 ⟨rfl, rfl⟩
  go_wp2
  go_ret
  exact ⟨rfl, rfl⟩
theorem lappendN_calls {w : World} {p : Value} (h : NoLog w p) (v : Value) : Calls Tryd.prog 25 #[p, v] w fun e w' => e = .returned (.tuple #[.int .u32 0, .int .i64 2]) ∧ w = w' := by
  have hn := lnoneN_calls h
  obtain ⟨q, rfl⟩ := h.ptr
  clear h
  go_enter Tryd.func25, Tryd.ntmps25
  go_wp2_with fail
  refine hn.mono ?_
  rintro e w1 ⟨rfl, rfl⟩
  go_wp2
  go_ret2
  exact ⟨rfl, rfl⟩
theorem LogAt.madeN (w : World) : LogAt (w.alloc (.cells #[.pointer none, .int .i64 0, .int .u32 0, .int .u32 1, .int .u32 0] 82)) w.heap.size (.pointer none) [] 0 := by
  have hh := heap_alloc_new w (.cells #[.pointer none, .int .i64 0, .int .u32 0, .int .u32 1, .int .u32 0] 82)
  have hc : ∀ (i : Nat) (v : Value), (#[.pointer none, .int .i64 0, .int .u32 0, .int .u32 1, .int .u32 0] : Array Value)[i]? = some v → (w.alloc (.cells #[.pointer none, .int .i64 0, .int .u32 0, .int .u32 1, .int .u32 0] 82)).cell? ⟨w.heap.size, i, none⟩ = some v := by
    intro i v hv
    simp only [World.cell?, hh]
    exact hv
  exact ⟨hc 0 _ rfl, hc 1 _ rfl, hc 2 _ rfl, hc 3 _ rfl, hc 4 _ rfl, fun i _ => by simp only [World.frozen?, hh]; simp, by decide, Nat.le_refl _, fun p hp => by cases hp⟩

set_option maxRecDepth 100000 in
set_option maxHeartbeats 8000000 in
theorem lrecoverN_calls {w : World} (hT : TabOk w) :
    Calls Tryd.prog 24 #[.pointer none] w fun e w' => e = .returned (.tuple #[.pointer none, .slice none 0 0, .int .i64 2]) ∧ Kp NoB w w' := by
  have hal := LogAt.madeN w
  have ka : Kp NoB w (w.alloc (.cells #[.pointer none, .int .i64 0, .int .u32 0, .int .u32 1, .int .u32 0] 82)) := (Kp.refl _ _).alloc _
  have kb : Kp NoB (w.alloc (.cells #[.pointer none, .int .i64 0, .int .u32 0, .int .u32 1, .int .u32 0] 82)) ((w.alloc (.cells #[.pointer none, .int .i64 0, .int .u32 0, .int .u32 1, .int .u32 0] 82)).alloc (.cells #[.slice none 0 0] 41)) := (Kp.refl _ _).alloc _
  have hob := cell_new1 (w.alloc (.cells #[.pointer none, .int .i64 0, .int .u32 0, .int .u32 1, .int .u32 0] 82)) (.slice none 0 0) 41 (0, 0)
  have e1 : (w.alloc (.cells #[.pointer none, .int .i64 0, .int .u32 0, .int .u32 1, .int .u32 0] 82)).heap.size = w.heap.size + 1 := by simp
  have e2 : ((w.alloc (.cells #[.pointer none, .int .i64 0, .int .u32 0, .int .u32 1, .int .u32 0] 82)).alloc (.cells #[.slice none 0 0] 41)).heap.size = w.heap.size + 2 := by simp
  rw [e1] at hob
  have hof := frz_new (w.alloc (.cells #[.pointer none, .int .i64 0, .int .u32 0, .int .u32 1, .int .u32 0] 82)) #[.slice none 0 0] 41 0
  rw [e1] at hof
  have hw0 : 0 < w.heap.size := World.block_lt_of_cell? w _ (hT 0 (by decide))
  have hsl : ([] : List UInt8).length ≤ 1048576 := by decide
  have HAL := Lib.hid (hal.nob kb)
  have KAB := Lib.hid (ka.trans kb)
  have HOB := Lib.hid hob
  have HOF := Lib.hid hof
  have HT := Lib.hid hT
  have E2 := Lib.hid e2
  clear hal ka kb hob e1 hT hof e2
  refine (callsIn_wide (n := 5)).1 ?_
  refine callsIn_of_wp_marks Tryd.func24 rfl trivial ?_
  simp only [Tryd.ntmps24, List.size_toArray, List.length_cons, List.length_nil, Nat.reduceAdd, Nat.reduceSub, Array.replicate_succ, Array.replicate_zero, List.push_toArray, List.append_toArray, List.nil_append, List.cons_append]
  gi_wp2
  have KAB := KAB.out
  have HAL := HAL.out
  have HOB := HOB.out
  have HOF := HOF.out
  have E2 := E2.out
  generalize (w.alloc (.cells #[.pointer none, .int .i64 0, .int .u32 0, .int .u32 1, .int .u32 0] 82)).alloc (.cells #[.slice none 0 0] 41) = w2 at *
  refine ⟨trivial, (callsIn_wide.2 (readN_calls 0 1048576)).mono ?_⟩
  rintro e w3 ⟨rfl, hw3⟩
  have k3 : Kp NoB w2 w3 := by rw [← hw3]; exact Kp.refl _ _
  clear hw3
  have HAL := Lib.hid HAL
  have HOB := Lib.hid HOB
  have HOF := Lib.hid HOF
  have KAB := Lib.hid KAB
  have K3 := Lib.hid k3
  have hs23 := k3.size
  clear k3
  gi_wp2
  refine ⟨trivial, (callsIn_wide.2 (frames_calls w.heap.size none 0 0 w3)).mono ?_⟩
  rintro e w4 ⟨rfl, hw4⟩
  have kx : Kp NoB w3 (w3.alloc (.cells #[.pointer (some ⟨w.heap.size, 0, none⟩)] 46)) := (Kp.refl _ _).alloc _
  have ky : Kp NoB (w3.alloc (.cells #[.pointer (some ⟨w.heap.size, 0, none⟩)] 46)) w4 := by rw [hw4]; exact (Kp.refl _ _).alloc _
  have cx := cell_new1 w3 (.pointer (some ⟨w.heap.size, 0, none⟩)) 46 (0, 0)
  have cy := cell_new1 (w3.alloc (.cells #[.pointer (some ⟨w.heap.size, 0, none⟩)] 46)) (.slice none 0 0) 22 (0, 0)
  have ez : (w3.alloc (.cells #[.pointer (some ⟨w.heap.size, 0, none⟩)] 46)).heap.size = w3.heap.size + 1 := by simp
  rw [ez, ← hw4] at cy
  have cx4 := ky.cell cx id
  have z4 : w4.heap.size = w3.heap.size + 2 := by rw [hw4]; simp
  have k34 := kx.trans ky
  have k24 := K3.out.trans k34
  have HL4 := Lib.hid (HAL.out.nob k24)
  have ho4 := k24.cell HOB.out id
  have hf4 := (k24.frozen (p := ⟨w.heap.size + 1, 0, none⟩) (show w.heap.size + 1 < w2.heap.size by rw [E2]; omega) id).trans HOF.out
  have hs4 : BS (fun k => k < w4.heap.size ∧ k ≠ w.heap.size + 1 ∧ k ≠ w.heap.size) w4 (.slice none 0 0) [] := BS.nil _ _
  have K04 := Lib.hid (KAB.out.trans k24)
  have HO4 := Lib.hid ho4
  have HF4 := Lib.hid hf4
  have HS4 := Lib.hid hs4
  have CX := Lib.hid cx4
  have CY := Lib.hid cy
  have T4 := Lib.hid (HT.out.nob K04.out)
  have Z4 := Lib.hid z4
  have E2 := Lib.hid E2
  have HS23 := Lib.hid hs23
  clear hw4 kx ky cx cy ez cx4 z4 k34 k24 ho4 hf4 hs4 HAL HOB HOF KAB K3 hs23
  gi_wp2
  refine wpIn_rangeTurns (n := 5) (by decide) (gf := 70) (lb := #[.pointer (some ⟨w3.heap.size, 0, none⟩), .pointer (some ⟨w3.heap.size + 1, 0, none⟩)]) rfl (enters_of Tryd.func70 (by kernel_rfl) rfl)
    w.heap.size (w.heap.size + 1) (by have := Z4.out; have := E2.out; have := HS23.out; omega) (Gath (w.heap.size + 1) w4.heap.size w4 (fun k => k = w.heap.size ∨ k = w.heap.size + 1 ∨ w4.heap.size ≤ k))
    (fun ps W' => ∃ rest, Parse [] ps rest ∧ LogAt W' w.heap.size (.pointer none) ps 0 ∧ Kp (fun k => k = w.heap.size ∨ k = w.heap.size + 1 ∨ w4.heap.size ≤ k) w4 W') ?_ ?_ ?_ ?_ (fun v => { tmps := #[.pointer none, undef, .pointer none, .slice none 0 0, .int .i64 0, .pointer (some ⟨w.heap.size, 0, none⟩), .pointer (some ⟨w.heap.size + 1, 0, none⟩), v, undef, .pointer none, .agg #[.pointer none, .int .i64 0, .int .u32 0, .int .u32 1, .int .u32 0], .pointer (some ⟨w.heap.size, 0, none⟩), .pointer (some ⟨w.heap.size, 0, none⟩), .pointer none, .slice none 0 0, (.func (.func 70) #[] #[.pointer (some ⟨w3.heap.size, 0, none⟩), .pointer (some ⟨w3.heap.size + 1, 0, none⟩)]), v, undef, undef, undef, undef, undef, undef, undef, undef, undef, undef, undef, undef, undef, undef, undef, undef, undef, undef, undef, undef, undef, undef, undef, undef, undef, undef, undef, undef, undef, undef, undef, undef, undef, undef, undef, undef, undef, undef, undef, undef, undef, undef], defers := [] }) ?_ ?_ ?_
  case refine_1 =>
    intro ps W l x y hg hl hx hc
    exact hg.put (by have := Z4.out; have := E2.out; have := HS23.out; omega) l x y hl hx hc (.inr (.inr hl))
  case refine_2 =>
    intro ps A B hg k
    have ho : w.heap.size + 1 < A.heap.size := by obtain ⟨vo, _, hc, _⟩ := hg; exact World.block_lt_of_cell? A _ hc
    exact hg.kp k (show ¬ (w.heap.size + 1 = w.heap.size) by omega) (fun i hi h => by have h1 : i = w.heap.size := h; have := Z4.out; have := E2.out; have := HS23.out; omega) (fun i h => .inl h) ho
  case refine_3 =>
    intro l J W1 k1 hJ hY hj
    have hz := Z4.out
    have hz2 := E2.out
    have hz3 := HS23.out
    refine (frames1_in 4 (by decide) l w3.heap.size (w3.heap.size + 1) w.heap.size (w.heap.size + 1) w4.heap.size (.pointer none) (.slice none 0 0) [] J ⟨by omega, by omega, by omega⟩ ⟨by omega, by omega, by omega⟩ ⟨by omega, by omega⟩ ⟨by omega, by omega, by omega⟩ hJ hY W1 k1.size (k1.cell CX.out id) (k1.cell CY.out id) (HS4.out.nob k1) (HL4.out.nob k1) (T4.out.nob k1) hj hsl).mono ?_
    rintro e W' ⟨hv, ps, rest, hp, hj', hl, hk⟩
    exact ⟨hv, ps, hj', rest, hp, hl, k1.weak.trans hk⟩
  case refine_4 =>
    intro W1 k1
    exact ⟨_, [], k1.cell HO4.out id, (k1.frozen (p := ⟨w.heap.size + 1, 0, none⟩) (World.block_lt_of_cell? w4 _ HO4.out) id).trans HF4.out, Own1.nil _ _ _, RS.nil _ _, k1.weak⟩
  case refine_5 =>
    intro l v W K hK
    gi_wp2
    exact hK
  case refine_6 =>
    rintro l ps x v W0 W k0 hg0 hg hv hle hn0
    obtain ⟨Av, cv, rfl⟩ := hv.len
    obtain ⟨vo, us, ho, hf, hown, hrs, hk⟩ := hg
    have hvo : ∀ b, vo.ownBlock = some b → b < W0.heap.size := by
      obtain ⟨vo0, us0, ho0, _, hown0, _⟩ := hg0
      have := k0.cell ho0 (fun h => by rcases h with h | h; exact absurd (show w.heap.size + 1 = w.heap.size from h) (by omega); exact absurd (show w.heap.size + 1 = w4.heap.size + 1 from h) (by have := Z4.out; have := E2.out; have := HS23.out; omega))
      rw [ho] at this
      injection this with this
      subst this
      exact fun b hb => (hown0.lt b hb).2
    have hul : us.length = ps.length := hrs.1
    have hpl := lenC_len ps
    have hz := Z4.out
    have hz2 := E2.out
    have hz3 := HS23.out
    have hk4 := hk.size
    have ka : Kp NoB W (W.alloc (.cells #[.slice Av x.length cv] 22)) := (Kp.refl _ _).alloc _
    obtain ⟨v', w', h1, h2, h3, h4⟩ := run_push rowL 41 (hown.nob ka) W.heap.size 0 1 (cell_new1 W (.slice Av x.length cv) 22 (0, 0)) rfl (by omega) (by have := ka.size; omega)
    obtain ⟨N5, A5, c5, rfl⟩ : ∃ N A c, v' = .slice A N c := by obtain ⟨A, c, h⟩ := h2.vals.len; exact ⟨_, A, c, h⟩
    have kg : Kp (fun k => vo.ownBlock = some k) W w' := ka.weak.trans (Kp.of_grown h3)
    have hoo : ¬ vo.ownBlock = some (w.heap.size + 1) := fun h => by have := (hown.lt _ h).1; omega
    have ho' := kg.cell ho hoo
    have hf' := (kg.frozen (p := ⟨w.heap.size + 1, 0, none⟩) (World.block_lt_of_cell? W _ ho) hoo).trans hf
    have hlt := ka.size
    have HO := Lib.hid ho
    have HF := Lib.hid hf
    have HOWN := Lib.hid hown
    have HRS := Lib.hid hrs
    have HK := Lib.hid hk
    have HV := Lib.hid hv
    have KG := Lib.hid kg
    have H2 := Lib.hid h2
    have H4 := Lib.hid h4
    have HVO := Lib.hid hvo
    have HAL := Lib.hid (show (W.alloc (.cells #[.slice Av x.length cv] 22)).heap.size = W.heap.size + 1 by simp)
    clear hown hrs hk hv kg h2 h3 h4 hvo hg0 k0 hle
    gi_wp2_with ((with_reducible refine gateIn_dst (N := 20) rfl ?_); go_must (refine wpListIn_run rfl _ _ _ _ rfl vo (.slice (some ⟨W.heap.size, 0, none⟩) 1 1) rfl rfl _ _ h1 ?_))
    have kf : Kp (fun k => k = w.heap.size + 1 ∨ vo.ownBlock = some k) W (w'.setCell ⟨w.heap.size + 1, 0, none⟩ (.slice A5 N5 c5)) := (KG.out.mono fun _ _ h => .inr h).setCell (p := ⟨w.heap.size + 1, 0, none⟩) (.inr (.inl rfl)) _
    have ks : Kp (fun k => k = w.heap.size + 1) w' (w'.setCell ⟨w.heap.size + 1, 0, none⟩ (.slice A5 N5 c5)) := (Kp.refl (fun k => k = w.heap.size + 1) w').setCell (p := ⟨w.heap.size + 1, 0, none⟩) (.inr rfl) _
    have hnew : ∀ b, (Value.slice A5 N5 c5).ownBlock = some b → vo.ownBlock = some b ∨ W.heap.size ≤ b := fun b hb => by
      rcases H4.out with h | h
      · rw [h] at hb; exact .inl hb
      · rw [h] at hb; injection hb with hb; have := HAL.out; omega
    refine ⟨keeps_cells kf fun i hi hB o hxo hc => ?_, kf.mono fun i _ h => ?_, .slice A5 N5 c5, us ++ [.slice Av x.length cv], World.cell?_setCell_same _ _ _ ho', by rw [World.frozen?_setCell]; exact hf', H2.out.kp ks fun b _ hb h => ?_, ?_, HK.out.trans (kf.mono fun i _ h => ?_)⟩
    · rcases hi with rfl | hi
      · obtain ⟨o', ho2, hc'⟩ := cells_of_cell HO.out
        simp only at ho2
        rw [hxo] at ho2
        injection ho2 with ho2
        rw [ho2, hc'] at hc
        cases hc
      · rcases HOWN.out.2 with ⟨rfl, _⟩ | ⟨g, cap, cur, rfl, _, hg, _⟩
        · simp [Value.ownBlock] at hi
        · have e : g = i := by simpa [Value.ownBlock] using hi
          rw [e, hxo] at hg
          injection hg with hg
          rw [hg] at hc
          cases hc
    · rcases h with h | h
      · exact .inl h
      · exact .inr (HOWN.out.lt i h).1
    · have h1 : b = w.heap.size + 1 := h
      have h2 := (H2.out.lt b hb).1
      omega
    · refine RS.snoc (((HRS.out.mono (T := fun k => (w4.heap.size ≤ k ∧ ¬ vo.ownBlock = some k) ∧ k < W.heap.size) fun b hb h => ⟨h, hb⟩).kp kf fun b _ hb h => ?_).mono fun b hb hh => ⟨hh.1.1, fun h => ?_⟩)
        (((HV.out.mono (T := fun k => W0.heap.size ≤ k ∧ k < W.heap.size) fun b hb h => ⟨h, hb⟩).kp kf fun b _ hb h => ?_).mono fun b hb hh => ⟨Nat.le_trans hn0 hh.1, fun h => ?_⟩)
      · rcases h with h | h
        · have := hb.1.1; omega
        · exact hb.1.2 h
      · rcases hnew b h with h | h
        · exact hh.1.2 h
        · have := hh.2; omega
      · rcases h with h | h
        · have := hb.1; omega
        · have := HVO.out b h; have := hb.1; omega
      · rcases hnew b h with h | h
        · have := HVO.out b h; have := hh.1; omega
        · have := hh.2; omega
    · rcases h with h | h
      · exact .inr (.inl h)
      · exact .inr (.inr (HOWN.out.lt i h).1)
  case refine_7 =>
    rintro ps W2 W ⟨rest, hp, hl2, hk2⟩ hg hkW hD
    have hz := Z4.out
    have hz2 := E2.out
    have hz3 := HS23.out
    have hpl := lenC_len ps
    have hl0 : lenC ps = 0 := by have := congrArg List.length hp.eq; rw [List.length_append] at this; simp only [List.length_nil] at this; unfold lenC; omega
    obtain rfl : ps = [] := List.eq_nil_of_length_eq_zero (by omega)
    have hlW : LogAt W w.heap.size (.pointer none) [] 0 := hl2.kp hkW (show ¬ (w.heap.size = w4.heap.size + 1) by omega)
    obtain ⟨vo, us, hvc, hvf, hown, hrs, hkg⟩ := hg
    have kW : Kp NoB w W := K04.out.step hkg fun i hi h => by rcases h with h | h | h <;> omega
    have hnW : w4.heap.size < W.heap.size := (Array.getElem?_eq_some_iff.1 hD).1
    have l1 : W.drew.cell? ⟨w.heap.size, 1, none⟩ = some (.int .i64 0) := (hlW.nob (Kp.refl NoB W).drew).l1
    have hn2 : w.heap.size + 2 ≤ w4.heap.size := by omega
    have HDD := Lib.hid ((Kp.refl NoB W).drew.obj hD id)
    have KW := Lib.hid (kW.trans (Kp.refl NoB W).drew)
    clear hz hz2 hz3 hl2 hk2 hkW hown hrs hkg kW hlW hp hvc hvf hD HL4 K04 T4 HS4 CX CY HO4 HF4 HT hpl hl0
    gi_wp2
    refine wpIn_wide.2 ?_
    refine wp_onlyN ?_
    refine wp_region_held_drew (S := (fun w' => w' = W.drew)) (by kernel_rfl) rfl (fun hHeld => ?_)
    refine wpAnyH_take (i := 0) (v := ?_) rfl (by kernel_rfl) (by kernel_rfl) (by kernel_rfl) (fun _ _ _ h => h) (Or.inl ⟨by rfl, ?_⟩) (by assumption) ?_
    rotate_left
    · intro w hSw
      (try dsimp only at hSw)
      go_simp
      all_goals (with_reducible rfl)
    (try simp only [Act.put, List.getElem_toArray, List.getElem_cons_succ, List.getElem_cons_zero, List.setIfInBounds_toArray, List.set_cons_zero, List.set_cons_succ])
    refine wpAnyH_take (i := 2) (v := ?_) rfl (by kernel_rfl) (by kernel_rfl) (by kernel_rfl) (fun _ _ _ h => h) (Or.inl ⟨by rfl, ?_⟩) (by assumption) ?_
    rotate_left
    · intro w hSw
      (try dsimp only at hSw)
      go_simp
      all_goals (with_reducible rfl)
    (try simp only [Act.put, List.getElem_toArray, List.getElem_cons_succ, List.getElem_cons_zero, List.setIfInBounds_toArray, List.set_cons_zero, List.set_cons_succ])
    refine wpAnyH_take (i := 3) (v := ?_) rfl (by kernel_rfl) (by kernel_rfl) (by kernel_rfl) (fun _ _ _ h => h) (Or.inl ⟨by rfl, ?_⟩) (by assumption) ?_
    rotate_left
    · intro w hSw
      (try dsimp only at hSw)
      go_simp
      all_goals (with_reducible rfl)
    (try simp only [Act.put, List.getElem_toArray, List.getElem_cons_succ, List.getElem_cons_zero, List.setIfInBounds_toArray, List.set_cons_zero, List.set_cons_succ])
    refine wpAnyH_take (i := 4) (v := ?_) rfl (by kernel_rfl) (by kernel_rfl) (by kernel_rfl) (fun _ _ _ h => h) (Or.inl ⟨by rfl, ?_⟩) (by assumption) ?_
    rotate_left
    · intro w hSw
      (try dsimp only at hSw)
      go_simp
      all_goals (with_reducible rfl)
    (try simp only [Act.put, List.getElem_toArray, List.getElem_cons_succ, List.getElem_cons_zero, List.setIfInBounds_toArray, List.set_cons_zero, List.set_cons_succ])
    refine wpAnyH_take (i := 5) (v := ?_) rfl (by kernel_rfl) (by kernel_rfl) (by kernel_rfl) (fun _ _ _ h => h) (Or.inl ⟨by rfl, ?_⟩) (by assumption) ?_
    rotate_left
    · intro w hSw
      (try dsimp only at hSw)
      subst hSw
      go_simp
      all_goals (with_reducible rfl)
    (try simp only [Act.put, List.getElem_toArray, List.getElem_cons_succ, List.getElem_cons_zero, List.setIfInBounds_toArray, List.set_cons_zero, List.set_cons_succ])
    refine wpAnyH_ready (rs := [1]) (by kernel_rfl) (by simp) ?_
    refine AllReadyH.cons rfl (fun K hK => ?_) AllReadyH.nil
    (try rw [if_pos (by rfl)])
    go_simp
    refine endN_calls.mono ?_
    rintro e wz ⟨rfl, rfl⟩
    refine hK.out _ _ ?_ (fun hHeld => ?_)
    · rfl
    clear hK K
    (try simp only [Act.put, List.getElem_toArray, List.getElem_cons_succ, List.getElem_cons_zero, List.setIfInBounds_toArray, List.set_cons_zero, List.set_cons_succ])
    refine wpAnyH_take (i := 6) (v := ?_) rfl (by kernel_rfl) (by kernel_rfl) (by kernel_rfl) (fun _ _ _ h => h) (Or.inl ⟨by rfl, ?_⟩) (by assumption) ?_
    rotate_left
    · intro w hSw
      (try dsimp only at hSw)
      go_simp
      all_goals (with_reducible rfl)
    (try simp only [Act.put, List.getElem_toArray, List.getElem_cons_succ, List.getElem_cons_zero, List.setIfInBounds_toArray, List.set_cons_zero, List.set_cons_succ])
    refine wpAnyH_done (by kernel_rfl) ?_ _
    refine onlyN_intro ?_
    go_simp
    gi_wp2
    refine ⟨trivial, (callsIn_wide.2 syncN_calls).mono ?_⟩
    rintro e w6 ⟨rfl, rfl⟩
    gi_wp2
    refine ⟨by simp, .inl ⟨_, _, rfl, run_takeDeferred HDD.out, ?_⟩⟩
    refine ⟨_, results_tmp3 rfl _ _ _, ?_⟩
    exact ⟨rfl, KW.out.step ((Kp.of_grown (grownBy_putObj' _ _ _)).mono (G := fun k => k = w4.heap.size) fun i _ h => by injection h with h; exact h.symm) fun i hi h => by have h1 : i = w4.heap.size := h; omega⟩
end Go.Proofs.YtgjaggnpheoehaaDoor
