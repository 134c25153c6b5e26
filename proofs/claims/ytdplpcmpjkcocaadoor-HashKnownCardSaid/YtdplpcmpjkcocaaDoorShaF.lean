/- Sha1 of the program. -/
import Derived.Test.YtdplpcmpjkcocaaDoorShaE
set_option linter.unusedVariables false
set_option linter.unusedSimpArgs false
namespace Go.Proofs.YtdplpcmpjkcocaaDoor
open Go.RowKit Go.Shelf
attribute [local go_sem] Oper.semAt_some

def z20 : List UInt8 := List.replicate 20 0
theorem zero20 (W : World) : (zeroValue 23).run Tryd.prog W = .ok (.agg (bvs z20).toArray) W := by kernel_rfl
theorem padded_length (l : List UInt8) : (padded l).length = 64 * ((padded l).length / 64) := by
  have : (padded l).length = l.length + 1 + (padZ l.length + 8) := by simp [padded, be8]; omega
  have h := (padZ_iff l.length (padZ l.length) (Nat.le_refl _)).2 rfl
  omega

theorem h5_turn {A B : World} {g : Nat} {s : H5} {row : Option Nat} (x : H5At A g s) (hg : A.grownBy B row) (hr : ∀ r, row = some r → ∃ o : Obj, A.heap[r]? = some o ∧ o.isCells = false) : H5At B g s :=
  x.kp (Kp.of_grown hg) fun he => by
    obtain ⟨o, ho, hc⟩ := hr _ he
    obtain ⟨o', ho', hc'⟩ := cells_of_cell x.c0
    simp only at ho'
    rw [ho] at ho'
    injection ho' with ho'
    subst ho'
    rw [hc] at hc'
    cases hc'
theorem keeps_of_kp {W W' : World} {g : Nat} {v : Value} (k : Kp (fun k => k = g) W W') (hc : W.cell? ⟨g, 0, none⟩ = some v) : KeepsOthers W W' :=
  ⟨k.size, fun i o hi ho => k.obj hi fun he => by
    subst he
    obtain ⟨o', ho', hc'⟩ := cells_of_cell hc
    simp only at ho'
    rw [hi] at ho'
    injection ho' with ho'
    subst ho'
    rw [ho] at hc'
    cases hc'⟩
theorem BS.sub {S : Nat → Prop} {w : World} {g n c : Nat} {l : List UInt8} (h : BS S w (.slice (some ⟨g, 0, none⟩) n c) l) (lo m : Nat) (hl : lo + m ≤ l.length) (hm : m ≤ 1000000 := by omega) : BS AllB w (.slice (some ⟨g, lo, none⟩) m m) ((l.drop lo).take m) := by
  obtain ⟨A', c', he, hc, _, _, hr⟩ := h
  injection he with e1 e2 e3
  subst e1
  have hlen : ((l.drop lo).take m).length = m := by simp; omega
  refine ⟨_, m, by rw [hlen], by omega, by omega, (fun h => by cases h), fun h0 => ⟨g, lo, rfl, trivial, fun j hj => ?_⟩⟩
  obtain ⟨b, off, hA, _, hcell⟩ := hr (by omega)
  injection hA with hA
  injection hA with hA1 hA2
  subst hA1 hA2
  have := hcell (lo + j) (by omega)
  rw [Nat.zero_add] at this
  rw [this]
  simp
theorem HashOk.kp {F : Nat → Prop} {w w' : World} (h : HashOk w) (k : Kp F w w') (h0 : ¬ F 0) (h1 : ¬ F 1) : HashOk w' :=
  ⟨k.cell h.b0 h0, k.cell h.b1 h0, k.cell h.b2 h0, k.cell h.b3 h0, k.cell h.b4 h0, fun q hq => k.cell (h.tf q hq) h1, fun q hq => k.cell (h.tk q hq) h1⟩
theorem addH_ok (x y : H5) : (addH x y).ok := ⟨Nat.mod_lt _ (by decide), Nat.mod_lt _ (by decide), Nat.mod_lt _ (by decide), Nat.mod_lt _ (by decide), Nat.mod_lt _ (by decide)⟩
theorem mixN_ok (h : H5) (l : List UInt8) : (mixN h l).ok := by
  unfold mixN
  exact addH_ok _ _
theorem beginH_ok : beginH.ok := by unfold H5.ok beginH; decide
theorem blocksTo_ok (P : List UInt8) : ∀ k, (blocksTo P k).ok
  | 0 => beginH_ok
  | k + 1 => mixN_ok _ _
theorem val_u8 (n : Nat) : bv (UInt8.ofNat n) = .int .u8 ((n % 256 : Nat) : Int) := by simp [bv]
theorem outH_length (h : H5) : (outH h).length = 20 := rfl
/-- The array while it is filled: the bytes so far, then noughts. -/
def outTo (h : H5) (k : Nat) : List UInt8 := (outH h).take k ++ List.replicate (20 - k) 0
theorem outTo_length (h : H5) (k : Nat) (hk : k ≤ 20) : (outTo h k).length = 20 := by simp [outTo, outH_length]; omega
theorem outTo_set (h : H5) (k : Nat) (hk : k < 20) : (outTo h k).set k ((outH h).getD k 0) = outTo h (k + 1) := by
  have hl := outH_length h
  have hlt : ((outH h).take k).length = k := by simp [hl]; omega
  unfold outTo
  rw [List.set_append_right _ _ (by rw [hlt]; exact Nat.le_refl _), hlt, Nat.sub_self, show 20 - k = (20 - (k + 1)) + 1 by omega, List.replicate_succ, List.set_cons_zero, List.take_succ_eq_append_getElem (by rw [hl]; exact hk), List.append_assoc]
  rw [List.getD_eq_getElem?_getD, List.getElem?_eq_getElem (by rw [hl]; exact hk)]
  rfl
theorem bvs_set_at (l : List UInt8) (i : Nat) (v : Value) (b : UInt8) (h : v = bv b) : (bvs l).set i v = bvs (l.set i b) := by
  subst h
  simp [bvs, List.map_set]
def foldB {N : Nat} (P : List UInt8) (pre : List (Fin N)) : H5 := pre.foldl (fun h k => mixN h ((P.drop (64 * k.1)).take 64)) beginH
theorem foldB_ok {N : Nat} (P : List UInt8) (pre : List (Fin N)) : (foldB P pre).ok := by
  unfold foldB
  have h : ∀ (qs : List (Fin N)) (s : H5), s.ok → (qs.foldl (fun h k => mixN h ((P.drop (64 * k.1)).take 64)) s).ok := by
    intro qs
    induction qs with
    | nil => exact fun s hs => hs
    | cons q qs ih =>
      intro s _
      rw [List.foldl_cons]
      exact ih (mixN s ((P.drop (64 * q.1)).take 64)) (mixN_ok s ((P.drop (64 * q.1)).take 64))
  exact h pre _ beginH_ok
theorem foldB_take {N : Nat} (P : List UInt8) : ∀ k, k ≤ N → foldB P ((List.finRange N).take k) = blocksTo P k
  | 0, _ => rfl
  | k + 1, h => by
    have ih := foldB_take (N := N) P k (by omega)
    unfold foldB at ih ⊢
    rw [fin_take N k h, List.foldl_append, ih]
    rfl
theorem foldB_all {N : Nat} (P : List UInt8) : foldB P (List.finRange N) = blocksTo P N := by
  have := foldB_take (N := N) P N (Nat.le_refl _)
  rwa [List.take_of_length_le (by simp)] at this

set_option maxRecDepth 100000 in
set_option maxHeartbeats 4000000 in
theorem sha_calls (l : List UInt8) (v : Value) (w : World) (hT : HashOk w) (hv : BS AllB w v l) (hl : l.length ≤ 100000) :
    Calls Tryd.prog 7 #[v] w fun e w' => e = .returned (.agg (bvs (shaN l)).toArray) ∧ Kp NoB w w' := by
  obtain ⟨A, c, rfl⟩ := hv.len
  have HV := Lib.hid hv
  have HT := Lib.hid hT
  have k0 : Kp NoB w (w.alloc (.cells (bvs z20).toArray 23)) := (Kp.refl _ _).alloc _
  have t0 := k0.cell hT.b0 id
  have t1 := k0.cell hT.b1 id
  have t2 := k0.cell hT.b2 id
  have t3 := k0.cell hT.b3 id
  have t4 := k0.cell hT.b4 id
  have hz := zero20
  have a2 := Arr.made 23 w (bvs z20) (by rw [bvs_length]; decide)
  have k1 : Kp NoB (w.alloc (.cells (bvs z20).toArray 23)) ((w.alloc (.cells (bvs z20).toArray 23)).alloc (.cells #[.int .u32 1732584193, .int .u32 4023233417, .int .u32 2562383102, .int .u32 271733878, .int .u32 3285377520] 35)) := (Kp.refl _ _).alloc _
  have h3 := H5At.made (w.alloc (.cells (bvs z20).toArray 23)) beginH 35
  have e1 : (w.alloc (.cells (bvs z20).toArray 23)).heap.size = w.heap.size + 1 := by simp
  rw [e1] at h3
  have A2 := Lib.hid (a2.nob k1)
  have H3 := Lib.hid h3
  have K1 := Lib.hid (k0.trans k1)
  clear k0 k1 a2 h3 e1
  clear hv hT
  refine (callsIn_wide (n := 5)).1 ?_
  refine callsIn_of_wp_marks Tryd.func7 rfl trivial ?_
  simp only [Tryd.ntmps7, List.size_toArray, List.length_cons, List.length_nil, Nat.reduceAdd, Nat.reduceSub, Array.replicate_succ, Array.replicate_zero, List.push_toArray, List.append_toArray, List.nil_append, List.cons_append]
  gi_wp2
  have A2 := A2.out
  have H3 : H5At ((w.alloc (.cells (bvs z20).toArray 23)).alloc (.cells #[.int .u32 1732584193, .int .u32 4023233417, .int .u32 2562383102, .int .u32 271733878, .int .u32 3285377520] 35)) (w.heap.size + 1) beginH := H3.out
  have K1 := K1.out
  generalize (w.alloc (.cells (bvs z20).toArray 23)).alloc (.cells #[.int .u32 1732584193, .int .u32 4023233417, .int .u32 2562383102, .int .u32 271733878, .int .u32 3285377520] 35) = w1 at *
  have hb1 : w.heap.size + 1 < w1.heap.size := World.block_lt_of_cell? w1 _ H3.c0
  refine ⟨trivial, (callsIn_wide.2 (filled_calls l _ w1 (HV.out.nob K1) (by omega))).mono ?_⟩
  rintro e w2 ⟨v2, rfl, ho2, k2⟩
  have hpl := padded_length l
  have hsh : shaN l = outH (blocksTo (padded l) ((padded l).length / 64)) := rfl
  have hpb : (padded l).length ≤ 200000 := by
    have hz := padZ_le l.length
    have : (padded l).length = l.length + 1 + (padZ l.length + 8) := by simp [padded, be8]; omega
    omega
  have hP0 : 0 < (padded l).length := by simp [padded]; omega
  obtain ⟨N, hN⟩ : ∃ N, N = (padded l).length / 64 := ⟨_, rfl⟩
  rw [← hN] at hpl hsh
  generalize padded l = P at *
  have HPL := Lib.hid hpl
  have HSH := Lib.hid hsh
  obtain ⟨A2', c2, rfl⟩ := ho2.bs.len
  obtain ⟨g, rfl, hg1, hg2⟩ := ho2.form hP0
  have hcap : P.length ≤ c2 ∧ c2 ≤ 9223372036854775807 := by
    rcases ho2.2 with ⟨he, _⟩ | ⟨g', cap', cur', he, _, _, h3, h4, _⟩
    · cases he
    · injection he with _ _ e3
      subst e3
      exact ⟨h3, by simpa [maxLen] using h4⟩
  have HO2 := Lib.hid ho2
  have HNB : N ≤ 1000000 := by omega
  clear hN
  clear hpl hsh ho2 t0 t1 t2 t3 t4 hz
  gi_wp2
  refine ⟨trivial, (callsIn_wide.2 (chunk_calls _ _ _ w2)).mono ?_⟩
  rintro e w3 ⟨rfl, hw3⟩
  have kb1 : Kp NoB w2 (w2.alloc (.cells #[.slice (some ⟨g, 0, none⟩) P.length c2] 22)) := (Kp.refl _ _).alloc _
  have kb2 : Kp NoB (w2.alloc (.cells #[.slice (some ⟨g, 0, none⟩) P.length c2] 22)) ((w2.alloc (.cells #[.slice (some ⟨g, 0, none⟩) P.length c2] 22)).alloc (.cells #[.int .i64 64] 3)) := (Kp.refl _ _).alloc _
  have ez : (w2.alloc (.cells #[.slice (some ⟨g, 0, none⟩) P.length c2] 22)).heap.size = w2.heap.size + 1 := by simp
  have cb1 := kb2.cell (cell_new1 w2 (.slice (some ⟨g, 0, none⟩) P.length c2) 22 (0, 0)) id
  have cb2 := cell_new1 (w2.alloc (.cells #[.slice (some ⟨g, 0, none⟩) P.length c2] 22)) (.int .i64 64) 3 (0, 0)
  rw [ez] at cb2
  rw [← hw3] at cb1 cb2 kb2
  have k23 := kb1.trans kb2
  have zz : w3.heap.size = w2.heap.size + 2 := by rw [hw3]; simp
  have R3 := (H3.kp k2 id).kp k23 id
  have R2 := (A2.nob k2).nob k23
  have K3 := (K1.trans k2).trans k23
  have HK3 := Lib.hid K3
  have HW2 := k2.size
  have HB3 := Lib.hid (HO2.out.nob k23)
  have HZZ := Lib.hid zz
  have HZ1 := K1.size
  clear hw3 kb1 kb2 ez k23 k2 H3 A2 K1 zz K3
  have HR2 := Lib.hid R2
  have HR3 := Lib.hid R3
  have CB1 := Lib.hid cb1
  have CB2 := Lib.hid cb2
  have HT3 := Lib.hid (HT.out.nob HK3.out)
  have h1w : 1 < w.heap.size := World.block_lt_of_cell? w _ (HT.out.tk 0 (by decide))
  clear R2 R3 cb1 cb2
  gi_wp2
  refine wpIn_rangeFunc_ownF (F := Fence.wide) rfl (by decide) (gf := 19) (lb := #[.pointer (some ⟨w2.heap.size, 0, none⟩), .pointer (some ⟨w2.heap.size + 1, 0, none⟩)]) rfl trivial (enters_of Tryd.func19 (by kernel_rfl) rfl)
    (chunk_stops (5 - 1) (by decide) w2.heap.size (w2.heap.size + 1) g 0 c2 N (w.heap.size + 1) w3.heap.size P HPL.out HNB (by rw [← HPL.out]; exact hcap.1) hcap.2 ⟨by have := HZZ.out; omega, by omega⟩ ⟨by have := HZZ.out; omega, by omega⟩ w3 (Nat.le_refl _) (by rw [← HPL.out]; exact CB1.out) CB2.out)
    (fun h k => Kp.trans h k) (fun W l o o' hl h _ _ => ((Kp.refl _ W).grown (grownBy_putObj' W l o') fun k hk => by injection hk with hk; subst hk; exact .inr (.inr hl)))
    (Below.refl _ _) (fun _ => rfl)
    (fun pre W => H5At W (w.heap.size + 1) (foldB P pre) ∧ KQ (w.heap.size + 1) w3.heap.size w3 W) (fun _ _ _ => False)
    (fun s A B row hs hg hr => ⟨h5_turn hs.1 hg fun r hr' => (hr r hr').2, Kp.grown hs.2 hg fun k hk => .inr (.inr (hr k hk).1)⟩)
    (fun _ _ _ _ _ hs _ _ => hs)
    ⟨HR3.out, Kp.refl _ _⟩
    (fun x => { tmps := #[.slice A l.length c, undef, .pointer (some ⟨w.heap.size, 0, none⟩), .pointer (some ⟨w.heap.size + 1, 0, none⟩), .slice (some ⟨g, 64 * x.1, none⟩) 64 64, undef, undef, .agg #[.int .u32 1732584193, .int .u32 4023233417, .int .u32 2562383102, .int .u32 271733878, .int .u32 3285377520], .slice A l.length c, .slice (some ⟨g, 0, none⟩) P.length c2, .func (.func 19) #[] #[.pointer (some ⟨w2.heap.size, 0, none⟩), .pointer (some ⟨w2.heap.size + 1, 0, none⟩)], .slice (some ⟨g, 64 * x.1, none⟩) 64 64, undef, undef, undef, undef, undef, undef, undef, undef, undef, undef, undef, undef, undef, undef, undef, undef, undef, undef, undef, undef], defers := [] }) ?assign ?body ?done ?stop
  case assign =>
    intro l x W K hK
    gi_wp2
    exact hK
  case body =>
    rintro l' pre x W ⟨hH, hQ⟩ hlen
    have y0 := hH.c0
    have y1 := hH.c1
    have y2 := hH.c2
    have y3 := hH.c3
    have y4 := hH.c4
    have HH := Lib.hid hH
    have HQ := Lib.hid hQ
    have hchunk : BS AllB W (.slice (some ⟨g, 64 * x.1, none⟩) 64 64) ((P.drop (64 * x.1)).take 64) := by
      have hbw : BS (fun b => b = g) W (.slice (some ⟨g, 0, none⟩) P.length c2) P := by
        refine (HB3.out.bs.mono (T := fun b => b = g) fun b _ h => ?_).kp hQ fun b _ hb hf => ?_
        · have := h.2
          simp [Value.ownBlock] at this
          exact this.symm
        · subst hb
          rcases hf with hf | hf
          · omega
          · have := HZZ.out; have := HO2.out.lt b rfl; omega
      exact hbw.sub (64 * x.1) 64 (by have := HPL.out; have := x.2; omega)
    have htw : HashOk W := HT3.out.kp hQ (fun hf => by have := HZZ.out; rcases hf with hf | hf <;> omega) (fun hf => by have := HZZ.out; rcases hf with hf | hf <;> omega)
    have hcl : ((P.drop (64 * x.1)).take 64).length = 64 := by have := HPL.out; have := x.2; simp; omega
    have hfo := foldB_ok P pre
    have hfs : foldB P (pre ++ [x]) = mixN (foldB P pre) ((P.drop (64 * x.1)).take 64) := by unfold foldB; rw [List.foldl_append]; rfl
    have HFS := Lib.hid hfs
    have HCH := Lib.hid hchunk
    have HTW := Lib.hid htw
    have HCL := Lib.hid hcl
    clear hH hQ hchunk htw hcl hfs
    gi_wp2
    refine ⟨trivial, (CallsIn.inRound l' (callsIn_wide.2 (mixed_calls (foldB P pre) hfo _ _ W HTW.out HCH.out HCL.out))).mono ?_⟩
    rintro e w5 ⟨rfl, k5⟩
    have x5 := HH.out.kp k5 id
    have q5 := HQ.out.next k5
    have z0 := x5.c0
    have z1 := x5.c1
    have z2 := x5.c2
    have z3 := x5.c3
    have z4 := x5.c4
    have f0 := x5.fz 0 (by decide)
    have f1 := x5.fz 1 (by decide)
    have f2 := x5.fz 2 (by decide)
    have f3 := x5.fz 3 (by decide)
    have f4 := x5.fz 4 (by decide)
    have X5 := Lib.hid x5
    have Q5 := Lib.hid q5
    have K5 := Lib.hid k5
    clear x5 q5 k5 y0 y1 y2 y3 y4
    unfold hagg
    gi_wp2
    have hs := X5.out.store5 (mixN (foldB P pre) ((P.drop (64 * x.1)).take 64))
    have hk := kp_store5 w5 (w.heap.size + 1) (mixN (foldB P pre) ((P.drop (64 * x.1)).take 64))
    rw [← HFS.out] at hs hk ⊢
    have hkw : Kp (fun k => k = w.heap.size + 1) W _ := K5.out.weak.trans hk
    refine ⟨keeps_of_kp hkw HH.out.c0, hkw.mono fun k _ h => .inl h, hs, Kp.step Q5.out hk fun k _ h => .inl h⟩
  case done =>
    rintro D ys W hD rfl ⟨hH, hQ⟩ hK
    rw [foldB_all] at hH
    have hbo := blocksTo_ok P N
    have hsh := HSH.out
    generalize blocksTo P N = h at *
    have HSH2 := Lib.hid hsh
    clear hsh
    obtain ⟨oa, ob, oc, od, oe⟩ := hbo
    have hz := zero20
    have a5 := Arr.made 23 W (bvs z20) (by rw [bvs_length]; decide)
    have k5 : Kp NoB W (W.alloc (.cells (bvs z20).toArray 23)) := (Kp.refl _ _).alloc _
    have r2 := (HR2.out.kp hQ (fun hf => by have := HZZ.out; rcases hf with hf | hf <;> omega)).nob k5
    have h5 := hH.kp k5 id
    have hK5 := k5.obj hK id
    have q5 := hQ.next k5
    have HA5 := Lib.hid a5
    have HR5 := Lib.hid r2
    have HH5 := Lib.hid h5
    have HK5 := Lib.hid hK5
    have HQ5 := Lib.hid q5
    have hW3 := hQ.size
    have hDl := (Array.getElem?_eq_some_iff.1 hK).1
    have hWs : w.heap.size + 1 < W.heap.size := by have := HZZ.out; omega
    clear a5 k5 r2 h5 hK5 q5 hH hQ hK
    gi_wp2
    refine wpIn_wide.2 ?_
    have A5 := HA5.out
    have H5 := HH5.out
    have hz5 : W.heap.size < (W.alloc (.cells (bvs z20).toArray 23)).heap.size := by simp
    generalize hW5 : W.alloc (.cells (bvs z20).toArray 23) = W5 at *
    clear hz hW5
    go_loopw [15] (fun i wr => ∃ k : Nat, k ≤ 20 ∧ i = .int .i64 k ∧ Arr 23 wr W.heap.size W.heap.size (bvs (outTo h k)) ∧ Kp (fun k => k = W.heap.size) W5 wr) (fun i _ => 20 - (intOf i).toNat)
    case atStart => exact ⟨0, Nat.zero_le _, rfl, A5, Kp.refl _ _⟩
    case round =>
      obtain ⟨k, hk, rfl, ha, hkq⟩ := hrel
      have h5 := H5.kp hkq (show ¬ (w.heap.size + 1 = W.heap.size) by omega)
      clear H5 A5
      by_cases hlt : k < 20
      · rcases (by omega : k = 0 ∨ k = 1 ∨ k = 2 ∨ k = 3 ∨ k = 4 ∨ k = 5 ∨ k = 6 ∨ k = 7 ∨ k = 8 ∨ k = 9 ∨ k = 10 ∨ k = 11 ∨ k = 12 ∨ k = 13 ∨ k = 14 ∨ k = 15 ∨ k = 16 ∨ k = 17 ∨ k = 18 ∨ k = 19) with rfl | rfl | rfl | rfl | rfl | rfl | rfl | rfl | rfl | rfl | rfl | rfl | rfl | rfl | rfl | rfl | rfl | rfl | rfl | rfl
        · have hc : wr.cell? ⟨w.heap.size + 1, 0, none⟩ = some (.int .u32 (h.a : Int)) := h5.c0
          have hv : bv ((outH h).getD 0 0) = .int .u8 ((h.a / 16777216 % 256 : Nat) : Int) := by show bv (UInt8.ofNat _) = _; rw [val_u8]
          have hset := outTo_set h 0 (by decide)
          have hput : ∀ X : Int, X = ((h.a / 16777216 % 256 : Nat) : Int) → Arr 23 (wr.setCell ⟨W.heap.size, 0, none⟩ (.int .u8 X)) W.heap.size W.heap.size (bvs (outTo h (1))) := by
            intro X hX
            have := ha.put 0 (bv ((outH h).getD 0 0))
            rw [hv, ← hX, bvs_set_at _ _ _ _ (by rw [hX, ← hv]), hset] at this
            exact this
          have hcc := ha.at_ 0 (by rw [bvs_length, outTo_length h 0 (by decide)]; decide)
          have hff := ha.fz 0
          replace hcc : ∃ cv, wr.cell? ⟨W.heap.size, 0, none⟩ = some cv := ⟨_, hcc⟩
          obtain ⟨cv, hcc⟩ := hcc
          have HP := Lib.hid hput
          have HKQ := Lib.hid hkq
          clear hv hset hput ha hkq h5
          go_wp2_with fail
          go_roundw
          case measure => simp [intOf]
          case rel => exact ⟨1, by decide, rfl, HP.out _ (by omega), HKQ.out.trans kp_set'⟩
        · have hc : wr.cell? ⟨w.heap.size + 1, 0, none⟩ = some (.int .u32 (h.a : Int)) := h5.c0
          have hv : bv ((outH h).getD 1 0) = .int .u8 ((h.a / 65536 % 256 : Nat) : Int) := by show bv (UInt8.ofNat _) = _; rw [val_u8]
          have hset := outTo_set h 1 (by decide)
          have hput : ∀ X : Int, X = ((h.a / 65536 % 256 : Nat) : Int) → Arr 23 (wr.setCell ⟨W.heap.size, 1, none⟩ (.int .u8 X)) W.heap.size W.heap.size (bvs (outTo h (2))) := by
            intro X hX
            have := ha.put 1 (bv ((outH h).getD 1 0))
            rw [hv, ← hX, bvs_set_at _ _ _ _ (by rw [hX, ← hv]), hset] at this
            exact this
          have hcc := ha.at_ 1 (by rw [bvs_length, outTo_length h 1 (by decide)]; decide)
          have hff := ha.fz 1
          replace hcc : ∃ cv, wr.cell? ⟨W.heap.size, 1, none⟩ = some cv := ⟨_, hcc⟩
          obtain ⟨cv, hcc⟩ := hcc
          have HP := Lib.hid hput
          have HKQ := Lib.hid hkq
          clear hv hset hput ha hkq h5
          go_wp2_with fail
          go_roundw
          case measure => simp [intOf]
          case rel => exact ⟨2, by decide, rfl, HP.out _ (by omega), HKQ.out.trans kp_set'⟩
        · have hc : wr.cell? ⟨w.heap.size + 1, 0, none⟩ = some (.int .u32 (h.a : Int)) := h5.c0
          have hv : bv ((outH h).getD 2 0) = .int .u8 ((h.a / 256 % 256 : Nat) : Int) := by show bv (UInt8.ofNat _) = _; rw [val_u8]
          have hset := outTo_set h 2 (by decide)
          have hput : ∀ X : Int, X = ((h.a / 256 % 256 : Nat) : Int) → Arr 23 (wr.setCell ⟨W.heap.size, 2, none⟩ (.int .u8 X)) W.heap.size W.heap.size (bvs (outTo h (3))) := by
            intro X hX
            have := ha.put 2 (bv ((outH h).getD 2 0))
            rw [hv, ← hX, bvs_set_at _ _ _ _ (by rw [hX, ← hv]), hset] at this
            exact this
          have hcc := ha.at_ 2 (by rw [bvs_length, outTo_length h 2 (by decide)]; decide)
          have hff := ha.fz 2
          replace hcc : ∃ cv, wr.cell? ⟨W.heap.size, 2, none⟩ = some cv := ⟨_, hcc⟩
          obtain ⟨cv, hcc⟩ := hcc
          have HP := Lib.hid hput
          have HKQ := Lib.hid hkq
          clear hv hset hput ha hkq h5
          go_wp2_with fail
          go_roundw
          case measure => simp [intOf]
          case rel => exact ⟨3, by decide, rfl, HP.out _ (by omega), HKQ.out.trans kp_set'⟩
        · have hc : wr.cell? ⟨w.heap.size + 1, 0, none⟩ = some (.int .u32 (h.a : Int)) := h5.c0
          have hv : bv ((outH h).getD 3 0) = .int .u8 ((h.a  % 256 : Nat) : Int) := by show bv (UInt8.ofNat _) = _; rw [val_u8]
          have hset := outTo_set h 3 (by decide)
          have hput : ∀ X : Int, X = ((h.a  % 256 : Nat) : Int) → Arr 23 (wr.setCell ⟨W.heap.size, 3, none⟩ (.int .u8 X)) W.heap.size W.heap.size (bvs (outTo h (4))) := by
            intro X hX
            have := ha.put 3 (bv ((outH h).getD 3 0))
            rw [hv, ← hX, bvs_set_at _ _ _ _ (by rw [hX, ← hv]), hset] at this
            exact this
          have hcc := ha.at_ 3 (by rw [bvs_length, outTo_length h 3 (by decide)]; decide)
          have hff := ha.fz 3
          replace hcc : ∃ cv, wr.cell? ⟨W.heap.size, 3, none⟩ = some cv := ⟨_, hcc⟩
          obtain ⟨cv, hcc⟩ := hcc
          have HP := Lib.hid hput
          have HKQ := Lib.hid hkq
          clear hv hset hput ha hkq h5
          go_wp2_with fail
          go_roundw
          case measure => simp [intOf]
          case rel => exact ⟨4, by decide, rfl, HP.out _ (by omega), HKQ.out.trans kp_set'⟩
        · have hc : wr.cell? ⟨w.heap.size + 1, 1, none⟩ = some (.int .u32 (h.b : Int)) := h5.c1
          have hv : bv ((outH h).getD 4 0) = .int .u8 ((h.b / 16777216 % 256 : Nat) : Int) := by show bv (UInt8.ofNat _) = _; rw [val_u8]
          have hset := outTo_set h 4 (by decide)
          have hput : ∀ X : Int, X = ((h.b / 16777216 % 256 : Nat) : Int) → Arr 23 (wr.setCell ⟨W.heap.size, 4, none⟩ (.int .u8 X)) W.heap.size W.heap.size (bvs (outTo h (5))) := by
            intro X hX
            have := ha.put 4 (bv ((outH h).getD 4 0))
            rw [hv, ← hX, bvs_set_at _ _ _ _ (by rw [hX, ← hv]), hset] at this
            exact this
          have hcc := ha.at_ 4 (by rw [bvs_length, outTo_length h 4 (by decide)]; decide)
          have hff := ha.fz 4
          replace hcc : ∃ cv, wr.cell? ⟨W.heap.size, 4, none⟩ = some cv := ⟨_, hcc⟩
          obtain ⟨cv, hcc⟩ := hcc
          have HP := Lib.hid hput
          have HKQ := Lib.hid hkq
          clear hv hset hput ha hkq h5
          go_wp2_with fail
          go_roundw
          case measure => simp [intOf]
          case rel => exact ⟨5, by decide, rfl, HP.out _ (by omega), HKQ.out.trans kp_set'⟩
        · have hc : wr.cell? ⟨w.heap.size + 1, 1, none⟩ = some (.int .u32 (h.b : Int)) := h5.c1
          have hv : bv ((outH h).getD 5 0) = .int .u8 ((h.b / 65536 % 256 : Nat) : Int) := by show bv (UInt8.ofNat _) = _; rw [val_u8]
          have hset := outTo_set h 5 (by decide)
          have hput : ∀ X : Int, X = ((h.b / 65536 % 256 : Nat) : Int) → Arr 23 (wr.setCell ⟨W.heap.size, 5, none⟩ (.int .u8 X)) W.heap.size W.heap.size (bvs (outTo h (6))) := by
            intro X hX
            have := ha.put 5 (bv ((outH h).getD 5 0))
            rw [hv, ← hX, bvs_set_at _ _ _ _ (by rw [hX, ← hv]), hset] at this
            exact this
          have hcc := ha.at_ 5 (by rw [bvs_length, outTo_length h 5 (by decide)]; decide)
          have hff := ha.fz 5
          replace hcc : ∃ cv, wr.cell? ⟨W.heap.size, 5, none⟩ = some cv := ⟨_, hcc⟩
          obtain ⟨cv, hcc⟩ := hcc
          have HP := Lib.hid hput
          have HKQ := Lib.hid hkq
          clear hv hset hput ha hkq h5
          go_wp2_with fail
          go_roundw
          case measure => simp [intOf]
          case rel => exact ⟨6, by decide, rfl, HP.out _ (by omega), HKQ.out.trans kp_set'⟩
        · have hc : wr.cell? ⟨w.heap.size + 1, 1, none⟩ = some (.int .u32 (h.b : Int)) := h5.c1
          have hv : bv ((outH h).getD 6 0) = .int .u8 ((h.b / 256 % 256 : Nat) : Int) := by show bv (UInt8.ofNat _) = _; rw [val_u8]
          have hset := outTo_set h 6 (by decide)
          have hput : ∀ X : Int, X = ((h.b / 256 % 256 : Nat) : Int) → Arr 23 (wr.setCell ⟨W.heap.size, 6, none⟩ (.int .u8 X)) W.heap.size W.heap.size (bvs (outTo h (7))) := by
            intro X hX
            have := ha.put 6 (bv ((outH h).getD 6 0))
            rw [hv, ← hX, bvs_set_at _ _ _ _ (by rw [hX, ← hv]), hset] at this
            exact this
          have hcc := ha.at_ 6 (by rw [bvs_length, outTo_length h 6 (by decide)]; decide)
          have hff := ha.fz 6
          replace hcc : ∃ cv, wr.cell? ⟨W.heap.size, 6, none⟩ = some cv := ⟨_, hcc⟩
          obtain ⟨cv, hcc⟩ := hcc
          have HP := Lib.hid hput
          have HKQ := Lib.hid hkq
          clear hv hset hput ha hkq h5
          go_wp2_with fail
          go_roundw
          case measure => simp [intOf]
          case rel => exact ⟨7, by decide, rfl, HP.out _ (by omega), HKQ.out.trans kp_set'⟩
        · have hc : wr.cell? ⟨w.heap.size + 1, 1, none⟩ = some (.int .u32 (h.b : Int)) := h5.c1
          have hv : bv ((outH h).getD 7 0) = .int .u8 ((h.b  % 256 : Nat) : Int) := by show bv (UInt8.ofNat _) = _; rw [val_u8]
          have hset := outTo_set h 7 (by decide)
          have hput : ∀ X : Int, X = ((h.b  % 256 : Nat) : Int) → Arr 23 (wr.setCell ⟨W.heap.size, 7, none⟩ (.int .u8 X)) W.heap.size W.heap.size (bvs (outTo h (8))) := by
            intro X hX
            have := ha.put 7 (bv ((outH h).getD 7 0))
            rw [hv, ← hX, bvs_set_at _ _ _ _ (by rw [hX, ← hv]), hset] at this
            exact this
          have hcc := ha.at_ 7 (by rw [bvs_length, outTo_length h 7 (by decide)]; decide)
          have hff := ha.fz 7
          replace hcc : ∃ cv, wr.cell? ⟨W.heap.size, 7, none⟩ = some cv := ⟨_, hcc⟩
          obtain ⟨cv, hcc⟩ := hcc
          have HP := Lib.hid hput
          have HKQ := Lib.hid hkq
          clear hv hset hput ha hkq h5
          go_wp2_with fail
          go_roundw
          case measure => simp [intOf]
          case rel => exact ⟨8, by decide, rfl, HP.out _ (by omega), HKQ.out.trans kp_set'⟩
        · have hc : wr.cell? ⟨w.heap.size + 1, 2, none⟩ = some (.int .u32 (h.c : Int)) := h5.c2
          have hv : bv ((outH h).getD 8 0) = .int .u8 ((h.c / 16777216 % 256 : Nat) : Int) := by show bv (UInt8.ofNat _) = _; rw [val_u8]
          have hset := outTo_set h 8 (by decide)
          have hput : ∀ X : Int, X = ((h.c / 16777216 % 256 : Nat) : Int) → Arr 23 (wr.setCell ⟨W.heap.size, 8, none⟩ (.int .u8 X)) W.heap.size W.heap.size (bvs (outTo h (9))) := by
            intro X hX
            have := ha.put 8 (bv ((outH h).getD 8 0))
            rw [hv, ← hX, bvs_set_at _ _ _ _ (by rw [hX, ← hv]), hset] at this
            exact this
          have hcc := ha.at_ 8 (by rw [bvs_length, outTo_length h 8 (by decide)]; decide)
          have hff := ha.fz 8
          replace hcc : ∃ cv, wr.cell? ⟨W.heap.size, 8, none⟩ = some cv := ⟨_, hcc⟩
          obtain ⟨cv, hcc⟩ := hcc
          have HP := Lib.hid hput
          have HKQ := Lib.hid hkq
          clear hv hset hput ha hkq h5
          go_wp2_with fail
          go_roundw
          case measure => simp [intOf]
          case rel => exact ⟨9, by decide, rfl, HP.out _ (by omega), HKQ.out.trans kp_set'⟩
        · have hc : wr.cell? ⟨w.heap.size + 1, 2, none⟩ = some (.int .u32 (h.c : Int)) := h5.c2
          have hv : bv ((outH h).getD 9 0) = .int .u8 ((h.c / 65536 % 256 : Nat) : Int) := by show bv (UInt8.ofNat _) = _; rw [val_u8]
          have hset := outTo_set h 9 (by decide)
          have hput : ∀ X : Int, X = ((h.c / 65536 % 256 : Nat) : Int) → Arr 23 (wr.setCell ⟨W.heap.size, 9, none⟩ (.int .u8 X)) W.heap.size W.heap.size (bvs (outTo h (10))) := by
            intro X hX
            have := ha.put 9 (bv ((outH h).getD 9 0))
            rw [hv, ← hX, bvs_set_at _ _ _ _ (by rw [hX, ← hv]), hset] at this
            exact this
          have hcc := ha.at_ 9 (by rw [bvs_length, outTo_length h 9 (by decide)]; decide)
          have hff := ha.fz 9
          replace hcc : ∃ cv, wr.cell? ⟨W.heap.size, 9, none⟩ = some cv := ⟨_, hcc⟩
          obtain ⟨cv, hcc⟩ := hcc
          have HP := Lib.hid hput
          have HKQ := Lib.hid hkq
          clear hv hset hput ha hkq h5
          go_wp2_with fail
          go_roundw
          case measure => simp [intOf]
          case rel => exact ⟨10, by decide, rfl, HP.out _ (by omega), HKQ.out.trans kp_set'⟩
        · have hc : wr.cell? ⟨w.heap.size + 1, 2, none⟩ = some (.int .u32 (h.c : Int)) := h5.c2
          have hv : bv ((outH h).getD 10 0) = .int .u8 ((h.c / 256 % 256 : Nat) : Int) := by show bv (UInt8.ofNat _) = _; rw [val_u8]
          have hset := outTo_set h 10 (by decide)
          have hput : ∀ X : Int, X = ((h.c / 256 % 256 : Nat) : Int) → Arr 23 (wr.setCell ⟨W.heap.size, 10, none⟩ (.int .u8 X)) W.heap.size W.heap.size (bvs (outTo h (11))) := by
            intro X hX
            have := ha.put 10 (bv ((outH h).getD 10 0))
            rw [hv, ← hX, bvs_set_at _ _ _ _ (by rw [hX, ← hv]), hset] at this
            exact this
          have hcc := ha.at_ 10 (by rw [bvs_length, outTo_length h 10 (by decide)]; decide)
          have hff := ha.fz 10
          replace hcc : ∃ cv, wr.cell? ⟨W.heap.size, 10, none⟩ = some cv := ⟨_, hcc⟩
          obtain ⟨cv, hcc⟩ := hcc
          have HP := Lib.hid hput
          have HKQ := Lib.hid hkq
          clear hv hset hput ha hkq h5
          go_wp2_with fail
          go_roundw
          case measure => simp [intOf]
          case rel => exact ⟨11, by decide, rfl, HP.out _ (by omega), HKQ.out.trans kp_set'⟩
        · have hc : wr.cell? ⟨w.heap.size + 1, 2, none⟩ = some (.int .u32 (h.c : Int)) := h5.c2
          have hv : bv ((outH h).getD 11 0) = .int .u8 ((h.c  % 256 : Nat) : Int) := by show bv (UInt8.ofNat _) = _; rw [val_u8]
          have hset := outTo_set h 11 (by decide)
          have hput : ∀ X : Int, X = ((h.c  % 256 : Nat) : Int) → Arr 23 (wr.setCell ⟨W.heap.size, 11, none⟩ (.int .u8 X)) W.heap.size W.heap.size (bvs (outTo h (12))) := by
            intro X hX
            have := ha.put 11 (bv ((outH h).getD 11 0))
            rw [hv, ← hX, bvs_set_at _ _ _ _ (by rw [hX, ← hv]), hset] at this
            exact this
          have hcc := ha.at_ 11 (by rw [bvs_length, outTo_length h 11 (by decide)]; decide)
          have hff := ha.fz 11
          replace hcc : ∃ cv, wr.cell? ⟨W.heap.size, 11, none⟩ = some cv := ⟨_, hcc⟩
          obtain ⟨cv, hcc⟩ := hcc
          have HP := Lib.hid hput
          have HKQ := Lib.hid hkq
          clear hv hset hput ha hkq h5
          go_wp2_with fail
          go_roundw
          case measure => simp [intOf]
          case rel => exact ⟨12, by decide, rfl, HP.out _ (by omega), HKQ.out.trans kp_set'⟩
        · have hc : wr.cell? ⟨w.heap.size + 1, 3, none⟩ = some (.int .u32 (h.d : Int)) := h5.c3
          have hv : bv ((outH h).getD 12 0) = .int .u8 ((h.d / 16777216 % 256 : Nat) : Int) := by show bv (UInt8.ofNat _) = _; rw [val_u8]
          have hset := outTo_set h 12 (by decide)
          have hput : ∀ X : Int, X = ((h.d / 16777216 % 256 : Nat) : Int) → Arr 23 (wr.setCell ⟨W.heap.size, 12, none⟩ (.int .u8 X)) W.heap.size W.heap.size (bvs (outTo h (13))) := by
            intro X hX
            have := ha.put 12 (bv ((outH h).getD 12 0))
            rw [hv, ← hX, bvs_set_at _ _ _ _ (by rw [hX, ← hv]), hset] at this
            exact this
          have hcc := ha.at_ 12 (by rw [bvs_length, outTo_length h 12 (by decide)]; decide)
          have hff := ha.fz 12
          replace hcc : ∃ cv, wr.cell? ⟨W.heap.size, 12, none⟩ = some cv := ⟨_, hcc⟩
          obtain ⟨cv, hcc⟩ := hcc
          have HP := Lib.hid hput
          have HKQ := Lib.hid hkq
          clear hv hset hput ha hkq h5
          go_wp2_with fail
          go_roundw
          case measure => simp [intOf]
          case rel => exact ⟨13, by decide, rfl, HP.out _ (by omega), HKQ.out.trans kp_set'⟩
        · have hc : wr.cell? ⟨w.heap.size + 1, 3, none⟩ = some (.int .u32 (h.d : Int)) := h5.c3
          have hv : bv ((outH h).getD 13 0) = .int .u8 ((h.d / 65536 % 256 : Nat) : Int) := by show bv (UInt8.ofNat _) = _; rw [val_u8]
          have hset := outTo_set h 13 (by decide)
          have hput : ∀ X : Int, X = ((h.d / 65536 % 256 : Nat) : Int) → Arr 23 (wr.setCell ⟨W.heap.size, 13, none⟩ (.int .u8 X)) W.heap.size W.heap.size (bvs (outTo h (14))) := by
            intro X hX
            have := ha.put 13 (bv ((outH h).getD 13 0))
            rw [hv, ← hX, bvs_set_at _ _ _ _ (by rw [hX, ← hv]), hset] at this
            exact this
          have hcc := ha.at_ 13 (by rw [bvs_length, outTo_length h 13 (by decide)]; decide)
          have hff := ha.fz 13
          replace hcc : ∃ cv, wr.cell? ⟨W.heap.size, 13, none⟩ = some cv := ⟨_, hcc⟩
          obtain ⟨cv, hcc⟩ := hcc
          have HP := Lib.hid hput
          have HKQ := Lib.hid hkq
          clear hv hset hput ha hkq h5
          go_wp2_with fail
          go_roundw
          case measure => simp [intOf]
          case rel => exact ⟨14, by decide, rfl, HP.out _ (by omega), HKQ.out.trans kp_set'⟩
        · have hc : wr.cell? ⟨w.heap.size + 1, 3, none⟩ = some (.int .u32 (h.d : Int)) := h5.c3
          have hv : bv ((outH h).getD 14 0) = .int .u8 ((h.d / 256 % 256 : Nat) : Int) := by show bv (UInt8.ofNat _) = _; rw [val_u8]
          have hset := outTo_set h 14 (by decide)
          have hput : ∀ X : Int, X = ((h.d / 256 % 256 : Nat) : Int) → Arr 23 (wr.setCell ⟨W.heap.size, 14, none⟩ (.int .u8 X)) W.heap.size W.heap.size (bvs (outTo h (15))) := by
            intro X hX
            have := ha.put 14 (bv ((outH h).getD 14 0))
            rw [hv, ← hX, bvs_set_at _ _ _ _ (by rw [hX, ← hv]), hset] at this
            exact this
          have hcc := ha.at_ 14 (by rw [bvs_length, outTo_length h 14 (by decide)]; decide)
          have hff := ha.fz 14
          replace hcc : ∃ cv, wr.cell? ⟨W.heap.size, 14, none⟩ = some cv := ⟨_, hcc⟩
          obtain ⟨cv, hcc⟩ := hcc
          have HP := Lib.hid hput
          have HKQ := Lib.hid hkq
          clear hv hset hput ha hkq h5
          go_wp2_with fail
          go_roundw
          case measure => simp [intOf]
          case rel => exact ⟨15, by decide, rfl, HP.out _ (by omega), HKQ.out.trans kp_set'⟩
        · have hc : wr.cell? ⟨w.heap.size + 1, 3, none⟩ = some (.int .u32 (h.d : Int)) := h5.c3
          have hv : bv ((outH h).getD 15 0) = .int .u8 ((h.d  % 256 : Nat) : Int) := by show bv (UInt8.ofNat _) = _; rw [val_u8]
          have hset := outTo_set h 15 (by decide)
          have hput : ∀ X : Int, X = ((h.d  % 256 : Nat) : Int) → Arr 23 (wr.setCell ⟨W.heap.size, 15, none⟩ (.int .u8 X)) W.heap.size W.heap.size (bvs (outTo h (16))) := by
            intro X hX
            have := ha.put 15 (bv ((outH h).getD 15 0))
            rw [hv, ← hX, bvs_set_at _ _ _ _ (by rw [hX, ← hv]), hset] at this
            exact this
          have hcc := ha.at_ 15 (by rw [bvs_length, outTo_length h 15 (by decide)]; decide)
          have hff := ha.fz 15
          replace hcc : ∃ cv, wr.cell? ⟨W.heap.size, 15, none⟩ = some cv := ⟨_, hcc⟩
          obtain ⟨cv, hcc⟩ := hcc
          have HP := Lib.hid hput
          have HKQ := Lib.hid hkq
          clear hv hset hput ha hkq h5
          go_wp2_with fail
          go_roundw
          case measure => simp [intOf]
          case rel => exact ⟨16, by decide, rfl, HP.out _ (by omega), HKQ.out.trans kp_set'⟩
        · have hc : wr.cell? ⟨w.heap.size + 1, 4, none⟩ = some (.int .u32 (h.e : Int)) := h5.c4
          have hv : bv ((outH h).getD 16 0) = .int .u8 ((h.e / 16777216 % 256 : Nat) : Int) := by show bv (UInt8.ofNat _) = _; rw [val_u8]
          have hset := outTo_set h 16 (by decide)
          have hput : ∀ X : Int, X = ((h.e / 16777216 % 256 : Nat) : Int) → Arr 23 (wr.setCell ⟨W.heap.size, 16, none⟩ (.int .u8 X)) W.heap.size W.heap.size (bvs (outTo h (17))) := by
            intro X hX
            have := ha.put 16 (bv ((outH h).getD 16 0))
            rw [hv, ← hX, bvs_set_at _ _ _ _ (by rw [hX, ← hv]), hset] at this
            exact this
          have hcc := ha.at_ 16 (by rw [bvs_length, outTo_length h 16 (by decide)]; decide)
          have hff := ha.fz 16
          replace hcc : ∃ cv, wr.cell? ⟨W.heap.size, 16, none⟩ = some cv := ⟨_, hcc⟩
          obtain ⟨cv, hcc⟩ := hcc
          have HP := Lib.hid hput
          have HKQ := Lib.hid hkq
          clear hv hset hput ha hkq h5
          go_wp2_with fail
          go_roundw
          case measure => simp [intOf]
          case rel => exact ⟨17, by decide, rfl, HP.out _ (by omega), HKQ.out.trans kp_set'⟩
        · have hc : wr.cell? ⟨w.heap.size + 1, 4, none⟩ = some (.int .u32 (h.e : Int)) := h5.c4
          have hv : bv ((outH h).getD 17 0) = .int .u8 ((h.e / 65536 % 256 : Nat) : Int) := by show bv (UInt8.ofNat _) = _; rw [val_u8]
          have hset := outTo_set h 17 (by decide)
          have hput : ∀ X : Int, X = ((h.e / 65536 % 256 : Nat) : Int) → Arr 23 (wr.setCell ⟨W.heap.size, 17, none⟩ (.int .u8 X)) W.heap.size W.heap.size (bvs (outTo h (18))) := by
            intro X hX
            have := ha.put 17 (bv ((outH h).getD 17 0))
            rw [hv, ← hX, bvs_set_at _ _ _ _ (by rw [hX, ← hv]), hset] at this
            exact this
          have hcc := ha.at_ 17 (by rw [bvs_length, outTo_length h 17 (by decide)]; decide)
          have hff := ha.fz 17
          replace hcc : ∃ cv, wr.cell? ⟨W.heap.size, 17, none⟩ = some cv := ⟨_, hcc⟩
          obtain ⟨cv, hcc⟩ := hcc
          have HP := Lib.hid hput
          have HKQ := Lib.hid hkq
          clear hv hset hput ha hkq h5
          go_wp2_with fail
          go_roundw
          case measure => simp [intOf]
          case rel => exact ⟨18, by decide, rfl, HP.out _ (by omega), HKQ.out.trans kp_set'⟩
        · have hc : wr.cell? ⟨w.heap.size + 1, 4, none⟩ = some (.int .u32 (h.e : Int)) := h5.c4
          have hv : bv ((outH h).getD 18 0) = .int .u8 ((h.e / 256 % 256 : Nat) : Int) := by show bv (UInt8.ofNat _) = _; rw [val_u8]
          have hset := outTo_set h 18 (by decide)
          have hput : ∀ X : Int, X = ((h.e / 256 % 256 : Nat) : Int) → Arr 23 (wr.setCell ⟨W.heap.size, 18, none⟩ (.int .u8 X)) W.heap.size W.heap.size (bvs (outTo h (19))) := by
            intro X hX
            have := ha.put 18 (bv ((outH h).getD 18 0))
            rw [hv, ← hX, bvs_set_at _ _ _ _ (by rw [hX, ← hv]), hset] at this
            exact this
          have hcc := ha.at_ 18 (by rw [bvs_length, outTo_length h 18 (by decide)]; decide)
          have hff := ha.fz 18
          replace hcc : ∃ cv, wr.cell? ⟨W.heap.size, 18, none⟩ = some cv := ⟨_, hcc⟩
          obtain ⟨cv, hcc⟩ := hcc
          have HP := Lib.hid hput
          have HKQ := Lib.hid hkq
          clear hv hset hput ha hkq h5
          go_wp2_with fail
          go_roundw
          case measure => simp [intOf]
          case rel => exact ⟨19, by decide, rfl, HP.out _ (by omega), HKQ.out.trans kp_set'⟩
        · have hc : wr.cell? ⟨w.heap.size + 1, 4, none⟩ = some (.int .u32 (h.e : Int)) := h5.c4
          have hv : bv ((outH h).getD 19 0) = .int .u8 ((h.e  % 256 : Nat) : Int) := by show bv (UInt8.ofNat _) = _; rw [val_u8]
          have hset := outTo_set h 19 (by decide)
          have hput : ∀ X : Int, X = ((h.e  % 256 : Nat) : Int) → Arr 23 (wr.setCell ⟨W.heap.size, 19, none⟩ (.int .u8 X)) W.heap.size W.heap.size (bvs (outTo h (20))) := by
            intro X hX
            have := ha.put 19 (bv ((outH h).getD 19 0))
            rw [hv, ← hX, bvs_set_at _ _ _ _ (by rw [hX, ← hv]), hset] at this
            exact this
          have hcc := ha.at_ 19 (by rw [bvs_length, outTo_length h 19 (by decide)]; decide)
          have hff := ha.fz 19
          replace hcc : ∃ cv, wr.cell? ⟨W.heap.size, 19, none⟩ = some cv := ⟨_, hcc⟩
          obtain ⟨cv, hcc⟩ := hcc
          have HP := Lib.hid hput
          have HKQ := Lib.hid hkq
          clear hv hset hput ha hkq h5
          go_wp2_with fail
          go_roundw
          case measure => simp [intOf]
          case rel => exact ⟨20, by decide, rfl, HP.out _ (by omega), HKQ.out.trans kp_set'⟩
      · obtain rfl : k = 20 := by omega
        have hot : outTo h 20 = outH h := by unfold outTo; rw [List.take_of_length_le (by rw [outH_length]; decide)]; simp
        rw [hot] at ha
        have hr3 := ha.range
        have r2w := HR5.out.kp hkq (show ¬ (w.heap.size = W.heap.size) by omega)
        have ht2 := r2w.there
        have hl3 : (bvs (outH h)).length = 20 := by rw [bvs_length, outH_length]
        have hl2 : (bvs z20).length = 20 := by rw [bvs_length]; rfl
        rw [hl2] at ht2
        have hKw := hkq.obj HK5.out (show ¬ (D = W.heap.size) by omega)
        have hqw : Kp (fun k => k = w.heap.size + 1 ∨ w3.heap.size ≤ k) w3 wr := Kp.step HQ5.out hkq fun i hi he => .inr (by have : i = W.heap.size := he; omega)
        have HA := Lib.hid ha
        have HR2W := Lib.hid r2w
        have HL3 := Lib.hid hl3
        have HL2 := Lib.hid hl2
        have HQW := Lib.hid hqw
        have HKW := Lib.hid hKw
        have HOT := Lib.hid hot
        have hz3 := HZZ.out
        have hDw : w.heap.size < D := by omega
        have hw3 : w.heap.size + 2 ≤ w3.heap.size := by omega
        clear ha r2w hkq hl3 hl2 h5 hqw hKw hot hz3
        go_wp2_with fail
        refine wpIn_wide.2 ?_
        go_wp2_with (first
          | ((with_reducible refine gate_dst (N := 31) rfl ?_); go_must (refine wpList_load_mid rfl 23 _ rfl _ 0 rfl (bvs (outH h)) _ hr3 Tryd.underlying23 rfl (by rw [HL3.out]; kernel_rfl) ?_))
          | ((with_reducible refine gate_op (Op.store 23 (.tmp 2) (.tmp 31)) rfl ?_); go_must (refine wpList_store_mid rfl 23 _ _ rfl w.heap.size 0 (bvs (outH h)).toArray rfl rfl (by simpa [HL3.out] using ht2) (by rw [List.size_toArray, HL3.out]; kernel_rfl) (all_oneCell_toArray (bvs_one _)) ?_))
          | fail)
        have hl : (bvs (outH h)).length = (bvs z20).length := by rw [HL3.out, HL2.out]
        have hw := HR2W.out.setWhole (bvs (outH h)) hl
        have ks : Kp (fun k => k = w.heap.size) wr (wr.setCells w.heap.size 0 (bvs (outH h))) := Kp.setCells (F := fun k => k = w.heap.size) _ (.inr rfl) _ _ _ (Kp.refl _ _)
        have kf : Kp NoB w (wr.setCells w.heap.size 0 (bvs (outH h))) := (HK3.out.step HQW.out fun i hi he => by rcases he with he | he <;> omega).step ks fun i hi he => by have : i = w.heap.size := he; omega
        have hKf := ks.obj HKW.out (show ¬ (D = w.heap.size) by omega)
        refine ⟨by simp, .inl ⟨_, _, rfl, run_takeDeferred hKf, ?_⟩⟩
        have kD : Kp NoB w ((wr.setCells w.heap.size 0 (bvs (outH h))).putObj D (.deferred none)) := kf.grown (grownBy_putObj' _ D _) fun k hk => by injection hk with hk; subst hk; exact .inl (by omega)
        refine ⟨_, results_cell_row rfl _ _ w.heap.size 23 (bvs (outH h)).toArray (0, 0) _ rfl ?_ Tryd.underlying23 rfl (by rw [List.size_toArray, HL3.out]; kernel_rfl), ?_, kD⟩
        · rw [World.putObj_heap_other (by omega)]
          exact hw.heap
        · rw [HSH2.out]
  case stop =>
    rintro D c pre W _ _ h _
    exact h.elim
end Go.Proofs.YtdplpcmpjkcocaaDoor
