/- The reference's disk: bytes over others (lay). -/
import Derived.Test.YtgjaggnpheoehaaDoorDisk6
set_option linter.unusedVariables false
set_option linter.unusedSimpArgs false
namespace Go.Proofs.YtgjaggnpheoehaaDoor
open Go.RowKit

theorem ext1 (l m : List UInt8) (hl : l.length = m.length) (h : ∀ k, k < l.length → l.getD k 0 = m.getD k 0) : l = m := by
  refine List.ext_getElem hl fun k h1 h2 => ?_
  have := h k h1
  rwa [List.getD_eq_getElem?_getD, List.getD_eq_getElem?_getD, List.getElem?_eq_getElem h1, List.getElem?_eq_getElem h2] at this
/-- One byte more. -/
theorem over_step (to b : List UInt8) (a i : Nat) (hi : i < b.length) :
    (padL (overL to a (b.take i)) (a + i + 1)).set (a + i) b[i] = overL to a (b.take (i + 1)) := by
  have h1 : (b.take i).length = i := by simp; omega
  have h2 : (b.take (i + 1)).length = i + 1 := by simp; omega
  refine ext1 _ _ ?_ fun k hk => ?_
  · rw [List.length_set, length_padL, length_overL, length_overL, h1, h2]
    rw [if_neg (show ¬ i + 1 = 0 by omega)]
    split <;> omega
  · rw [List.length_set, length_padL] at hk
    rw [over_get, h2, List.getD_eq_getElem?_getD, List.getElem?_set]
    by_cases hka : a + i = k
    · subst hka
      rw [if_pos rfl, if_pos (by rw [length_padL]; omega), if_pos (by omega)]
      simp [List.getD_eq_getElem?_getD, show a + i - a = i by omega, hi]
    · rw [if_neg hka, ← List.getD_eq_getElem?_getD, pad_get, over_get, h1]
      by_cases hc : a ≤ k ∧ k < a + i
      · rw [if_pos hc, if_pos (by omega)]
        simp [List.getD_eq_getElem?_getD, List.getElem?_take, show k - a < i by omega, show k - a < i + 1 by omega]
      · rw [if_neg hc, if_neg (by omega)]

theorem BS.atL {S : Nat → Prop} {w : World} {A : Option Addr} {n c : Nat} {l : List UInt8} (h : BS S w (.slice A n c) l) (j : Nat) (hj : j < l.length) :
    ∃ b off, A = some ⟨b, off, none⟩ ∧ w.cell? ⟨b, off + j, none⟩ = some (.int .u8 ((l.getD j 0).toNat : Int)) := by
  obtain ⟨A', c', he, hc, _, _, hr⟩ := h
  injection he with e1 e2 e3
  subst e1
  obtain ⟨b, off, hA, _, hcell⟩ := hr (by omega)
  refine ⟨b, off, hA, ?_⟩
  rw [hcell j hj, List.getD_eq_getElem?_getD, List.getElem?_eq_getElem hj]
  rfl
def slen : Value → Nat
  | .slice _ n _ => n
  | _ => 0
theorem pad_snoc (l : List UInt8) (m : Nat) : padL l (l.length + m) ++ [0] = padL l (l.length + m + 1) := by
  unfold padL
  rw [show l.length + m - l.length = m by omega, show l.length + m + 1 - l.length = m + 1 by omega, List.append_assoc, List.replicate_succ']

set_option maxRecDepth 100000 in
set_option maxHeartbeats 4000000 in
theorem lay_calls (to b : List UInt8) (at' : Nat) (many : Int) (vt vb : Value) (w : World) (ht : BS AllB w vt to) (hb : BS AllB w vb b) (hat : at' ≤ 1048576) (hto : to.length ≤ 1048576) (hbl : b.length ≤ 1048576) (hmi : -9223372036854775808 ≤ many ∧ many ≤ 9223372036854775807) :
    Calls Tryd.prog 67 #[vt, .agg #[.int .i64 (at' : Int), vb], .int .i64 many] w fun e w' => ∃ v', e = .returned v' ∧ Own 5 w' w.heap.size v' (overL to at' (b.take many.toNat)) ∧ Kp NoB w w' := by
  obtain ⟨At, ct, rfl⟩ := ht.len
  obtain ⟨Ab, cb, rfl⟩ := hb.len
  have HT := Lib.hid ht
  have HB := Lib.hid hb
  have kbx : Kp NoB w (w.alloc (.cells #[.int .i64 (at' : Int), .slice Ab b.length cb] 114)) := (Kp.refl _ _).alloc _
  have KB := Lib.hid kbx
  have hh := heap_alloc_new w (.cells #[.int .i64 (at' : Int), .slice Ab b.length cb] 114)
  have x0 : (w.alloc (.cells #[.int .i64 (at' : Int), .slice Ab b.length cb] 114)).cell? ⟨w.heap.size, 0, none⟩ = some (.int .i64 (at' : Int)) := by simp only [World.cell?, hh]; rfl
  have x1 : (w.alloc (.cells #[.int .i64 (at' : Int), .slice Ab b.length cb] 114)).cell? ⟨w.heap.size, 1, none⟩ = some (.slice Ab b.length cb) := by simp only [World.cell?, hh]; rfl
  obtain ⟨wb, hwb⟩ : ∃ wb, wb = w.alloc (.cells #[.int .i64 (at' : Int), .slice Ab b.length cb] 114) := ⟨_, rfl⟩
  rw [← hwb] at x0 x1 kbx
  have KB := Lib.hid kbx
  have X0 := Lib.hid x0
  have X1 := Lib.hid x1
  have HWB := Lib.hid hwb
  have zb : wb.heap.size = w.heap.size + 1 := by rw [hwb]; simp
  have hzb : w.heap.size < wb.heap.size := by omega
  clear ht hb kbx x0 x1 hh hwb zb
  go_enter Tryd.func67, Tryd.ntmps67
  go_wp2_with (first
    | ((with_reducible refine gate_dst (N := 11) rfl ?_); rw [← HWB.out]; go_must (refine wp_appK (w0 := wb) byteD NoB rfl _ _ rfl _ _ [] to rfl rfl AllB (Own.nil _ _ _) (Kp.refl _ _) (HT.out.nob KB.out) (by simpa using Nat.le_trans hto (by decide)) ?_); intro v1 w1 ho1 hk1; rw [List.nil_append] at ho1)
    | fail)
  go_loopw [7, 8] (fun o i wr => ∃ k : Nat, k ≤ b.length ∧ (k : Int) ≤ max many 0 ∧ i = .int .i64 k ∧ Own 5 wr wb.heap.size o (overL to at' (b.take k)) ∧ Kp NoB wb wr) (fun _ i _ => b.length - (intOf i).toNat)
  case atStart => exact ⟨0, Nat.zero_le _, by omega, rfl, by simpa [overL] using ho1, hk1⟩
  case round =>
    obtain ⟨k, hk, hkm, rfl, ho, hkw⟩ := hrel
    by_cases hlt : k < b.length ∧ (k : Int) < many
    · obtain ⟨hlt, hltm⟩ := hlt
      have y0 := hkw.cell X0.out id
      have y1 := hkw.cell X1.out id
      obtain ⟨Ao, co, rfl⟩ := ho.bs.len
      have hcl : (overL to at' (b.take k)).length ≤ 4194304 := by
        rw [length_overL]
        have : (b.take k).length ≤ b.length := by simp; omega
        split <;> omega
      have HOV : Hid (overL to at' (b.take k) = overL to at' (b.take k)) := Lib.hid rfl
      have hst := over_step to b at' k hlt
      have HST := Lib.hid hst
      generalize overL to at' (b.take k) = cur at *
      have HO := Lib.hid ho
      have HKW := Lib.hid hkw
      clear ho hkw hst ho1 hk1
      go_wp2_with fail
      go_loopw [7] (fun o wq => ∃ m : Nat, cur.length + m ≤ max cur.length (at' + k + 1) ∧ Own 5 wq wb.heap.size o (padL cur (cur.length + m)) ∧ Kp NoB wb wq) (fun o _ => at' + k + 2 - slen o)
      case atStart => exact ⟨0, by omega, by simpa [padL] using HO.out, HKW.out⟩
      case round =>
        obtain ⟨m, hm, ho, hkq⟩ := hrel
        have z0 := hkq.cell X0.out id
        have z1 := hkq.cell X1.out id
        have hpl : (padL cur (cur.length + m)).length = cur.length + m := by rw [length_padL]; omega
        obtain ⟨Aq, cq, rfl⟩ := ho.bs.len
        by_cases hlp : cur.length + m ≤ at' + k
        · have hps := pad_snoc cur m
          rw [hpl] at ho ⊢
          have HPS := Lib.hid hps
          have HPL := Lib.hid hpl
          have HOQ := Lib.hid ho
          have HKQ := Lib.hid hkq
          clear hps hpl ho hkq
          go_wp2_with (first
            | ((with_reducible refine gate_dst (N := 33) rfl ?_); go_must (refine wp_appK (w0 := wb) byteD NoB rfl _ _ rfl _ _ (padL cur (cur.length + m)) [0] rfl rfl (fun _ => True) (HOQ.out.nob ((Kp.refl _ _).alloc _)) (HKQ.out.alloc _) ((BS.lit _ _ _ _ [0] 1 rfl rfl (by simp)).mono fun _ _ _ => trivial) (by rw [HPL.out]; simp; omega) ?_); intro v2 w2 ho2 hk2; rw [HPS.out] at ho2)
            | fail)
          have hsv : slen v2 = cur.length + m + 1 := by
            obtain ⟨A, c, he⟩ := ho2.bs.len
            rw [he]
            show (padL cur (cur.length + m + 1)).length = _
            rw [length_padL]
            omega
          have HO2 := Lib.hid ho2
          have HSV := Lib.hid hsv
          clear ho2 hsv
          go_roundw
          case rel => exact ⟨m + 1, by omega, HO2.out, hk2⟩
          case measure => rw [HSV.out]; simp [slen]; omega
        · have hpe : padL cur (cur.length + m) = padL cur (at' + k + 1) := by
            unfold padL
            congr 2
            omega
          rw [hpl] at ho ⊢
          rw [hpe] at ho
          have hlp2 : (padL cur (at' + k + 1)).length = cur.length + m := by rw [← hpe]; exact hpl
          obtain ⟨g, rfl, hg1, hg2⟩ := ho.form (by rw [hlp2]; omega)
          obtain ⟨hc, hf⟩ := ho.cell (at' + k) (by rw [hlp2]; omega)
          replace hc : ∃ cv, wr.cell? ⟨g, at' + k, none⟩ = some cv := ⟨_, hc⟩
          obtain ⟨cv, hc⟩ := hc
          have hcq : cur.length + m ≤ cq := by
            rcases ho.2 with ⟨he, _⟩ | ⟨g', cap', cur', he, _, _, h3, _⟩
            · cases he
            · injection he with _ _ e3
              rw [hlp2] at h3
              omega
          have hput := ho.put (at' + k) b[k]
          rw [HST.out] at hput
          obtain ⟨b1, f1, rfl, xb⟩ := ((HB.out.nob KB.out).nob hkq).atL k hlt
          have hbk : Value.int .u8 ((b.getD k 0).toNat : Int) = bv b[k] := by rw [List.getD_eq_getElem?_getD, List.getElem?_eq_getElem hlt]; rfl
          rw [hbk] at xb
          have HPUT := Lib.hid hput
          have HKQ := Lib.hid hkq
          have hgb : wb.heap.size ≤ g := hg1
          generalize hbv : b[k] = bk at *
          clear hput ho hkq hpe hpl hlp2 hbk hbv
          replace xb : wr.cell? ⟨b1, f1 + k, none⟩ = some (.int .u8 (bk.toNat : Int)) := xb
          have e8 : (0 : Int) ≤ (at' : Int) + k := by omega
          have e9 : IntKind.i64.wrap ((at' : Int) + k) = (at' : Int) + k := wrap_in (by omega) (by omega)
          go_wp2_with fail
          go_region
          clear xb e8 e9 hc hf
          go_wp2
          go_roundw
          case rel => exact ⟨k + 1, by omega, by omega, by go_num, HPUT.out, (HKQ.out.setCell (.inl hgb) _).drew⟩
          case measure => simp [intOf]; omega
    · have hdone : overL to at' (b.take k) = overL to at' (b.take many.toNat) := by
        rcases Nat.lt_or_ge k b.length with h | h
        · have : k = many.toNat := by omega
          rw [this]
        · rw [List.take_of_length_le h]
          congr 1
          exact (List.take_of_length_le (by omega)).symm
      obtain ⟨res, hres⟩ : ∃ r, r = overL to at' (b.take many.toNat) := ⟨_, rfl⟩
      rw [hdone, ← hres] at ho
      have HRES := Lib.hid hres
      have y0 := hkw.cell X0.out id
      have y1 := hkw.cell X1.out id
      obtain ⟨Ao, co, rfl⟩ := ho.bs.len
      have hfin := ho.low (Nat.le_of_lt hzb)
      have kfin := KB.out.trans hkw
      have HF := Lib.hid hfin
      clear ho hdone hfin hres
      rcases (by omega : ¬ (k < b.length) ∨ (k < b.length ∧ ¬ ((k : Int) < many))) with h | ⟨h, h2⟩
      all_goals (
        go_wp2_with fail
        go_ret
        exact ⟨_, rfl, by rw [← HRES.out]; exact HF.out, kfin⟩)
end Go.Proofs.YtgjaggnpheoehaaDoor
