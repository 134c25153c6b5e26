/- Sha1 of the reference. -/
import Derived.Test.YtdplpcmpjkcocaaDoorShaR
set_option linter.unusedVariables false
set_option linter.unusedSimpArgs false
namespace Go.Proofs.YtdplpcmpjkcocaaDoor
open Go.RowKit

def sizeTo (n i : Nat) : List UInt8 := List.replicate (8 - i) 0 ++ (be8 n).drop (8 - i)

theorem sizeTo_set (n i : Nat) (hi : i < 8) (j : Nat) (hj : j = 7 - i) (m : Nat) (hm : m = n / 256 ^ i) : (sizeTo n i).set j (UInt8.ofNat m) = sizeTo n (i + 1) := by
  subst hj hm
  rcases (by omega : i = 0 ∨ i = 1 ∨ i = 2 ∨ i = 3 ∨ i = 4 ∨ i = 5 ∨ i = 6 ∨ i = 7) with rfl | rfl | rfl | rfl | rfl | rfl | rfl | rfl <;> simp [sizeTo, be8, List.replicate]

set_option maxRecDepth 100000 in
set_option maxHeartbeats 8000000 in
theorem rsha_calls (l : List UInt8) (v : Value) (w : World) (hv : BS AllB w v l) (hl : l.length ≤ 100000) :
    Calls Tryd.prog 8 #[v] w fun e w' => e = .returned (.agg (bvs (shaN l)).toArray) ∧ Kp NoB w w' := by
  obtain ⟨A, c, rfl⟩ := hv.len
  have k0 : Kp NoB w (w.alloc (.cells (bvs z20).toArray 23)) := (Kp.refl _ _).alloc _
  have hz := zero20
  have a2 := Arr.made 23 w (bvs z20) (by rw [bvs_length]; decide)
  have HV := Lib.hid (hv.nob k0)
  have A2 := Lib.hid a2
  have K0 := Lib.hid k0
  clear hv k0 a2
  obtain ⟨w0, hw0⟩ : ∃ w0, w0 = w.alloc (.cells (bvs z20).toArray 23) := ⟨_, rfl⟩
  rw [← hw0] at HV A2 K0
  have HW0 := Lib.hid hw0
  clear hw0
  go_enter Tryd.func8, Tryd.ntmps8
  go_wp2_with (first
    | ((with_reducible refine gate_dst (N := 27) rfl ?_); rw [← HW0.out]; go_must (refine wp_appK (w0 := w0) byteT NoB rfl _ _ rfl _ _ [] l rfl rfl AllB (Own.nil _ _ _) (Kp.refl _ _) HV.out (by simp; omega) ?_); intro v1 w1 ho1 hk1; rw [List.nil_append] at ho1; obtain ⟨A1, c1, rfl⟩ := ho1.bs.len; have HO1 := Lib.hid ho1; have HK1 := Lib.hid hk1; clear ho1 hk1)
    | ((with_reducible refine gate_dst (N := 30) rfl ?_); go_must (refine wp_appK (w0 := w0) byteT NoB rfl _ _ rfl _ _ l [128] rfl rfl (fun _ => True) (HO1.out.nob ((Kp.refl _ _).alloc _)) (HK1.out.alloc _) ((BS.lit _ _ _ _ [128] 1 rfl rfl (by simp)).mono fun _ _ _ => trivial) (by simp; omega) ?_); intro v2 w2 ho2 hk2)
    | fail)
  clear hz
  go_loopw [3] (fun o wr => ∃ j : Nat, j ≤ padZ l.length ∧ Own 5 wr w0.heap.size o (l ++ 128 :: List.replicate j 0) ∧ Kp NoB w0 wr) (fun o _ => l.length + 100 - slen o)
  case atStart => exact ⟨0, Nat.zero_le _, ho2, hk2⟩
  case round =>
    obtain ⟨j, hj, ho, hk⟩ := hrel
    have hlen : (l ++ 128 :: List.replicate j (0 : UInt8)).length = l.length + 1 + j := by simp; omega
    obtain ⟨Ao, co, rfl⟩ := ho.bs.len
    rw [hlen] at ho ⊢
    have hpz := padZ_le l.length
    have hiff := padZ_iff l.length j hj
    have HO := Lib.hid ho
    have HK := Lib.hid hk
    have HLEN := Lib.hid hlen
    by_cases hlt : j = padZ l.length
    · have hm : (((l.length : Int) + 1 + (j : Int)) % 64 != 56) = false := by have := hiff.2 hlt; simp; omega
      have hj63 : j ≤ 63 := by omega
      obtain ⟨P, hP⟩ : ∃ P, P = l ++ 128 :: List.replicate j (0 : UInt8) := ⟨_, rfl⟩
      have hpd : padded l = P ++ be8 (8 * l.length) := by unfold padded; rw [hP, ← hlt]; simp
      have hob : Own 5 wr w0.heap.size (.slice Ao (l.length + 1 + j) co) P := by rw [hP]; exact ho
      have hPl : P.length = l.length + 1 + j := by rw [hP]; exact hlen
      have HPD := Lib.hid hpd
      have HOB := Lib.hid hob
      have HPL := Lib.hid hPl
      clear ho hk hlen hiff hlt hpd hob hPl hP
      have hmk8 : ∀ W, (Instr.makeSlice 22 (.int .i64 8) (.int .i64 8)).run Tryd.prog W = .ok (.slice (some ⟨W.heap.size, 0, none⟩) 8 8) (W.alloc (.cells (madeCells #[.int .u8 0] 8) 5)) := fun W => make_bytes byteT 8 (by decide) W
      go_wp2_with fail
      clear hmk8
      have os := Own.made 5 wr 8 (by decide)
      have ka : Kp NoB wr (wr.alloc (.cells (madeCells #[.int .u8 0] 8) 5)) := (Kp.refl _ _).alloc _
      have hzs : wr.heap.size < (wr.alloc (.cells (madeCells #[.int .u8 0] 8) 5)).heap.size := by simp
      have hob8 := HOB.out.nob ka
      have hk8 := HK.out.trans ka
      have hgs := HOB.out.lt
      have hgle : w0.heap.size ≤ wr.heap.size := HK.out.size
      generalize wr.alloc (.cells (madeCells #[.int .u8 0] 8) 5) = w8 at *
      generalize hgsE : wr.heap.size = gs at *
      have HOB8 := Lib.hid hob8
      have HK8 := Lib.hid hk8
      have HGS := Lib.hid hgs
      clear hgsE hob8 hk8 hgs ka HOB HK HO HO1 HK1
      go_loopw [4, 6] (fun n i wr => ∃ k : Nat, k ≤ 8 ∧ n = .int .i64 (((8 * l.length) / 256 ^ k : Nat) : Int) ∧ i = .int .i64 (7 - (k : Int)) ∧ Own 5 wr gs (.slice (some ⟨gs, 0, none⟩) 8 8) (sizeTo (8 * l.length) k) ∧ Kp (fun k => k = gs) w8 wr) (fun _ i _ => (intOf i + 1).toNat)
      case atStart => exact ⟨0, Nat.zero_le _, by simp only [Nat.pow_zero, Nat.div_one]; go_num, rfl, os, Kp.refl _ _⟩
      case round =>
        obtain ⟨k, hk8, rfl, rfl, hs, hkq⟩ := hrel
        rcases (by omega : k = 0 ∨ k = 1 ∨ k = 2 ∨ k = 3 ∨ k = 4 ∨ k = 5 ∨ k = 6 ∨ k = 7 ∨ k = 8) with rfl | rfl | rfl | rfl | rfl | rfl | rfl | rfl | rfl
        · skip
          -- <b7
          have hp := hs.cell 7 (by simp [sizeTo, be8])
          obtain ⟨hc0, hf0⟩ := hp
          have hput := hs.put 7 (UInt8.ofNat (8 * l.length ))
          rw [sizeTo_set (8 * l.length) 0 (by decide) 7 (by decide) (8 * l.length ) (by simp)] at hput
          rw [val_u8] at hput
          replace hc0 : ∃ cv, wr.cell? ⟨gs, 7, none⟩ = some cv := ⟨_, hc0⟩
          obtain ⟨cv, hc0⟩ := hc0
          have HPUT := Lib.hid hput
          have HKQ := Lib.hid hkq
          clear hput hs hkq
          go_wp2_with fail
          go_roundw
          case measure => simp [intOf]
          case rel => exact ⟨1, by decide, by simp only [Nat.reducePow, Nat.div_div_eq_div_mul, Nat.reduceMul]; go_num, rfl, by first | exact HPUT.out | (have := HPUT.out; simpa using this), HKQ.out.trans kp_set'⟩
          -- b7>
        · skip
          -- <b6
          have hp := hs.cell 6 (by simp [sizeTo, be8])
          obtain ⟨hc0, hf0⟩ := hp
          have hput := hs.put 6 (UInt8.ofNat (8 * l.length / 256))
          rw [sizeTo_set (8 * l.length) 1 (by decide) 6 (by decide) (8 * l.length / 256) (by simp)] at hput
          rw [val_u8] at hput
          replace hc0 : ∃ cv, wr.cell? ⟨gs, 6, none⟩ = some cv := ⟨_, hc0⟩
          obtain ⟨cv, hc0⟩ := hc0
          have HPUT := Lib.hid hput
          have HKQ := Lib.hid hkq
          clear hput hs hkq
          go_wp2_with fail
          go_roundw
          case measure => simp [intOf]
          case rel => exact ⟨2, by decide, by simp only [Nat.reducePow, Nat.div_div_eq_div_mul, Nat.reduceMul]; go_num, rfl, by first | exact HPUT.out | (have := HPUT.out; simpa using this), HKQ.out.trans kp_set'⟩
          -- b6>
        · skip
          -- <b5
          have hp := hs.cell 5 (by simp [sizeTo, be8])
          obtain ⟨hc0, hf0⟩ := hp
          have hput := hs.put 5 (UInt8.ofNat (8 * l.length / 65536))
          rw [sizeTo_set (8 * l.length) 2 (by decide) 5 (by decide) (8 * l.length / 65536) (by simp)] at hput
          rw [val_u8] at hput
          replace hc0 : ∃ cv, wr.cell? ⟨gs, 5, none⟩ = some cv := ⟨_, hc0⟩
          obtain ⟨cv, hc0⟩ := hc0
          have HPUT := Lib.hid hput
          have HKQ := Lib.hid hkq
          clear hput hs hkq
          go_wp2_with fail
          go_roundw
          case measure => simp [intOf]
          case rel => exact ⟨3, by decide, by simp only [Nat.reducePow, Nat.div_div_eq_div_mul, Nat.reduceMul]; go_num, rfl, by first | exact HPUT.out | (have := HPUT.out; simpa using this), HKQ.out.trans kp_set'⟩
          -- b5>
        · skip
          -- <b4
          have hp := hs.cell 4 (by simp [sizeTo, be8])
          obtain ⟨hc0, hf0⟩ := hp
          have hput := hs.put 4 (UInt8.ofNat (8 * l.length / 16777216))
          rw [sizeTo_set (8 * l.length) 3 (by decide) 4 (by decide) (8 * l.length / 16777216) (by simp)] at hput
          rw [val_u8] at hput
          replace hc0 : ∃ cv, wr.cell? ⟨gs, 4, none⟩ = some cv := ⟨_, hc0⟩
          obtain ⟨cv, hc0⟩ := hc0
          have HPUT := Lib.hid hput
          have HKQ := Lib.hid hkq
          clear hput hs hkq
          go_wp2_with fail
          go_roundw
          case measure => simp [intOf]
          case rel => exact ⟨4, by decide, by simp only [Nat.reducePow, Nat.div_div_eq_div_mul, Nat.reduceMul]; go_num, rfl, by first | exact HPUT.out | (have := HPUT.out; simpa using this), HKQ.out.trans kp_set'⟩
          -- b4>
        · skip
          -- <b3
          have hp := hs.cell 3 (by simp [sizeTo, be8])
          obtain ⟨hc0, hf0⟩ := hp
          have hput := hs.put 3 (UInt8.ofNat (8 * l.length / 4294967296))
          rw [sizeTo_set (8 * l.length) 4 (by decide) 3 (by decide) (8 * l.length / 4294967296) (by simp)] at hput
          rw [val_u8] at hput
          replace hc0 : ∃ cv, wr.cell? ⟨gs, 3, none⟩ = some cv := ⟨_, hc0⟩
          obtain ⟨cv, hc0⟩ := hc0
          have HPUT := Lib.hid hput
          have HKQ := Lib.hid hkq
          clear hput hs hkq
          go_wp2_with fail
          go_roundw
          case measure => simp [intOf]
          case rel => exact ⟨5, by decide, by simp only [Nat.reducePow, Nat.div_div_eq_div_mul, Nat.reduceMul]; go_num, rfl, by first | exact HPUT.out | (have := HPUT.out; simpa using this), HKQ.out.trans kp_set'⟩
          -- b3>
        · skip
          -- <b2
          have hp := hs.cell 2 (by simp [sizeTo, be8])
          obtain ⟨hc0, hf0⟩ := hp
          have hput := hs.put 2 (UInt8.ofNat (8 * l.length / 1099511627776))
          rw [sizeTo_set (8 * l.length) 5 (by decide) 2 (by decide) (8 * l.length / 1099511627776) (by simp)] at hput
          rw [val_u8] at hput
          replace hc0 : ∃ cv, wr.cell? ⟨gs, 2, none⟩ = some cv := ⟨_, hc0⟩
          obtain ⟨cv, hc0⟩ := hc0
          have HPUT := Lib.hid hput
          have HKQ := Lib.hid hkq
          clear hput hs hkq
          go_wp2_with fail
          go_roundw
          case measure => simp [intOf]
          case rel => exact ⟨6, by decide, by simp only [Nat.reducePow, Nat.div_div_eq_div_mul, Nat.reduceMul]; go_num, rfl, by first | exact HPUT.out | (have := HPUT.out; simpa using this), HKQ.out.trans kp_set'⟩
          -- b2>
        · skip
          -- <b1
          have hp := hs.cell 1 (by simp [sizeTo, be8])
          obtain ⟨hc0, hf0⟩ := hp
          have hput := hs.put 1 (UInt8.ofNat (8 * l.length / 281474976710656))
          rw [sizeTo_set (8 * l.length) 6 (by decide) 1 (by decide) (8 * l.length / 281474976710656) (by simp)] at hput
          rw [val_u8] at hput
          replace hc0 : ∃ cv, wr.cell? ⟨gs, 1, none⟩ = some cv := ⟨_, hc0⟩
          obtain ⟨cv, hc0⟩ := hc0
          have HPUT := Lib.hid hput
          have HKQ := Lib.hid hkq
          clear hput hs hkq
          go_wp2_with fail
          go_roundw
          case measure => simp [intOf]
          case rel => exact ⟨7, by decide, by simp only [Nat.reducePow, Nat.div_div_eq_div_mul, Nat.reduceMul]; go_num, rfl, by first | exact HPUT.out | (have := HPUT.out; simpa using this), HKQ.out.trans kp_set'⟩
          -- b1>
        · skip
          -- <b0
          have hp := hs.cell 0 (by simp [sizeTo, be8])
          obtain ⟨hc0, hf0⟩ := hp
          have hput := hs.put 0 (UInt8.ofNat (8 * l.length / 72057594037927936))
          rw [sizeTo_set (8 * l.length) 7 (by decide) 0 (by decide) (8 * l.length / 72057594037927936) (by simp)] at hput
          rw [val_u8] at hput
          replace hc0 : ∃ cv, wr.cell? ⟨gs, 0, none⟩ = some cv := ⟨_, hc0⟩
          obtain ⟨cv, hc0⟩ := hc0
          have HPUT := Lib.hid hput
          have HKQ := Lib.hid hkq
          clear hput hs hkq
          go_wp2_with fail
          go_roundw
          case measure => simp [intOf]
          case rel => exact ⟨8, by decide, by simp only [Nat.reducePow, Nat.div_div_eq_div_mul, Nat.reduceMul]; go_num, rfl, by first | exact HPUT.out | (have := HPUT.out; simpa using this), HKQ.out.trans kp_set'⟩
          -- b0>
        · have hsz : sizeTo (8 * l.length) 8 = be8 (8 * l.length) := by simp [sizeTo, be8]
          have hpd := HPD.out
          have hob := HOB8.out.kp hkq fun b _ hb hf => by have h1 : b = gs := hf; have h2 := HGS.out b hb; omega
          have hge : w0.heap.size ≤ gs := hgle
          have hk0 : Kp NoB w0 wr := HK8.out.step hkq fun i hi hf => by have h1 : i = gs := hf; omega
          have hbs : BS (fun _ => True) wr (.slice (some ⟨gs, 0, none⟩) 8 8) (be8 (8 * l.length)) := by rw [← hsz]; exact hs.bs.mono fun _ _ _ => trivial
          have hP := padded_length l
          have hsh : shaN l = outH (blocksTo (padded l) ((padded l).length / 64)) := rfl
          have hP0 : 0 < (padded l).length := by simp [padded]; omega
          have hpb : (padded l).length ≤ 200000 := by
            have hz := padZ_le l.length
            have : (padded l).length = l.length + 1 + (padZ l.length + 8) := by simp [padded, be8]; omega
            omega
          have hPa : P.length + (be8 (8 * l.length)).length ≤ 140737488355328 := by have := HPL.out; simp [be8]; omega
          obtain ⟨N, hN⟩ : ∃ N, N = (padded l).length / 64 := ⟨_, rfl⟩
          rw [← hN] at hP hsh
          have HOBW := Lib.hid hob
          have HK0 := Lib.hid hk0
          have HBS := Lib.hid hbs
          have HPL := Lib.hid hP
          have HSH := Lib.hid hsh
          have HP0 := Lib.hid hP0
          have HPB := Lib.hid hpb
          have HPA := Lib.hid hPa
          clear hs hkq hob hk0 hbs hP hsh hP0 hpb hPa hN hpd hsz HGS HOB8 HK8 os HV
          go_wp2_with (first
            | ((with_reducible refine gate_dst (N := 56) rfl ?_); go_must (refine wp_appK (w0 := w0) byteT NoB rfl _ _ rfl _ _ P (be8 (8 * l.length)) rfl rfl (fun _ => True) HOBW.out HK0.out HBS.out HPA.out ?_); intro v9 w9 ho9 hk9; rw [← HPD.out] at ho9; have HO9 := Lib.hid ho9; have HK9 := Lib.hid hk9; clear ho9 hk9)
            | fail)
          have h10 := H5At.made w9 beginH 35
          have k10 : Kp NoB w9 (w9.alloc (.cells #[.int .u32 1732584193, .int .u32 4023233417, .int .u32 2562383102, .int .u32 271733878, .int .u32 3285377520] 35)) := (Kp.refl _ _).alloc _
          have e10 : (w9.alloc (.cells #[.int .u32 1732584193, .int .u32 4023233417, .int .u32 2562383102, .int .u32 271733878, .int .u32 3285377520] 35)).heap.size = w9.heap.size + 1 := by simp
          change H5At (w9.alloc (.cells #[.int .u32 1732584193, .int .u32 4023233417, .int .u32 2562383102, .int .u32 271733878, .int .u32 3285377520] 35)) w9.heap.size beginH at h10
          generalize w9.alloc (.cells #[.int .u32 1732584193, .int .u32 4023233417, .int .u32 2562383102, .int .u32 271733878, .int .u32 3285377520] 35) = w10 at *
          obtain ⟨gh, hgh⟩ : ∃ gh, gh = w9.heap.size := ⟨_, rfl⟩
          rw [← hgh] at h10 e10 ⊢
          have hpd := HPL.out
          have hP0 := HP0.out
          have hpb := HPB.out
          have ho10 := HO9.out.nob k10
          have hlt9 := HO9.out.lt
          have hk10 := HK9.out.trans k10
          have hsh := HSH.out
          have HN0 : N ≤ 4000 := by omega
          generalize padded l = PP at *
          obtain ⟨A9, c9, rfl⟩ := ho10.bs.len
          obtain ⟨gp, rfl, hgp1, hgp2⟩ := ho10.form hP0
          have hgp3 : gp < gh := by rw [hgh]; exact (hlt9 gp rfl).2
          have hgh0 : w0.heap.size ≤ gh := by rw [hgh]; exact HK9.out.size
          have HO10 := Lib.hid ho10
          have HK10 := Lib.hid hk10
          have HE10 := Lib.hid e10
          clear ho10 hlt9 hk10 hgp2 k10 HO9 HK9 HPL HSH HP0 HPB HPD HOBW HK0 HBS hgh e10
          have HPL := Lib.hid hpd
          rw [hpd]
          rw [hpd] at HO10
          have HSH := Lib.hid hsh
          clear hpd hsh hP0 hpb
          go_loopw [8] (fun a wr => ∃ k : Nat, k ≤ N ∧ a = .int .i64 ((64 * k : Nat) : Int) ∧ H5At wr gh (blocksTo PP k) ∧ Kp (fun b => b = gh) w10 wr) (fun a _ => 64 * N - (intOf a).toNat)
          case atStart => exact ⟨0, Nat.zero_le _, rfl, h10, Kp.refl _ _⟩
          case round =>
            obtain ⟨k, hk, rfl, hh, hq⟩ := hrel
            clear h10
            by_cases hlt : k < N
            · have hal := zero80
              have hor := HO10.out.kp hq fun b _ hb hf => by have h1 : gp = b := by simpa [Value.ownBlock] using hb
                                                             have h2 : b = gh := hf
                                                             omega
              obtain ⟨b', off', hA', hc'⟩ := hor.bs.at8 (by rw [HPL.out]; omega)
              injection hA' with hA'
              injection hA' with hA1 hA2
              subst hA1 hA2
              have hcell : ∀ j, j < 64 * N → wr.cell? ⟨gp, j, none⟩ = some (.int .u8 ((PP.getD j 0).toNat : Int)) := fun j hj => by
                have := hc' j (by rw [HPL.out]; exact hj)
                rwa [Nat.zero_add] at this
              have hbk : ∀ j, j < 64 → ((PP.drop (64 * k)).take 64).getD j 0 = PP.getD (64 * k + j) 0 := fun j hj => by
                simp [List.getD_eq_getElem?_getD, List.getElem?_take, List.getElem?_drop, hj]
              have hmx : blocksTo PP (k + 1) = mixN (blocksTo PP k) ((PP.drop (64 * k)).take 64) := rfl
              have hok := blocksTo_ok PP k
              generalize (PP.drop (64 * k)).take 64 = blk at *
              generalize blocksTo PP k = h0 at *
              have kA : Kp NoB wr (wr.alloc (.cells (w32s zeroW).toArray 41)) := (Kp.refl _ _).alloc _
              have aA := Arr.made 41 wr (w32s zeroW) (by rw [w32s_length]; decide)
              have hcA : ∀ j, j < 64 * N → (wr.alloc (.cells (w32s zeroW).toArray 41)).cell? ⟨gp, j, none⟩ = some (.int .u8 ((PP.getD j 0).toNat : Int)) := fun j hj => kA.cell (hcell j hj) id
              have hhA := hh.kp kA id
              have hqA := hq.next kA
              have hghw := World.block_lt_of_cell? wr _ hh.c0
              simp only at hghw
              have HCA := Lib.hid hcA
              have HHA := Lib.hid hhA
              have HQA := Lib.hid hqA
              have HAA := Lib.hid aA
              have HBK := Lib.hid hbk
              have HMX := Lib.hid hmx
              have HOK := Lib.hid hok
              have HLT := Lib.hid hlt
              clear hor hc' hcell hbk hmx hok kA aA hcA hhA hqA hq hh
              go_wp2_with fail
              clear hal
              have aA := HAA.out
              have HCA := HCA.out
              have HHA := HHA.out
              have HQA := HQA.out
              generalize wr.alloc (.cells (w32s zeroW).toArray 41) = wA at *
              obtain ⟨gw, hgw⟩ : ∃ gw, gw = wr.heap.size := ⟨_, rfl⟩
              rw [← hgw] at aA hghw ⊢
              have HHA := Lib.hid HHA
              have HQA := Lib.hid HQA
              have HCA := Lib.hid HCA
              clear HAA hgw
              go_loopw [10] (fun i w4 => ∃ t : Nat, t ≤ 80 ∧ i = .int .i64 (t : Int) ∧ Arr 41 w4 gw gw (w32s (fillW blk t)) ∧ Kp (fun b => b = gw) wA w4) (fun i _ => 80 - (intOf i).toNat)
              case atStart => exact ⟨0, Nat.zero_le _, rfl, aA, Kp.refl _ _⟩
              case round =>
                rename World => w4
                obtain ⟨t, ht, rfl, h4, hk4⟩ := hrel
                clear aA
                by_cases hlt8 : t < 80
                · by_cases h16 : t < 16
                  · skip
                    -- <t15
                    have hfl := fillW_length blk t ht
                    have hfz := fillW_zero blk t hlt8
                    have hfp := fillW_part blk t h16
                    rw [← hfz] at h4
                    have HFL := Lib.hid hfl
                    have HFP := Lib.hid hfp
                    have H4 := Lib.hid h4
                    have HK4 := Lib.hid hk4
                    clear h4 hk4 hfl hfz hfp
                    go_wp2_with fail
                    go_loopw [11] (fun i w5 => ∃ n : Nat, n ≤ 4 ∧ i = .int .i64 (n : Int) ∧ Arr 41 w5 gw gw (w32s ((fillW blk t).set t (partW blk t n))) ∧ Kp (fun b => b = gw) wA w5) (fun i _ => 4 - (intOf i).toNat)
                    case atStart => exact ⟨0, Nat.zero_le _, rfl, H4.out, HK4.out⟩
                    case round =>
                      obtain ⟨n, hn, rfl, h5, hk5⟩ := hrel
                      clear H4 HK4
                      by_cases hn4 : n < 4
                      · have q := hk5.cell (HCA.out (64 * k + 4 * t + n) (by have := HLT.out; omega)) (show ¬ (gp = gw) by omega)
                        have hb := HBK.out (4 * t + n) (by omega)
                        rw [← Nat.add_assoc] at hb
                        rw [← hb] at q
                        have c := h5.nat t (by rw [List.length_set, HFL.out]; exact hlt8)
                        rw [set_getD _ _ _ (by rw [HFL.out]; exact hlt8)] at c
                        have f := h5.fz t
                        have hput := h5.putN t (partW blk t (n + 1))
                        rw [List.set_set] at hput
                        have hst : partW blk t (n + 1) = partW blk t n * 256 + (blk.getD (4 * t + n) 0).toNat := rfl
                        have hp3 := partW_lt3 blk t n hn4
                        have hy := (blk.getD (4 * t + n) 0).toNat_lt
                        have hin : 64 * k + 4 * t + n < 64 * N := by have := HLT.out; omega
                        rw [hst] at hput
                        generalize hxx : partW blk t n = x at *
                        generalize hyy : (blk.getD (4 * t + n) 0).toNat = y at *
                        have i1 : (64 * (k : Int) + 4 * (t : Int) + (n : Int)).toNat = 64 * k + 4 * t + n := by omega
                        have j0 : IntKind.i64.wrap (4 * (t : Int)) = 4 * (t : Int) := wrap_in (by omega) (by omega)
                        have j1 : IntKind.i64.wrap (64 * (k : Int) + 4 * (t : Int)) = 64 * (k : Int) + 4 * (t : Int) := wrap_in (by omega) (by omega)
                        have j2 : IntKind.i64.wrap (64 * (k : Int) + 4 * (t : Int) + (n : Int)) = 64 * (k : Int) + 4 * (t : Int) + (n : Int) := wrap_in (by omega) (by omega)
                        have HST := Lib.hid hst
                        have HP := Lib.hid hput
                        have HK5 := Lib.hid hk5
                        clear hst hput hk5 h5 hb hxx hyy
                        go_wp2_with fail
                        go_region
                        clear i1 j0 j1 j2 q c f
                        go_wp2_with fail
                        go_roundw
                        case measure => simp [intOf]; omega
                        case rel =>
                          refine ⟨n + 1, by omega, by go_num, ?_, (HK5.out.setCell (.inr rfl) _).drew⟩
                          have hp := HP.out
                          rw [show ((x * 256 + y : Nat) : Int) = 256 * (x : Int) + (y : Int) by omega] at hp
                          rw [HST.out]
                          exact hp
                      · obtain rfl : n = 4 := by omega
                        rw [HFP.out] at h5
                        have H5' := Lib.hid h5
                        have HK5 := Lib.hid hk5
                        clear h5 hk5
                        go_wp2_with fail
                        go_roundw
                        case measure => simp [intOf]; omega
                        case rel => exact ⟨t + 1, by omega, by go_num, H5'.out, HK5.out⟩
                    -- t15>
                  · skip
                    -- <t16
                    have hnw : nextW blk (wordsTo blk t) t = rotN (((((wordsTo blk t).getD (t - 3) 0) ^^^ ((wordsTo blk t).getD (t - 8) 0)) ^^^ ((wordsTo blk t).getD (t - 14) 0)) ^^^ ((wordsTo blk t).getD (t - 16) 0)) 1 := by unfold nextW; rw [if_neg h16]
                    have hfs := fillW_set blk t hlt8
                    rw [hnw] at hfs
                    have hfl := fillW_length blk t ht
                    have hwl := wordsTo_lt blk t
                    have g3 := h4.nat (t - 3) (by omega)
                    have g8 := h4.nat (t - 8) (by omega)
                    have g14 := h4.nat (t - 14) (by omega)
                    have g16 := h4.nat (t - 16) (by omega)
                    rw [fillW_get blk t _ (by omega)] at g3 g8 g14 g16
                    have b3 := getD_lt (wordsTo blk t) hwl (t - 3)
                    have b8 := getD_lt (wordsTo blk t) hwl (t - 8)
                    have b14 := getD_lt (wordsTo blk t) hwl (t - 14)
                    have b16 := getD_lt (wordsTo blk t) hwl (t - 16)
                    generalize (wordsTo blk t).getD (t - 3) 0 = y3 at *
                    generalize (wordsTo blk t).getD (t - 8) 0 = y8 at *
                    generalize (wordsTo blk t).getD (t - 14) 0 = y14 at *
                    generalize (wordsTo blk t).getD (t - 16) 0 = y16 at *
                    have x1 := u32_xor_nat y3 y8 b3 b8
                    have x2 := u32_xor_nat (y3 ^^^ y8) y14 (xor_lt32 b3 b8) b14
                    have x3 := u32_xor_nat ((y3 ^^^ y8) ^^^ y14) y16 (xor_lt32 (xor_lt32 b3 b8) b14) b16
                    have bx := xor_lt32 (xor_lt32 (xor_lt32 b3 b8) b14) b16
                    have hc3 := h4.at_ t (by rw [w32s_length]; omega)
                    have hf3 := h4.fz t
                    generalize y3 ^^^ y8 = z1 at *
                    generalize z1 ^^^ y14 = z2 at *
                    generalize z2 ^^^ y16 = z3 at *
                    have hput := h4.putN t (rotN z3 1)
                    rw [hfs] at hput
                    replace hc3 : ∃ cv, w4.cell? ⟨gw, t, none⟩ = some cv := ⟨_, hc3⟩
                    obtain ⟨cv, hc3⟩ := hc3
                    have hr := (left_calls z3 1 bx (by simp) w4.drew).mono (R' := fun e w' => e = .returned (.int .u32 (rotN z3 1 : Nat)) ∧ w' = w4.drew) fun e w' h => ⟨h.1, h.2.symm⟩
                    change Calls _ _ #[.int .u32 z3, .int .i64 1] _ _ at hr
                    have i3 : ((t : Int) - 3).toNat = t - 3 := by omega
                    have i8 : ((t : Int) - 8).toNat = t - 8 := by omega
                    have i14 : ((t : Int) - 14).toNat = t - 14 := by omega
                    have i16 : ((t : Int) - 16).toNat = t - 16 := by omega
                    have j3 : IntKind.i64.wrap ((t : Int) - 3) = (t : Int) - 3 := wrap_in (by omega) (by omega)
                    have j8 : IntKind.i64.wrap ((t : Int) - 8) = (t : Int) - 8 := wrap_in (by omega) (by omega)
                    have j14 : IntKind.i64.wrap ((t : Int) - 14) = (t : Int) - 14 := wrap_in (by omega) (by omega)
                    have j16 : IntKind.i64.wrap ((t : Int) - 16) = (t : Int) - 16 := wrap_in (by omega) (by omega)
                    have l3 : (3 : Int) ≤ (t : Int) := by omega
                    have l8 : (8 : Int) ≤ (t : Int) := by omega
                    have l14 : (14 : Int) ≤ (t : Int) := by omega
                    have l16 : (16 : Int) ≤ (t : Int) := by omega
                    have m3 : (t : Int) - 3 < 80 := by omega
                    have m8 : (t : Int) - 8 < 80 := by omega
                    have m14 : (t : Int) - 14 < 80 := by omega
                    have m16 : (t : Int) - 16 < 80 := by omega
                    have HP := Lib.hid hput
                    have HK4 := Lib.hid hk4
                    clear hnw hfs hput hk4 h4 hfl hwl bx b3 b8 b14 b16
                    go_wp2_with fail
                    refine wp_region_still_tail 22 (by kernel_rfl) (by kernel_rfl) ?_
                    simp only [List.take_succ_cons, List.take_zero, List.drop_succ_cons, List.drop_zero]
                    repeat (first | still_call hr | still_step)
                    change wpList _ _ _ _ _ w4.drew
                    clear x1 x2 x3 i3 i8 i14 i16 j3 j8 j14 j16 g3 g8 g14 g16 hr
                    go_wp2_with fail
                    go_roundw
                    case rel => exact ⟨t + 1, by omega, by go_num, HP.out, (HK4.out.setCell (.inr rfl) _).drew⟩
                    case measure => simp [intOf]; omega
                    -- t16>
                · obtain rfl : t = 80 := by omega
                  rw [show ((80 : Nat) : Int) = (80 : Int) from rfl]
                  have hfw : fillW blk 80 = wordsTo blk 80 := by simp [fillW]
                  rw [hfw] at h4
                  have hwl := wordsTo_length blk 80
                  have hwb := wordsTo_lt blk 80
                  have hmx : blocksTo PP (k + 1) = addH h0 (roundsTo (wordsTo blk 80) h0 80) := HMX.out
                  have hh4 := HHA.out.kp hk4 (show ¬ (gh = gw) by omega)
                  have hq4 : Kp (fun b => b = gh) w10 w4 := HQA.out.step hk4 fun i hi hf => by have h1 : i = gw := hf; have := HE10.out; exact absurd hi (by omega)
                  generalize wordsTo blk 80 = ws at *
                  have HW := Lib.hid hwl
                  have HB := Lib.hid hwb
                  have HM := Lib.hid hmx
                  have HQ4 := Lib.hid hq4
                  have d0 := hh4.c0
                  have d1 := hh4.c1
                  have d2 := hh4.c2
                  have d3 := hh4.c3
                  have d4 := hh4.c4
                  have HH4 := Lib.hid hh4
                  have H4 := Lib.hid h4
                  clear hfw hwl hwb hmx hh4 hq4 hk4 h4 HMX HBK
                  go_wp2_with fail
                  clear d0 d1 d2 d3 d4
                  go_loopw [12, 13, 14, 15, 16, 17] (fun va vb vc vd ve i w6 => ∃ (t sa sb sc sd se : Nat), t ≤ 80 ∧ i = .int .i64 (t : Int) ∧ roundsTo ws h0 t = H5.mk sa sb sc sd se ∧ va = .int .u32 (sa : Int) ∧ vb = .int .u32 (sb : Int) ∧ vc = .int .u32 (sc : Int) ∧ vd = .int .u32 (sd : Int) ∧ ve = .int .u32 (se : Int) ∧ Kp NoB w4 w6) (fun _ _ _ _ _ i _ => 80 - (intOf i).toNat)
                  case atStart => exact ⟨0, h0.a, h0.b, h0.c, h0.d, h0.e, Nat.zero_le _, rfl, rfl, rfl, rfl, rfl, rfl, rfl, Kp.refl _ _⟩
                  case round =>
                    rename World => w6
                    obtain ⟨t, sa, sb, sc, sd, se, ht, rfl, hrs, rfl, rfl, rfl, rfl, rfl, hk6⟩ := hrel
                    by_cases hlt6 : t < 80
                    · have ci := hk6.cell (H4.out.nat t (by rw [HW.out]; exact hlt6)) id
                      have hok6 := roundsTo_ok ws h0 HOK.out t
                      have hwt := getD_lt ws HB.out t
                      have hst : Hid (roundsTo ws h0 (t + 1) = stepH (t / 20) (ws.getD t 0) (roundsTo ws h0 t)) := Lib.hid rfl
                      generalize ws.getD t 0 = wt at *
                      rw [hrs] at hok6 hst
                      obtain ⟨oa, ob, oc, od, oe⟩ := hok6
                      simp only at oa ob oc od oe
                      have r5 : ∀ W, Calls Tryd.prog 17 #[.int .u32 (sa : Int), .int .i64 5] W fun e w' => e = .returned (.int .u32 (rotN sa 5 : Nat)) ∧ w' = W := fun W => (left_calls sa 5 oa (by simp) W).mono fun e w' h => ⟨h.1, h.2.symm⟩
                      have p1 := u32_xor_nat sb sc ob oc
                      have p2 := u32_xor_nat (sb ^^^ sc) sd (xor_lt32 ob oc) od
                      have hf0 := fun q => fN_lt q ob oc od
                      have HK6 := Lib.hid hk6
                      clear hk6
                      have hlr := rotN_lt sa 5 oa (by simp)
                      clear hrs
                      rcases (by omega : t < 20 ∨ (20 ≤ t ∧ t < 40) ∨ (40 ≤ t ∧ t < 60) ∨ 60 ≤ t) with hq0 | ⟨hq0, hq1⟩ | ⟨hq0, hq1⟩ | hq0
                      · skip
                        -- <q0
                        have hq : t / 20 = 0 := by omega
                        rw [hq] at hst
                        have c1 := u32_and_nat sb sc ob oc
                        have c2 : bits .and .u32 (4294967295 - (sb : Int)) (sd : Int) = ((4294967295 - sb &&& sd : Nat) : Int) := by
                          have := u32_and_nat (4294967295 - sb) sd (by omega) od
                          rwa [show ((4294967295 - sb : Nat) : Int) = 4294967295 - (sb : Int) by omega] at this
                        have c3 := u32_or_nat (sb &&& sc) (4294967295 - sb &&& sd) (and_lt32 ob) (and_lt32 (by omega))
                        have hF : fN 0 sb sc sd = ((sb &&& sc) ||| ((4294967295 - sb) &&& sd)) := by simp [fN, chN, parN, majN]
                        have hFl := hf0 0
                        have hsx : stepH 0 wt ⟨sa, sb, sc, sd, se⟩ = ⟨(rotN sa 5 + fN 0 sb sc sd + se + 1518500249 + wt) % 4294967296, sa, rotN sb 30, sc, sd⟩ := rfl
                        rw [hst.out.symm] at hsx
                        rw [hF] at hsx hFl
                        have hst := Lib.hid hsx
                        clear hF hq hf0 hsx
                        go_wp2_with fail
                        go_quiet (first | (go_at_call 17; exact Calls.quiet_of_same (r5 _)))
                        generalize ((sb &&& sc) ||| ((4294967295 - sb) &&& sd)) = fq at *
                        have hk7 := HK6.out.drewN nq
                        obtain ⟨na, hna⟩ : ∃ na : Nat, na = (rotN sa 5 + fq + se + 1518500249 + wt) % 4294967296 := ⟨_, rfl⟩
                        have hnj : ((((rotN sa 5 : Nat) : Int) + (fq : Int) + (se : Int) + 1518500249) % 4294967296 + (wt : Int)) % 4294967296 = (na : Int) := by omega
                        rw [hnj]
                        have HNA := Lib.hid hna
                        have HK7 := Lib.hid hk7
                        generalize w6.drewN nq = w7 at *
                        clear hnj hna hk7 ci r5 p1 p2
                        go_wp2_with fail
                        refine (left_calls sb 30 ob (by simp) _).mono ?_
                        rintro e w8 ⟨rfl, rfl⟩
                        go_wp2_with fail
                        go_roundw
                        case measure => simp [intOf]; omega
                        case rel =>
                          exact ⟨t + 1, na, sa, rotN sb 30, sc, sd, by omega, by go_num, by rw [hst.out, HNA.out], rfl, rfl, rfl, rfl, rfl, HK7.out⟩
                        -- q0>
                      · skip
                        -- <q1
                        have hq : t / 20 = 1 := by omega
                        rw [hq] at hst
                        have hF : fN 1 sb sc sd = ((sb ^^^ sc) ^^^ sd) := by simp [fN, chN, parN, majN]
                        have hFl := hf0 1
                        have hsx : stepH 1 wt ⟨sa, sb, sc, sd, se⟩ = ⟨(rotN sa 5 + fN 1 sb sc sd + se + 1859775393 + wt) % 4294967296, sa, rotN sb 30, sc, sd⟩ := rfl
                        rw [hst.out.symm] at hsx
                        rw [hF] at hsx hFl
                        have hst := Lib.hid hsx
                        clear hF hq hf0 hsx
                        go_wp2_with fail
                        go_quiet (first | (go_at_call 17; exact Calls.quiet_of_same (r5 _)))
                        generalize ((sb ^^^ sc) ^^^ sd) = fq at *
                        have hk7 := HK6.out.drewN nq
                        obtain ⟨na, hna⟩ : ∃ na : Nat, na = (rotN sa 5 + fq + se + 1859775393 + wt) % 4294967296 := ⟨_, rfl⟩
                        have hnj : ((((rotN sa 5 : Nat) : Int) + (fq : Int) + (se : Int) + 1859775393) % 4294967296 + (wt : Int)) % 4294967296 = (na : Int) := by omega
                        rw [hnj]
                        have HNA := Lib.hid hna
                        have HK7 := Lib.hid hk7
                        generalize w6.drewN nq = w7 at *
                        clear hnj hna hk7 ci r5 p1 p2
                        go_wp2_with fail
                        refine (left_calls sb 30 ob (by simp) _).mono ?_
                        rintro e w8 ⟨rfl, rfl⟩
                        go_wp2_with fail
                        go_roundw
                        case measure => simp [intOf]; omega
                        case rel =>
                          exact ⟨t + 1, na, sa, rotN sb 30, sc, sd, by omega, by go_num, by rw [hst.out, HNA.out], rfl, rfl, rfl, rfl, rfl, HK7.out⟩
                        -- q1>
                      · skip
                        -- <q2
                        have hq : t / 20 = 2 := by omega
                        rw [hq] at hst
                        have c1 := u32_and_nat sb sc ob oc
                        have c2 := u32_and_nat sb sd ob od
                        have c3 := u32_or_nat (sb &&& sc) (sb &&& sd) (and_lt32 ob) (and_lt32 ob)
                        have c4 := u32_and_nat sc sd oc od
                        have c5 := u32_or_nat ((sb &&& sc) ||| (sb &&& sd)) (sc &&& sd) (or_lt32 (and_lt32 ob) (and_lt32 ob)) (and_lt32 oc)
                        have hF : fN 2 sb sc sd = (((sb &&& sc) ||| (sb &&& sd)) ||| (sc &&& sd)) := by simp [fN, chN, parN, majN]
                        have hFl := hf0 2
                        have hsx : stepH 2 wt ⟨sa, sb, sc, sd, se⟩ = ⟨(rotN sa 5 + fN 2 sb sc sd + se + 2400959708 + wt) % 4294967296, sa, rotN sb 30, sc, sd⟩ := rfl
                        rw [hst.out.symm] at hsx
                        rw [hF] at hsx hFl
                        have hst := Lib.hid hsx
                        clear hF hq hf0 hsx
                        go_wp2_with fail
                        go_quiet (first | (go_at_call 17; exact Calls.quiet_of_same (r5 _)))
                        generalize (((sb &&& sc) ||| (sb &&& sd)) ||| (sc &&& sd)) = fq at *
                        have hk7 := HK6.out.drewN nq
                        obtain ⟨na, hna⟩ : ∃ na : Nat, na = (rotN sa 5 + fq + se + 2400959708 + wt) % 4294967296 := ⟨_, rfl⟩
                        have hnj : ((((rotN sa 5 : Nat) : Int) + (fq : Int) + (se : Int) + 2400959708) % 4294967296 + (wt : Int)) % 4294967296 = (na : Int) := by omega
                        rw [hnj]
                        have HNA := Lib.hid hna
                        have HK7 := Lib.hid hk7
                        generalize w6.drewN nq = w7 at *
                        clear hnj hna hk7 ci r5 p1 p2
                        go_wp2_with fail
                        refine (left_calls sb 30 ob (by simp) _).mono ?_
                        rintro e w8 ⟨rfl, rfl⟩
                        go_wp2_with fail
                        go_roundw
                        case measure => simp [intOf]; omega
                        case rel =>
                          exact ⟨t + 1, na, sa, rotN sb 30, sc, sd, by omega, by go_num, by rw [hst.out, HNA.out], rfl, rfl, rfl, rfl, rfl, HK7.out⟩
                        -- q2>
                      · skip
                        -- <q3
                        have hq : t / 20 = 3 := by omega
                        rw [hq] at hst
                        have hF : fN 3 sb sc sd = ((sb ^^^ sc) ^^^ sd) := by simp [fN, chN, parN, majN]
                        have hFl := hf0 3
                        have hsx : stepH 3 wt ⟨sa, sb, sc, sd, se⟩ = ⟨(rotN sa 5 + fN 3 sb sc sd + se + 3395469782 + wt) % 4294967296, sa, rotN sb 30, sc, sd⟩ := rfl
                        rw [hst.out.symm] at hsx
                        rw [hF] at hsx hFl
                        have hst := Lib.hid hsx
                        clear hF hq hf0 hsx
                        go_wp2_with fail
                        go_quiet (first | (go_at_call 17; exact Calls.quiet_of_same (r5 _)))
                        generalize ((sb ^^^ sc) ^^^ sd) = fq at *
                        have hk7 := HK6.out.drewN nq
                        obtain ⟨na, hna⟩ : ∃ na : Nat, na = (rotN sa 5 + fq + se + 3395469782 + wt) % 4294967296 := ⟨_, rfl⟩
                        have hnj : ((((rotN sa 5 : Nat) : Int) + (fq : Int) + (se : Int) + 3395469782) % 4294967296 + (wt : Int)) % 4294967296 = (na : Int) := by omega
                        rw [hnj]
                        have HNA := Lib.hid hna
                        have HK7 := Lib.hid hk7
                        generalize w6.drewN nq = w7 at *
                        clear hnj hna hk7 ci r5 p1 p2
                        go_wp2_with fail
                        refine (left_calls sb 30 ob (by simp) _).mono ?_
                        rintro e w8 ⟨rfl, rfl⟩
                        go_wp2_with fail
                        go_roundw
                        case measure => simp [intOf]; omega
                        case rel =>
                          exact ⟨t + 1, na, sa, rotN sb 30, sc, sd, by omega, by go_num, by rw [hst.out, HNA.out], rfl, rfl, rfl, rfl, rfl, HK7.out⟩
                        -- q3>
                    · skip
                      -- <x6
                      obtain rfl : t = 80 := by omega
                      rw [show ((80 : Nat) : Int) = (80 : Int) from rfl]
                      have hh6 := HH4.out.kp hk6 id
                      have hq6 := HQ4.out.next hk6
                      have hmx := HM.out
                      rw [hrs] at hmx
                      have d0 := hh6.c0
                      have d1 := hh6.c1
                      have d2 := hh6.c2
                      have d3 := hh6.c3
                      have d4 := hh6.c4
                      have f0 := hh6.fz 0 (by decide)
                      have f1 := hh6.fz 1 (by decide)
                      have f2 := hh6.fz 2 (by decide)
                      have f3 := hh6.fz 3 (by decide)
                      have f4 := hh6.fz 4 (by decide)
                      have hs5 := hh6.store5 (blocksTo PP (k + 1))
                      have hk5 := kp_store5 w6 gh (blocksTo PP (k + 1))
                      have e0 : ((h0.a : Int) + (sa : Int)) % 4294967296 = ((blocksTo PP (k + 1)).a : Int) := by rw [hmx]; simp [addH]
                      have e1 : ((h0.b : Int) + (sb : Int)) % 4294967296 = ((blocksTo PP (k + 1)).b : Int) := by rw [hmx]; simp [addH]
                      have e2 : ((h0.c : Int) + (sc : Int)) % 4294967296 = ((blocksTo PP (k + 1)).c : Int) := by rw [hmx]; simp [addH]
                      have e3 : ((h0.d : Int) + (sd : Int)) % 4294967296 = ((blocksTo PP (k + 1)).d : Int) := by rw [hmx]; simp [addH]
                      have e4 : ((h0.e : Int) + (se : Int)) % 4294967296 = ((blocksTo PP (k + 1)).e : Int) := by rw [hmx]; simp [addH]
                      have E0 := Lib.hid e0
                      have E1 := Lib.hid e1
                      have E2 := Lib.hid e2
                      have E3 := Lib.hid e3
                      have E4 := Lib.hid e4
                      have HS5 := Lib.hid hs5
                      have HK5 := Lib.hid hk5
                      have HQ6 := Lib.hid hq6
                      clear hh6 hq6 hmx hrs hs5 hk5 e0 e1 e2 e3 e4 hk6
                      go_wp2_with fail
                      rw [E0.out, E1.out, E2.out, E3.out, E4.out]
                      go_roundw
                      case measure => have := HLT.out; simp [intOf]; omega
                      case rel => exact ⟨k + 1, HLT.out, by first | go_num | (simp; omega), HS5.out, HQ6.out.trans HK5.out⟩
                      -- x6>
            · skip
              -- <xN
              have hkN : k = N := by omega
              subst hkN
              have hw0 := A2.out.lt
              have hghw := World.block_lt_of_cell? wr _ hh.c0
              simp only at hghw
              have hok := blocksTo_ok PP k
              have hsh := HSH.out
              have r2 := (A2.out.nob HK10.out).kp hq (show ¬ (w.heap.size = gh) by omega)
              have kq := (K0.out.trans HK10.out).step hq fun i hi hf => by have h1 : i = gh := hf; omega
              generalize blocksTo PP k = h at *
              have hz := zero20
              have a5 := Arr.made 23 wr (bvs z20) (by rw [bvs_length]; decide)
              have k5 : Kp NoB wr (wr.alloc (.cells (bvs z20).toArray 23)) := (Kp.refl _ _).alloc _
              have hh5 := hh.kp k5 id
              have r25 := r2.nob k5
              have kq5 := kq.trans k5
              have HA5 := Lib.hid a5
              have HH5 := Lib.hid hh5
              have HR5 := Lib.hid r25
              have HKQ := Lib.hid kq5
              have HSH2 := Lib.hid hsh
              have HOK := Lib.hid hok
              clear hw0 hok hsh r2 kq a5 k5 hh5 r25 kq5 hq hh
              go_wp2_with fail
              clear hz
              have A5 := HA5.out
              have HH5 := HH5.out
              have HR5 := HR5.out
              have HKQ := HKQ.out
              generalize wr.alloc (.cells (bvs z20).toArray 23) = w11 at *
              obtain ⟨go, hgo⟩ : ∃ go, go = wr.heap.size := ⟨_, rfl⟩
              have hwgo : w.heap.size < go := by have := A2.out.lt; omega
              rw [← hgo] at A5 hghw ⊢
              have HH5 := Lib.hid HH5
              have HR5 := Lib.hid HR5
              have HKQ := Lib.hid HKQ
              clear HA5 hgo
              go_loopw [22] (fun i w12 => ∃ n : Nat, n ≤ 5 ∧ i = .int .i64 (n : Int) ∧ Arr 23 w12 go go (bvs (outTo h (4 * n))) ∧ Kp (fun b => b = go) w11 w12) (fun i _ => 5 - (intOf i).toNat)
              case atStart => exact ⟨0, Nat.zero_le _, rfl, A5, Kp.refl _ _⟩
              case round =>
                rename World => w12
                obtain ⟨n, hn, rfl, ha, hk12⟩ := hrel
                clear A5
                by_cases hn5 : n < 5
                · have ci := (HH5.out.kp hk12 (show ¬ (gh = go) by omega)).wd n hn5
                  have hwl := wdH_lt h HOK.out n
                  have hm0 := midO_zero h n hn5
                  rw [← hm0] at ha
                  have HA := Lib.hid ha
                  have HK12 := Lib.hid hk12
                  clear ha hk12 hm0
                  go_wp2_with fail
                  clear ci
                  go_loopw [23, 24] (fun x i w13 => ∃ j : Nat, j ≤ 4 ∧ x = .int .u32 ((wdH h n / 256 ^ j : Nat) : Int) ∧ i = .int .i64 (3 - (j : Int)) ∧ Arr 23 w13 go go (bvs (midO h n j)) ∧ Kp (fun b => b = go) w11 w13) (fun _ i _ => (intOf i + 1).toNat)
                  case atStart => exact ⟨0, Nat.zero_le _, by rw [Nat.pow_zero, Nat.div_one], rfl, HA.out, HK12.out⟩
                  case round =>
                    rename World => w13
                    obtain ⟨j, hj, rfl, rfl, ha, hk13⟩ := hrel
                    clear HA HK12
                    by_cases hj4 : j < 4
                    · have hcc := ha.at_ (4 * n + (3 - j)) (by rw [bvs_length, midO_length h n j hn5 hj]; omega)
                      replace hcc : ∃ cv, w13.cell? ⟨go, 4 * n + (3 - j), none⟩ = some cv := ⟨_, hcc⟩
                      obtain ⟨cv, hcc⟩ := hcc
                      have hff := ha.fz (4 * n + (3 - j))
                      have hput := ha.putB (4 * n + (3 - j)) (wdH h n / 256 ^ j)
                      rw [midO_set h n j hn5 hj4] at hput
                      have hdv : wdH h n / 256 ^ (j + 1) = wdH h n / 256 ^ j / 256 := by rw [Nat.pow_succ, Nat.div_div_eq_div_mul]
                      have hml : wdH h n / 256 ^ j < 4294967296 := Nat.lt_of_le_of_lt (Nat.div_le_self _ _) hwl
                      have HDV := Lib.hid hdv
                      clear hdv
                      generalize wdH h n / 256 ^ j = m at *
                      have i1 : (4 * (n : Int) + (3 - (j : Int))).toNat = 4 * n + (3 - j) := by omega
                      have HP := Lib.hid hput
                      have HK13 := Lib.hid hk13
                      clear ha hk13 hput
                      go_wp2_with fail
                      go_roundw
                      case measure => simp [intOf]; omega
                      case rel => exact ⟨j + 1, by omega, by rw [HDV.out]; go_num, by go_num, HP.out, HK13.out.setCell (.inr rfl) _⟩
                    · obtain rfl : j = 4 := by omega
                      have hm4 := midO_four h n hn5
                      rw [hm4] at ha
                      have HA := Lib.hid ha
                      have HK13 := Lib.hid hk13
                      clear ha hk13 hm4
                      go_wp2_with fail
                      go_roundw
                      case measure => simp [intOf]; omega
                      case rel => exact ⟨n + 1, by omega, by go_num, HA.out, HK13.out⟩
                · obtain rfl : n = 5 := by omega
                  have hot : outTo h (4 * 5) = outH h := rfl
                  rw [hot] at ha
                  have hr3 := ha.range
                  have r2w := HR5.out.kp hk12 (show ¬ (w.heap.size = go) by omega)
                  have ht2 := r2w.there
                  have hl3 : (bvs (outH h)).length = 20 := by rw [bvs_length, outH_length]
                  have hl2 : (bvs z20).length = 20 := by rw [bvs_length]; rfl
                  rw [hl2] at ht2
                  have HK12 := Lib.hid (HKQ.out.step hk12 fun i hi hf => by have h1 : i = go := hf; omega)
                  have HA := Lib.hid ha
                  have HR2W := Lib.hid r2w
                  have HL3 := Lib.hid hl3
                  have HL2 := Lib.hid hl2
                  clear ha r2w hk12 hl3 hl2 hot
                  go_wp2_with (first
                    | ((with_reducible refine gate_dst (N := 221) rfl ?_); go_must (refine wpList_load_mid rfl 23 _ rfl _ 0 rfl (bvs (outH h)) _ hr3 Tryd.underlying23 rfl (by rw [HL3.out]; kernel_rfl) ?_))
                    | ((with_reducible refine gate_op (Op.store 23 (.tmp 2) (.tmp 221)) rfl ?_); go_must (refine wpList_store_mid rfl 23 _ _ rfl w.heap.size 0 (bvs (outH h)).toArray rfl rfl (by simpa [HL3.out] using ht2) (by rw [List.size_toArray, HL3.out]; kernel_rfl) (all_oneCell_toArray (bvs_one _)) ?_))
                    | fail)
                  have hl : (bvs (outH h)).length = (bvs z20).length := by rw [HL3.out, HL2.out]
                  have hw := HR2W.out.setWhole (bvs (outH h)) hl
                  exact bodyPost_ret (results_cell_row rfl _ _ w.heap.size 23 (bvs (outH h)).toArray (0, 0) _ rfl hw.heap Tryd.underlying23 rfl (by rw [List.size_toArray, HL3.out]; kernel_rfl)) rfl ⟨by rw [HSH2.out], Kp.setCells _ (.inl (Nat.le_refl _)) _ _ _ HK12.out⟩
              -- xN>
    · skip
      -- <loop1
      have hm : (((l.length : Int) + 1 + (j : Int)) % 64 != 56) = true := by simp; exact fun h => hlt (hiff.1 (by omega))
      have hsn : (l ++ 128 :: List.replicate j (0 : UInt8)) ++ [0] = l ++ 128 :: List.replicate (j + 1) 0 := by rw [List.replicate_succ']; simp
      have HSN := Lib.hid hsn
      clear ho hk hlen hiff hsn
      go_wp2_with (first
        | ((with_reducible refine gate_dst (N := 37) rfl ?_); go_must (refine wp_appK (w0 := w0) byteT NoB rfl _ _ rfl _ _ (l ++ 128 :: List.replicate j 0) [0] rfl rfl (fun _ => True) (HO.out.nob ((Kp.refl _ _).alloc _)) (HK.out.alloc _) ((BS.lit _ _ _ _ [0] 1 rfl rfl (by simp)).mono fun _ _ _ => trivial) (by simp; omega) ?_); intro v3 w3 ho3 hk3; rw [HSN.out] at ho3)
        | fail)
      have hsv : slen v3 = l.length + 1 + (j + 1) := by
        obtain ⟨A, c, he⟩ := ho3.bs.len
        rw [he]
        show (l ++ 128 :: List.replicate (j + 1) (0 : UInt8)).length = _
        simp; omega
      have HO3 := Lib.hid ho3
      have HSV := Lib.hid hsv
      clear ho3 hsv
      go_roundw
      case rel => exact ⟨j + 1, by omega, HO3.out, hk3⟩
      case measure => rw [HSV.out]; simp [slen]; omega
      -- loop1>
end Go.Proofs.YtdplpcmpjkcocaaDoor
