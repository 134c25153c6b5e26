/- The walk of the law FrameBits: it returns true. -/
import Derived.Test.YtgjaggnpheoehaaDoorFrameBack
import Derived.Test.YtgjaggnpheoehaaDoorCrcLaw
set_option linter.unusedVariables false
set_option linter.unusedSimpArgs false
namespace Go.Proofs.YtgjaggnpheoehaaDoor
open Go.RowKit

def bitB (r : Nat) : UInt8 := UInt8.ofNat (2 ^ r)
theorem shl_bit (r : Nat) (h : r < 8) : IntKind.u8.wrap ((2 : Int) ^ r) = (((bitB r).toNat : Nat) : Int) := by
  match r, h with
  | 0, _ | 1, _ | 2, _ | 3, _ | 4, _ | 5, _ | 6, _ | 7, _ => rfl
  | n + 8, h => omega
theorem bitB_ne (r : Nat) (h : r < 8) (c : UInt8) : c ^^^ bitB r ≠ c := by
  intro e
  have h2 : bitB r = 0 := by
    have := congrArg (c ^^^ ·) e
    simpa [← UInt8.xor_assoc] using this
  match r, h with
  | 0, _ | 1, _ | 2, _ | 3, _ | 4, _ | 5, _ | 6, _ | 7, _ => revert h2; decide
  | n + 8, h => omega

set_option maxRecDepth 100000 in
set_option maxHeartbeats 4000000 in
theorem frameBits_walk (lp : List UInt8) (vp : Value) (a n bit o : Nat) (w : World) (hT : TabOk w) (ha : a < 4294967296) (hn : n < 4294967296) (hbit : bit < 65536) (ho : o < 4294967296) (hp : BS AllB w vp lp) :
    Calls Tryd.prog 6 #[vp, .int .u32 a, .int .u32 n, .int .u16 bit, .int .u32 o] w fun e w' => e = .returned (.bool true) ∧ Kp NoB w w' := by
  obtain ⟨kp, vp', hm1, hs1, hp'⟩ := BS.clip byteT hp 300 300 rfl
  have hpl : (lp.take 300).length ≤ 300 := by simp; omega
  obtain ⟨A1, c1, rfl⟩ := hp.len
  generalize lp.take 300 = p at *
  clear hp
  go_enter Tryd.func6, Tryd.ntmps6
  go_wp2_with fail
  clear hm1 hs1
  refine (seal_calls a n p _ _ hT ha hn hp' (by omega)).mono ?_
  rintro e w1 ⟨vs, rfl, hs1, hk1⟩
  have hz := length_sealN a n p
  obtain ⟨As, cs, rfl⟩ := hs1.bs.len
  rw [hz]
  have hzb := hs1.bs.all
  rw [hz] at hzb
  clear hs1 hp'
  have hpos : (0 : Int) < 8 * (10 + (p.length : Int)) := by omega
  go_wp2_with (first
    | ((with_reducible refine gate_dst (N := 53) rfl ?_); go_must (refine wp_appK (w0 := w1) byteT NoB rfl _ _ rfl _ _ [] _ rfl rfl AllB (Own.nil _ _ _) (Kp.refl _ _) hzb (by rw [hz]; simp; omega) ?_); intro v2 w2 ho2 hk2; rw [List.nil_append] at ho2)
    | fail)
  have hkk : ((bit : Int) % (8 * (10 + (p.length : Int)))) = ((bit % (8 * (10 + p.length)) : Nat) : Int) := by simp
  have hklt : bit % (8 * (10 + p.length)) < 8 * (10 + p.length) := Nat.mod_lt _ (by omega)
  rw [hkk]
  generalize bit % (8 * (10 + p.length)) = k at *
  clear hkk hpos
  obtain ⟨i, hi⟩ : ∃ i : Nat, Hid (i = k / 8) := ⟨_, rfl⟩
  obtain ⟨r, hr⟩ : ∃ r, r = k % 8 := ⟨_, rfl⟩
  have hki : (k : Int) / 8 = (i : Int) := by have := hi.out; omega
  have hkr : (k : Int) % 8 = (r : Int) := by omega
  have hr8 : r < 8 := by omega
  have hil : i < 10 + p.length := by have := hi.out; omega
  obtain ⟨Ao, co, rfl⟩ := ho2.bs.len
  obtain ⟨g, rfl, hg1, hg2⟩ := ho2.form (by omega)
  obtain ⟨hc, hf⟩ := ho2.cell i (by omega)
  rw [hz] at ho2 ⊢
  obtain ⟨ch, hch⟩ : ∃ ch, ch = (sealN a n p)[i]'(by omega) := ⟨_, rfl⟩
  rw [← hch] at hc
  unfold bv at hc
  have hcb := u8_lt ch
  have hbb := u8_lt (bitB r)
  have hxor : bits .xor .u8 (ch.toNat : Int) ((bitB r).toNat : Int) = (((ch ^^^ bitB r).toNat : Nat) : Int) := by
    rw [UInt8.toNat_xor]
    exact u8_xor_nat ch.toNat (bitB r).toNat hcb hbb
  have hne := bitB_ne r hr8 ch
  have hput := ho2.put i (ch ^^^ bitB r)
  generalize ch ^^^ bitB r = dd at *
  generalize hbr : (bitB r).toNat = br at *
  have HC := Lib.hid hch
  have HZ := Lib.hid hz
  clear hr hch
  have hilI : (i : Int) < 10 + (p.length : Int) := by omega
  have hi0 : 0 ≤ (i : Int) := by omega
  have hr0 : 0 ≤ (r : Int) := by omega
  have htm : (k : Int).tmod 8 = (r : Int) := by rw [Int.tmod_eq_emod_of_nonneg (by omega)]; exact hkr
  have hsh := shl_bit r hr8
  have hwi := wrap_nat (i := i) (by omega)
  go_still_tail 10, (by kernel_rfl)
  change wpList _ _ _ _ _ w2.drew
  clear hwi htm hsh hxor hkr hbr
  have hkw := (hk2.setCell (p := ⟨g, i, none⟩) (.inl hg1) (bv dd)).drew
  have hlen2 : ((sealN a n p).set i dd).length = 10 + p.length := by rw [List.length_set]; exact hz
  have hcb2 : BS AllB (w2.setCell ⟨g, i, none⟩ (bv dd)).drew (.slice (some ⟨g, 0, none⟩) (10 + p.length) co) ((sealN a n p).set i dd) := by
    have h := (hput.bs.all).nob ((Kp.refl NoB _).drew)
    exact h
  have hk0w := hk1.trans hkw
  have hzw := hzb.nob hkw
  have hzl : sealN a n p ++ [] = sealN a n p := List.append_nil _
  have hx : ((openE a o (sealN a n p) : Int) == 0) = ((o : Int) == (n : Int)) := by
    by_cases e : o = n
    · have := open_seal a n p [] (by omega) hn
      rw [hzl] at this
      rw [e, this]
      simp
    · rw [open_other a n o p (by omega) hn e]
      have : ((o : Int) == (n : Int)) = false := by simp; omega
      rw [this]
      rfl
  have hy : ((openE o n (sealN a n p) : Int) == 0) = ((o : Int) == (a : Int)) := by
    by_cases e : o = a
    · have := open_seal a n p [] (by omega) hn
      rw [hzl] at this
      rw [e, this]
      simp
    · rw [open_ahead a n o p (by omega) hn ha ho e]
      have : ((o : Int) == (a : Int)) = false := by simp; omega
      rw [this]
      rfl
  have hff : 2 ≤ i → openE a n ((sealN a n p).set i dd) = 11 := fun h2 => open_flip a n p (by omega) hn i h2 (by omega) dd (by rw [← HC.out]; exact hne)
  have HX := Lib.hid hx
  have HY := Lib.hid hy
  have HF := Lib.hid hff
  have hfl := openE_lt a n ((sealN a n p).set i dd)
  clear hx hy hff hzl
  go_wp2_with fail
  refine (open_uni a n _ _ _ (hT.nob hk0w) ha hn hcb2).mono ?_
  rintro e w4 ⟨v4, rfl, ho4, hk4⟩
  have hk04 := hk0w.trans hk4
  have hz4 := hzw.nob hk4
  clear ho4 hk4 hk0w hzw hcb2 hput
  generalize openE a n ((sealN a n p).set i dd) = f at *
  generalize oN a n ((sealN a n p).set i dd) = f1 at *
  generalize oS a n ((sealN a n p).set i dd) = f2 at *
  by_cases h2 : 2 ≤ i
  · have hf11 := HF.out h2
    subst hf11
    have h2I : (2 : Int) ≤ (i : Int) := by omega
    go_wp2_with fail
    refine (open_uni a o _ _ _ (hT.nob hk04) ha ho hz4).mono ?_
    rintro e w5 ⟨v5, rfl, ho5, hk5⟩
    have hk05 := hk04.trans hk5
    have hz5 := hz4.nob hk5
    clear ho5 hk5 hk04 hz4
    have hx := HX.out
    generalize openE a o (sealN a n p) = x at *
    generalize oN a o (sealN a n p) = x1 at *
    generalize oS a o (sealN a n p) = x2 at *
    go_wp2_with fail
    refine (open_uni o n _ _ _ (hT.nob hk05) ho hn hz5).mono ?_
    rintro e w6 ⟨v6, rfl, ho6, hk6⟩
    have hk06 := hk05.trans hk6
    clear ho6 hk6 hk05 hz5
    have hy := HY.out
    generalize openE o n (sealN a n p) = y at *
    generalize oN o n (sealN a n p) = y1 at *
    generalize oS o n (sealN a n p) = y2 at *
    have hT6 := hT.nob hk06
    go_wp2_with (go_at_call 20; refine (tells_calls _ hT6).mono ?_; rintro e w9 ⟨rfl, hk9⟩)
    go_ret
    exact ⟨rfl, hk06.trans hk9⟩
  · have h2I : ¬ (2 : Int) ≤ (i : Int) := by omega
    have h2D : decide ((2 : Int) ≤ (i : Int)) = false := by simp; omega
    go_wp2_with fail
    refine (open_uni a o _ _ _ (hT.nob hk04) ha ho hz4).mono ?_
    rintro e w5 ⟨v5, rfl, ho5, hk5⟩
    have hk05 := hk04.trans hk5
    have hz5 := hz4.nob hk5
    clear ho5 hk5 hk04 hz4
    have hx := HX.out
    generalize openE a o (sealN a n p) = x at *
    generalize oN a o (sealN a n p) = x1 at *
    generalize oS a o (sealN a n p) = x2 at *
    go_wp2_with fail
    refine (open_uni o n _ _ _ (hT.nob hk05) ho hn hz5).mono ?_
    rintro e w6 ⟨v6, rfl, ho6, hk6⟩
    have hk06 := hk05.trans hk6
    clear ho6 hk6 hk05 hz5
    have hy := HY.out
    generalize openE o n (sealN a n p) = y at *
    generalize oN o n (sealN a n p) = y1 at *
    generalize oS o n (sealN a n p) = y2 at *
    have hT6 := hT.nob hk06
    go_wp2_with (go_at_call 20; refine (tells_calls _ hT6).mono ?_; rintro e w9 ⟨rfl, hk9⟩)
    go_ret
    exact ⟨rfl, hk06.trans hk9⟩
end Go.Proofs.YtgjaggnpheoehaaDoor
