/- The plain law of the check: two checks differ where the bytes differ within one byte, or within the first four. -/
import Derived.Test.YtgjaggnpheoehaaDoorFrameLaw
set_option linter.unusedVariables false
set_option linter.unusedSimpArgs false
namespace Go.Proofs.YtgjaggnpheoehaaDoor

theorem bstep_inj {x y : Nat} (hx : x < 4294967296) (hy : y < 4294967296) (h : bstepN x = bstepN y) : x = y := by
  have top : ∀ z, z < 2147483648 → (z ^^^ 3988292384).testBit 31 = true := by
    intro z hz
    rw [Nat.testBit_xor, Nat.testBit_lt_two_pow (x := z) (i := 31) (by omega)]
    decide
  have low : ∀ z, z < 2147483648 → z.testBit 31 = false := fun z hz => Nat.testBit_lt_two_pow (by omega)
  unfold bstepN at h
  split at h <;> split at h
  · rename_i h1 h2
    have e : x / 2 = y / 2 := by
      have := congrArg (· ^^^ 3988292384) h
      simpa [Nat.xor_assoc] using this
    omega
  · rename_i h1 h2
    have := congrArg (·.testBit 31) h
    simp only [top (x / 2) (by omega), low (y / 2) (by omega)] at this
    cases this
  · rename_i h1 h2
    have := congrArg (·.testBit 31) h
    simp only [top (y / 2) (by omega), low (x / 2) (by omega)] at this
    cases this
  · omega
theorem half_inj {x y : Nat} (hx : x < 4294967296) (hy : y < 4294967296) (h : halfN x = halfN y) : x = y := by
  rw [← bstep4, ← bstep4] at h
  have b1 := bstepN_lt hx
  have c1 := bstepN_lt hy
  exact bstep_inj hx hy (bstep_inj b1 c1 (bstep_inj (bstepN_lt b1) (bstepN_lt c1) (bstep_inj (bstepN_lt (bstepN_lt b1)) (bstepN_lt (bstepN_lt c1)) h)))
def eightN (x : Nat) : Nat := halfN (halfN x)
theorem eight_lt {x : Nat} (h : x < 4294967296) : eightN x < 4294967296 := halfN_lt (halfN_lt h)
theorem eight_inj {x y : Nat} (hx : x < 4294967296) (hy : y < 4294967296) (h : eightN x = eightN y) : x = y := half_inj hx hy (half_inj (halfN_lt hx) (halfN_lt hy) h)
theorem xor_cancel {a b c : Nat} (h : a ^^^ b = a ^^^ c) : b = c := by
  have := congrArg (a ^^^ ·) h
  simpa [← Nat.xor_assoc] using this
theorem xor_cancel' {a b c : Nat} (h : b ^^^ a = c ^^^ a) : b = c := by
  rw [Nat.xor_comm b, Nat.xor_comm c] at h
  exact xor_cancel h
theorem step_inj {r s : Nat} (hr : r < 4294967296) (hs : s < 4294967296) (c : UInt8) (h : stepN r c = stepN s c) : r = s := by
  have hc := u8_lt c
  exact xor_cancel' (eight_inj (xor_lt32 hr (by omega)) (xor_lt32 hs (by omega)) h)
theorem step_inj_byte {r : Nat} (hr : r < 4294967296) (c d : UInt8) (h : stepN r c = stepN r d) : c = d := by
  have hc := u8_lt c
  have hd := u8_lt d
  exact UInt8.toNat_inj.1 (xor_cancel (eight_inj (xor_lt32 hr (by omega)) (xor_lt32 hr (by omega)) h))
theorem crcFrom_inj : ∀ (l : List UInt8) {r s : Nat}, r < 4294967296 → s < 4294967296 → crcFrom r l = crcFrom s l → r = s
  | [], _, _, _, _, h => h
  | c :: l, _, _, hr, hs, h => step_inj hr hs c (crcFrom_inj l (stepN_lt hr c) (stepN_lt hs c) h)
theorem crcN_inj {l m : List UInt8} (h : crcN l = crcN m) : crcFrom 4294967295 l = crcFrom 4294967295 m := by
  have h1 := crcFrom_lt l 4294967295 (by decide)
  have h2 := crcFrom_lt m 4294967295 (by decide)
  unfold crcN at h
  omega
/-- One byte is another one. -/
theorem crc_byte (x y : List UInt8) (c d : UInt8) (h : crcN (x ++ c :: y) = crcN (x ++ d :: y)) : c = d := by
  have h := crcN_inj h
  rw [crcFrom_append, crcFrom_append] at h
  have hx := crcFrom_lt x 4294967295 (by decide)
  exact step_inj_byte hx c d (crcFrom_inj y (stepN_lt hx c) (stepN_lt hx d) h)

/-! The register is linear -/
theorem xor_lc (a b c : Nat) : a ^^^ (b ^^^ c) = b ^^^ (a ^^^ c) := by rw [← Nat.xor_assoc, Nat.xor_comm a, Nat.xor_assoc]
theorem bstep_lin (x y : Nat) : bstepN (x ^^^ y) = bstepN x ^^^ bstepN y := by
  have e := xor_mod2 x y
  have d := xor_div2 x y
  unfold bstepN
  rw [d, e]
  rcases Nat.mod_two_eq_zero_or_one x with h | h <;> rcases Nat.mod_two_eq_zero_or_one y with h' | h' <;> rw [h, h']
  · simp
  · simp [Nat.xor_assoc]
  · simp only [if_true, Nat.reduceEqDiff, if_false]
    simp [Nat.xor_assoc]
    rw [Nat.xor_comm (y / 2)]
  · simp [Nat.xor_assoc]
    rw [xor_lc 3988292384 (y / 2), Nat.xor_self, Nat.xor_zero]
theorem half_lin (x y : Nat) : halfN (x ^^^ y) = halfN x ^^^ halfN y := by
  rw [← bstep4, ← bstep4, ← bstep4, bstep_lin, bstep_lin, bstep_lin, bstep_lin]
theorem eight_lin (x y : Nat) : eightN (x ^^^ y) = eightN x ^^^ eightN y := by unfold eightN; rw [half_lin, half_lin]
theorem half_16 (z : Nat) : halfN (16 * z) = z := by
  unfold halfN
  rw [show 16 * z / 16 = z by omega, show 16 * z % 16 = 0 by omega]
  simp [tabN]
theorem eight_256 (z : Nat) : eightN (256 * z) = z := by
  unfold eightN
  rw [show 256 * z = 16 * (16 * z) by omega, half_16, half_16]
def leN : List UInt8 → Nat
  | [] => 0
  | c :: l => c.toNat ^^^ 256 * leN l
def eights : Nat → Nat → Nat
  | 0, x => x
  | k + 1, x => eights k (eightN x)
theorem crc_le : ∀ (l : List UInt8) (r : Nat), crcFrom r l = eights l.length (r ^^^ leN l)
  | [], r => by simp [crcFrom, eights, leN]
  | c :: l, r => by
    show crcFrom (stepN r c) l = _
    rw [crc_le l]
    simp only [List.length_cons, eights, leN]
    congr 1
    rw [← Nat.xor_assoc, eight_lin, eight_256]
    rfl
theorem eights_inj : ∀ (k : Nat) {x y : Nat}, x < 4294967296 → y < 4294967296 → eights k x = eights k y → x = y
  | 0, _, _, _, _, h => h
  | k + 1, _, _, hx, hy, h => eight_inj hx hy (eights_inj k (eight_lt hx) (eight_lt hy) h)
theorem le_cons (c : UInt8) (z : Nat) : (c.toNat ^^^ 256 * z) = 256 * z + c.toNat := by
  have hc := u8_lt c
  have h1 := Nat.shiftRight_xor_distrib (a := c.toNat) (b := 256 * z) (i := 8)
  have h2 := @Nat.xor_mod_two_pow c.toNat (256 * z) 8
  rw [Nat.shiftRight_eq_div_pow, Nat.shiftRight_eq_div_pow, Nat.shiftRight_eq_div_pow] at h1
  rw [show (2 : Nat) ^ 8 = 256 from rfl] at h1 h2
  rw [show c.toNat / 256 = 0 by omega, show 256 * z / 256 = z by omega, Nat.zero_xor] at h1
  rw [show c.toNat % 256 = c.toNat by omega, show 256 * z % 256 = 0 by omega, Nat.xor_zero] at h2
  omega
theorem le_inj : ∀ (l m : List UInt8), l.length = m.length → leN l = leN m → l = m
  | [], [], _, _ => rfl
  | c :: l, d :: m, hl, h => by
    simp only [leN, le_cons] at h
    have hc := u8_lt c
    have hd := u8_lt d
    have e1 : c.toNat = d.toNat := by omega
    have e2 : leN l = leN m := by omega
    rw [UInt8.toNat_inj.1 e1, le_inj l m (by simpa using hl) e2]
theorem le_lt4 (l : List UInt8) (h : l.length = 4) : leN l < 4294967296 := by
  match l, h with
  | [a, b, c, d], _ =>
    simp only [leN, le_cons]
    have := u8_lt a
    have := u8_lt b
    have := u8_lt c
    have := u8_lt d
    omega
/-- The first four bytes are others. -/
theorem crc_four (x y m : List UInt8) (hx : x.length = 4) (hy : y.length = 4) (h : crcN (x ++ m) = crcN (y ++ m)) : x = y := by
  have h := crcN_inj h
  rw [crcFrom_append, crcFrom_append] at h
  have h := crcFrom_inj m (crcFrom_lt x _ (by decide)) (crcFrom_lt y _ (by decide)) h
  rw [crc_le, crc_le, hx, hy] at h
  have h := eights_inj 4 (xor_lt32 (by decide) (le_lt4 x hx)) (xor_lt32 (by decide) (le_lt4 y hy)) h
  exact le_inj x y (by rw [hx, hy]) (xor_cancel h)

/-! Frames -/
theorem sum_ahead {a o n : Nat} {p : List UInt8} (ha : a < 4294967296) (ho : o < 4294967296) (hp : p.length ≤ 16384) (h : sumN o n p = sumN a n p) : o = a := by
  unfold sumN at h
  rw [if_neg (by omega), if_neg (by omega), List.append_assoc, List.append_assoc, List.append_assoc, List.append_assoc] at h
  exact be4_inj ho ha (crc_four _ _ _ rfl rfl h)
theorem open_other (a n o : Nat) (p : List UInt8) (hp : p.length ≤ 16384) (hn : n < 4294967296) (hne : o ≠ n) : openE a o (sealN a n p) = 11 := by
  have hl := length_sealN a n p
  have e1 := size_seal a n p [] hp
  have e2 := seal_mid2 a n p []
  rw [List.append_nil] at e1 e2
  unfold openE
  rw [e1, e2, num_be4 n hn, if_neg (by omega), if_neg (by omega), if_neg (by omega), if_neg (fun h => hne h.1.symm)]
theorem open_ahead (a n o : Nat) (p : List UInt8) (hp : p.length ≤ 16384) (hn : n < 4294967296) (ha : a < 4294967296) (ho : o < 4294967296) (hne : o ≠ a) : openE o n (sealN a n p) = 11 := by
  have hl := length_sealN a n p
  have e1 := size_seal a n p [] hp
  have e2 := seal_mid2 a n p []
  have e3 := seal_mid6 a n p []
  have e4 := seal_drop10 a n p []
  rw [List.append_nil] at e1 e2 e3 e4
  unfold openE
  rw [e1, e2, e3, e4, num_be4 n hn, num_be4 _ (sumN_lt _ _ _), if_neg (by omega), if_neg (by omega), if_neg (by omega), if_neg]
  rintro ⟨_, h⟩
  rw [List.append_nil, List.take_length] at h
  exact hne (sum_ahead ha ho hp h.symm)
/-- A byte behind the size is another one. -/
theorem open_flip (a n : Nat) (p : List UInt8) (hp : p.length ≤ 16384) (hn : n < 4294967296) (i : Nat) (hi : 2 ≤ i) (hl : i < (sealN a n p).length) (d : UInt8) (hd : d ≠ (sealN a n p)[i]) : openE a n ((sealN a n p).set i d) = 11 := by
  have hlen := length_sealN a n p
  have e1 := size_seal a n p [] hp
  rw [List.append_nil] at e1
  have hsz : sizeN ((sealN a n p).set i d) = p.length := by
    rw [← e1]
    unfold sizeN
    rw [List.take_set_of_le (by omega)]
  have hlen2 : ((sealN a n p).set i d).length = 10 + p.length := by rw [List.length_set, hlen]
  have h0 : openE a n ((sealN a n p).set i d) ≠ 0 := by
    intro h
    have hs := seal_open a n _ h
    rw [hsz, List.take_of_length_le (by omega)] at hs
    obtain ⟨_, _, h3, h4, h5⟩ := open_facts a n _ h
    by_cases h10 : i < 10
    · have hpay : payN ((sealN a n p).set i d) = p := by
        have e4 := pay_seal a n p [] hp
        rw [List.append_nil] at e4
        have e5 : payN ((sealN a n p).set i d) = payN (sealN a n p) := by
          unfold payN
          rw [hsz, e1, List.drop_set_of_lt (by omega)]
        exact e5.trans e4
      rw [hpay] at hs
      have := congrArg (·[i]?) hs
      simp only [List.getElem?_set_self hl, List.getElem?_eq_getElem hl, Option.some.injEq] at this
      exact hd this.symm
    · have e4 := seal_drop10 a n p []
      rw [List.append_nil, List.append_nil] at e4
      have hpay : payN ((sealN a n p).set i d) = p.set (i - 10) d := by
        unfold payN
        rw [hsz, List.drop_set, if_neg (by omega), e4]
        exact List.take_of_length_le (by simp)
      have hpi : i - 10 < p.length := by omega
      have hb : (sealN a n p)[i] = p[i - 10] := by
        have h1 : (sealN a n p)[i]? = ((sealN a n p).drop 10)[i - 10]? := by rw [List.getElem?_drop]; congr 1; omega
        rw [e4, List.getElem?_eq_getElem hl, List.getElem?_eq_getElem hpi] at h1
        exact Option.some.inj h1
      have hsum : sumN a n (p.set (i - 10) d) = sumN a n p := by
        rw [hpay] at h5
        rw [← h5]
        have e6 := seal_mid6 a n p []
        rw [List.append_nil] at e6
        rw [List.drop_set, if_neg (by omega), List.take_set_of_le (by omega), e6, num_be4 _ (sumN_lt _ _ _)]
      unfold sumN at hsum
      rw [if_neg (by simp; omega), if_neg (by omega), List.length_set] at hsum
      have hsplit : p = p.take (i - 10) ++ p[i - 10] :: p.drop (i - 10 + 1) := by
        rw [← List.drop_eq_getElem_cons hpi, List.take_append_drop]
      have hset : p.set (i - 10) d = p.take (i - 10) ++ d :: p.drop (i - 10 + 1) := List.set_eq_take_append_cons_drop .. |>.trans (by rw [if_pos hpi])
      rw [hset] at hsum
      have hsum2 : crcN ((be4 a ++ be4 n ++ be2 p.length ++ p.take (i - 10)) ++ d :: p.drop (i - 10 + 1)) = crcN ((be4 a ++ be4 n ++ be2 p.length ++ p.take (i - 10)) ++ p[i - 10] :: p.drop (i - 10 + 1)) := by
        rw [List.append_assoc _ _ (p[i - 10] :: _), ← hsplit, List.append_assoc _ _ (d :: _)]
        exact hsum
      rw [hb] at hd
      exact hd (crc_byte _ _ _ _ hsum2)
  unfold openE at h0 ⊢
  rw [hsz, hlen2] at h0 ⊢
  rw [if_neg (by omega), if_neg (by omega), if_neg (by omega)] at h0 ⊢
  split
  · rename_i h
    rw [if_pos h] at h0
    omega
  · rfl
end Go.Proofs.YtgjaggnpheoehaaDoor
