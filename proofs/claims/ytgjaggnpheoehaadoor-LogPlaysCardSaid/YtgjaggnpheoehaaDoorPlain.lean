/- The plain functions of frames: checks, numbers in bytes, sums, forms, what Open tells. No program in sight. -/
import Derived.WalkKit
set_option linter.unusedVariables false
set_option linter.unusedSimpArgs false
namespace Go.Proofs.YtgjaggnpheoehaaDoor

def tabN (i : Nat) : Nat := [0x00000000, 0x1db71064, 0x3b6e20c8, 0x26d930ac, 0x76dc4190, 0x6b6b51f4, 0x4db26158, 0x5005713c, 0xedb88320, 0xf00f9344, 0xd6d6a3e8, 0xcb61b38c, 0x9b64c2b0, 0x86d3d2d4, 0xa00ae278, 0xbdbdf21c].getD i 0
theorem tabN_lt : ∀ i : Nat, i < 16 → tabN i < 4294967296 := by decide
/-- Four steps of the register. -/
def halfN (r : Nat) : Nat := (r / 16) ^^^ tabN (r % 16)
theorem xor_lt32 {a b : Nat} (ha : a < 4294967296) (hb : b < 4294967296) : a ^^^ b < 4294967296 := Nat.xor_lt_two_pow (n := 32) ha hb
theorem halfN_lt {r : Nat} (h : r < 4294967296) : halfN r < 4294967296 := xor_lt32 (by omega) (tabN_lt _ (by omega))
/-- A byte taken in. -/
def stepN (r : Nat) (c : UInt8) : Nat := halfN (halfN (r ^^^ c.toNat))
theorem u8_lt (c : UInt8) : c.toNat < 256 := c.toNat_lt
theorem stepN_lt {r : Nat} (h : r < 4294967296) (c : UInt8) : stepN r c < 4294967296 := halfN_lt (halfN_lt (xor_lt32 h (by have := u8_lt c; omega)))
def crcFrom (r : Nat) (l : List UInt8) : Nat := l.foldl stepN r
theorem crcFrom_lt : ∀ (l : List UInt8) (r : Nat), r < 4294967296 → crcFrom r l < 4294967296
  | [], _, h => h
  | c :: l, _, h => crcFrom_lt l _ (stepN_lt h c)
theorem crcFrom_snoc (r : Nat) (l : List UInt8) (c : UInt8) : crcFrom r (l ++ [c]) = stepN (crcFrom r l) c := by simp [crcFrom]
theorem crcFrom_append (r : Nat) (l m : List UInt8) : crcFrom r (l ++ m) = crcFrom (crcFrom r l) m := by simp [crcFrom]
def crcN (l : List UInt8) : Nat := 4294967295 - crcFrom 4294967295 l
theorem crcN_lt (l : List UInt8) : crcN l < 4294967296 := by unfold crcN; omega
def be2 (n : Nat) : List UInt8 := [UInt8.ofNat (n / 256), UInt8.ofNat n]
def be4 (n : Nat) : List UInt8 := [UInt8.ofNat (n / 16777216), UInt8.ofNat (n / 65536), UInt8.ofNat (n / 256), UInt8.ofNat n]
def numN (l : List UInt8) : Nat := l.foldl (fun n c => 256 * n + c.toNat) 0
def sumN (a n : Nat) (p : List UInt8) : Nat := if 16384 < p.length then 0 else crcN (be4 a ++ be4 n ++ be2 p.length ++ p)
theorem sumN_lt (a n : Nat) (p : List UInt8) : sumN a n p < 4294967296 := by unfold sumN; split; omega; exact crcN_lt _
def sealN (a n : Nat) (p : List UInt8) : List UInt8 := be2 p.length ++ be4 n ++ be4 (sumN a n p) ++ p
theorem length_sealN (a n : Nat) (p : List UInt8) : (sealN a n p).length = 10 + p.length := by simp [sealN, be2, be4]; omega
theorem take_snoc_ {α : Type} (l : List α) (k : Nat) (h : k < l.length) : l.take (k + 1) = l.take k ++ [l[k]] := List.take_succ_eq_append_getElem h
/-- How many bytes the payload has, as a frame's front tells it. -/
def sizeN (b : List UInt8) : Nat := numN (b.take 2)
/-- What Open tells as its error: 0, or which. -/
def openE (a n : Nat) (b : List UInt8) : Nat :=
  if b.length < 10 then 4 else if 16384 < sizeN b then 3 else if b.length < 10 + sizeN b then 4 else
  if numN ((b.drop 2).take 4) = n ∧ numN ((b.drop 6).take 4) = sumN a n ((b.drop 10).take (sizeN b)) then 0 else 11
def payN (b : List UInt8) : List UInt8 := (b.drop 10).take (sizeN b)
theorem xor_ones {r : Nat} (h : r < 4294967296) : 4294967295 ^^^ r = 4294967295 - r := by
  have h1 : (BitVec.allOnes 32 ^^^ BitVec.ofNat 32 r).toNat = (~~~ (BitVec.ofNat 32 r)).toNat := by rw [BitVec.allOnes_xor]
  rw [BitVec.toNat_xor, BitVec.toNat_not, BitVec.toNat_allOnes, BitVec.toNat_ofNat, Nat.mod_eq_of_lt (show r < 2 ^ 32 from h)] at h1
  exact h1
theorem not_u32 {r : Nat} (h : r < 4294967296) : bits .xor .u32 IntKind.u32.max (r : Int) = ((4294967295 - r : Nat) : Int) := by
  rw [← xor_ones h]
  exact u32_xor_nat 4294967295 r (by decide) h
theorem numN_snoc (l : List UInt8) (c : UInt8) : numN (l ++ [c]) = 256 * numN l + c.toNat := by simp [numN]
theorem numN_lt : ∀ (l : List UInt8), numN l < 256 ^ l.length := by
  intro l
  have h : ∀ (k : Nat), k ≤ l.length → numN (l.take k) < 256 ^ k := by
    intro k
    induction k with
    | zero => intro _; simp [numN]
    | succ k ih =>
      intro hk
      have := ih (by omega)
      rw [List.take_succ_eq_append_getElem (by omega), numN_snoc, Nat.pow_succ]
      have := u8_lt l[k]
      omega
  have := h l.length (Nat.le_refl _)
  rwa [List.take_length] at this
theorem sizeN_two (l : List UInt8) (h : 2 ≤ l.length) : sizeN l = 256 * (l[0]'(by omega)).toNat + (l[1]'(by omega)).toNat := by
  have e : l.take 2 = [l[0]'(by omega), l[1]'(by omega)] := by
    rw [take_snoc_ l 1 (by omega), take_snoc_ l 0 (by omega)]; simp
  unfold sizeN
  rw [e]
  simp [numN]
theorem or_join {x c : Nat} (h : c < 256) : x * 256 ||| c = 256 * x + c := by
  rw [nat_join 8 (x * 256) c (by omega) h]; omega
theorem take_snoc {α : Type} (l : List α) (k : Nat) (h : k < l.length) : l.take (k + 1) = l.take k ++ [l[k]] := List.take_succ_eq_append_getElem h

/-! The reference's register: bit by bit -/
def bstepN (r : Nat) : Nat := if r % 2 = 1 then r / 2 ^^^ 3988292384 else r / 2
theorem xor_div2 (a b : Nat) : (a ^^^ b) / 2 = a / 2 ^^^ b / 2 := by
  have := Nat.shiftRight_xor_distrib (a := a) (b := b) (i := 1)
  simpa [Nat.shiftRight_succ] using this
theorem xor_mod2 (a b : Nat) : (a ^^^ b) % 2 = (a % 2 + b % 2) % 2 := by
  have := @Nat.xor_mod_two_pow a b 1
  simp only [Nat.pow_one] at this
  rw [this]
  rcases Nat.mod_two_eq_zero_or_one a with h | h <;> rcases Nat.mod_two_eq_zero_or_one b with h' | h' <;> rw [h, h'] <;> decide
theorem bstep4 (x : Nat) : bstepN (bstepN (bstepN (bstepN x))) = halfN x := by
  obtain ⟨q, d, hd, rfl⟩ : ∃ q d, d < 16 ∧ x = 16 * q + d := ⟨x / 16, x % 16, Nat.mod_lt _ (by decide), by omega⟩
  have e1 : ∀ d, d < 16 → (16 * q + d) / 16 = q := fun d hd => by omega
  have e2 : ∀ d, d < 16 → (16 * q + d) % 16 = d := fun d hd => by omega
  have f1 : ∀ d, (16 * q + d) % 2 = d % 2 := fun d => by omega
  have f2 : ∀ d, (16 * q + d) / 2 = 8 * q + d / 2 := fun d => by omega
  have g1 : ∀ d, (8 * q + d) % 2 = d % 2 := fun d => by omega
  have g2 : ∀ d, (8 * q + d) / 2 = 4 * q + d / 2 := fun d => by omega
  have h1 : ∀ d, (4 * q + d) % 2 = d % 2 := fun d => by omega
  have h2 : ∀ d, (4 * q + d) / 2 = 2 * q + d / 2 := fun d => by omega
  have i1 : ∀ d, (2 * q + d) % 2 = d % 2 := fun d => by omega
  have i2 : ∀ d, (2 * q + d) / 2 = q + d / 2 := fun d => by omega
  have z1 : 16 * q % 2 = 0 := by omega
  have z2 : 16 * q / 2 = 8 * q := by omega
  have z3 : 8 * q % 2 = 0 := by omega
  have z4 : 8 * q / 2 = 4 * q := by omega
  have z5 : 4 * q % 2 = 0 := by omega
  have z6 : 4 * q / 2 = 2 * q := by omega
  have z7 : 2 * q % 2 = 0 := by omega
  have z8 : 2 * q / 2 = q := by omega
  unfold halfN
  rw [e1 d hd, e2 d hd]
  clear e1 e2
  match d, hd with
  | 0, _ | 1, _ | 2, _ | 3, _ | 4, _ | 5, _ | 6, _ | 7, _ | 8, _ | 9, _ | 10, _ | 11, _ | 12, _ | 13, _ | 14, _ | 15, _ =>
    simp [bstepN, z1, z2, z3, z4, z5, z6, z7, z8, f1, f2, g1, g2, h1, h2, i1, i2, xor_div2, xor_mod2, Nat.xor_assoc, tabN]
  | n + 16, h => omega
def bitsN : Nat → Nat → Nat
  | 0, x => x
  | k + 1, x => bstepN (bitsN k x)
theorem bstepN_lt {x : Nat} (h : x < 4294967296) : bstepN x < 4294967296 := by
  unfold bstepN; split
  · exact xor_lt32 (by omega) (by decide)
  · omega
theorem bitsN_lt (k : Nat) {x : Nat} (h : x < 4294967296) : bitsN k x < 4294967296 := by
  induction k with
  | zero => exact h
  | succ k ih => exact bstepN_lt ih
theorem bits8 (x : Nat) : bitsN 8 x = halfN (halfN x) := by
  simp only [bitsN]
  rw [bstep4, bstep4]
/-- The lowest j bytes, the highest first. -/
def lowL : Nat → Nat → List UInt8
  | 0, _ => []
  | j + 1, n => UInt8.ofNat (n / 256 ^ j) :: lowL j n
theorem lowL_length (j n : Nat) : (lowL j n).length = j := by induction j <;> simp_all [lowL]
theorem lowL2 (n : Nat) : lowL 2 n = be2 n := by simp [lowL, be2]
theorem lowL4 (n : Nat) : lowL 4 n = be4 n := by simp [lowL, be4]
theorem put_low (m j n : Nat) (b : UInt8) (hb : b = UInt8.ofNat (n / 256 ^ j)) : (List.replicate (m + 1) 0 ++ lowL j n).set m b = List.replicate m 0 ++ lowL (j + 1) n := by
  rw [List.replicate_succ', List.append_assoc]
  simp [lowL, hb]
end Go.Proofs.YtgjaggnpheoehaaDoor
