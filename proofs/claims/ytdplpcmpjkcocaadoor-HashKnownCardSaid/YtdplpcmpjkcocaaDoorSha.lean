/- SHA-1 and HMAC, as plain functions of lists of bytes. No program in sight. -/
import Derived.WalkKit
set_option linter.unusedVariables false
set_option linter.unusedSimpArgs false
namespace Go.Proofs.YtdplpcmpjkcocaaDoor

/-- A word turned left by k, 1 ≤ k ≤ 31. -/
def rotN (x k : Nat) : Nat := x * 2 ^ k % 4294967296 + x / 2 ^ (32 - k)
def chN (b c d : Nat) : Nat := (b &&& c) ||| ((4294967295 - b) &&& d)
def parN (b c d : Nat) : Nat := (b ^^^ c) ^^^ d
def majN (b c d : Nat) : Nat := ((b &&& c) ||| (b &&& d)) ||| (c &&& d)
def fN (q b c d : Nat) : Nat := if q = 0 then chN b c d else if q = 2 then majN b c d else parN b c d
def kN (q : Nat) : Nat := if q = 0 then 1518500249 else if q = 1 then 1859775393 else if q = 2 then 2400959708 else 3395469782
structure H5 where
  a : Nat
  b : Nat
  c : Nat
  d : Nat
  e : Nat
def H5.ok (h : H5) : Prop := h.a < 4294967296 ∧ h.b < 4294967296 ∧ h.c < 4294967296 ∧ h.d < 4294967296 ∧ h.e < 4294967296
def stepH (q w : Nat) (s : H5) : H5 := ⟨(rotN s.a 5 + fN q s.b s.c s.d + s.e + kN q + w) % 4294967296, s.a, rotN s.b 30, s.c, s.d⟩
def word4 (l : List UInt8) (j : Nat) : Nat := (((l.getD (4 * j) 0).toNat * 256 + (l.getD (4 * j + 1) 0).toNat) * 256 + (l.getD (4 * j + 2) 0).toNat) * 256 + (l.getD (4 * j + 3) 0).toNat
/-- The next word of a block's words. -/
def nextW (l : List UInt8) (ws : List Nat) (t : Nat) : Nat :=
  if t < 16 then word4 l t else rotN (((ws.getD (t - 3) 0 ^^^ ws.getD (t - 8) 0) ^^^ ws.getD (t - 14) 0) ^^^ ws.getD (t - 16) 0) 1
def wordsTo (l : List UInt8) : Nat → List Nat
  | 0 => []
  | t + 1 => wordsTo l t ++ [nextW l (wordsTo l t) t]
def roundsTo (ws : List Nat) (s : H5) : Nat → H5
  | 0 => s
  | t + 1 => stepH (t / 20) (ws.getD t 0) (roundsTo ws s t)
def addH (x y : H5) : H5 := ⟨(x.a + y.a) % 4294967296, (x.b + y.b) % 4294967296, (x.c + y.c) % 4294967296, (x.d + y.d) % 4294967296, (x.e + y.e) % 4294967296⟩
def mixN (h : H5) (l : List UInt8) : H5 := addH h (roundsTo (wordsTo l 80) h 80)
def beginH : H5 := ⟨1732584193, 4023233417, 2562383102, 271733878, 3285377520⟩
def padZ (n : Nat) : Nat := (119 - n % 64) % 64
def be8 (n : Nat) : List UInt8 := [UInt8.ofNat (n / 72057594037927936), UInt8.ofNat (n / 281474976710656), UInt8.ofNat (n / 1099511627776), UInt8.ofNat (n / 4294967296), UInt8.ofNat (n / 16777216), UInt8.ofNat (n / 65536), UInt8.ofNat (n / 256), UInt8.ofNat n]
def padded (l : List UInt8) : List UInt8 := l ++ 128 :: (List.replicate (padZ l.length) 0 ++ be8 (8 * l.length))
def blocksTo (all : List UInt8) : Nat → H5
  | 0 => beginH
  | k + 1 => mixN (blocksTo all k) ((all.drop (64 * k)).take 64)
def be4H (n : Nat) : List UInt8 := [UInt8.ofNat (n / 16777216), UInt8.ofNat (n / 65536), UInt8.ofNat (n / 256), UInt8.ofNat n]
def outH (h : H5) : List UInt8 := be4H h.a ++ (be4H h.b ++ (be4H h.c ++ (be4H h.d ++ be4H h.e)))
def shaN (l : List UInt8) : List UInt8 := outH (blocksTo (padded l) ((padded l).length / 64))
def key64 (key : List UInt8) : List UInt8 := let k := if 64 < key.length then shaN key else key
  k ++ List.replicate (64 - k.length) 0
def hmacN (key b : List UInt8) : List UInt8 := shaN ((key64 key).map (· ^^^ 0x5c) ++ shaN ((key64 key).map (· ^^^ 0x36) ++ b))

theorem sha_abc : shaN [97, 98, 99] = [0xa9, 0x99, 0x3e, 0x36, 0x47, 0x06, 0x81, 0x6a, 0xba, 0x3e, 0x25, 0x71, 0x78, 0x50, 0xc2, 0x6c, 0x9c, 0xd0, 0xd8, 0x9d] := by decide +kernel
end Go.Proofs.YtdplpcmpjkcocaaDoor
