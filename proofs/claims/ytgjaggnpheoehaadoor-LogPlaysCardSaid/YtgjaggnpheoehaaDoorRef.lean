/- The walks of the reference's frames: postriderref02. -/
import Derived.Test.YtgjaggnpheoehaaDoorFrame
set_option linter.unusedVariables false
set_option linter.unusedSimpArgs false
namespace Go.Proofs.YtgjaggnpheoehaaDoor
open Go.RowKit

set_option maxRecDepth 100000 in
theorem rbytes_calls (n m : Nat) (hn : n < 4294967296) (hm : m ≤ 4) (hm0 : 0 < m) (w : World) :
    Calls Tryd.prog 50 #[.int .u32 n, .int .i64 m] w fun e w' => ∃ v, e = .returned v ∧ Own 5 w' w.heap.size v (lowL m n) ∧ Kp NoB w w' := by
  have hmk := make_bytes byteT m (by omega) 
  go_enter Tryd.func50, Tryd.ntmps50
  go_wp2
  clear hmk
  go_loopw [0, 6] (fun x i wr => ∃ j : Nat, j ≤ m ∧ i = .int .i64 ((m : Int) - 1 - j) ∧ x = .int .u32 (n / 256 ^ j : Nat) ∧ Own 5 wr w.heap.size (.slice (some ⟨w.heap.size, 0, none⟩) m m) (List.replicate (m - j) 0 ++ lowL j n) ∧ Kp NoB w wr) (fun _ i _ => (intOf i + 1).toNat)
  case atStart => exact ⟨0, Nat.zero_le _, by simp, by simp, by simpa [lowL] using Own.made _ w m (by omega), (Kp.refl _ _).alloc _⟩
  case round =>
    obtain ⟨j, hj, rfl, rfl, ho, hk⟩ := hrel
    by_cases hlt : j < m
    · obtain ⟨i, hi⟩ : ∃ i : Nat, m = j + 1 + i := ⟨m - j - 1, by omega⟩
      subst hi
      have hlen : (List.replicate (j + 1 + i - j) (0 : UInt8) ++ lowL j n).length = j + 1 + i := by simp [lowL_length]; omega
      obtain ⟨hc, hf⟩ := ho.cell i (by rw [hlen]; omega)
      replace hc : ∃ cv, wr.cell? ⟨w.heap.size, i, none⟩ = some cv := ⟨_, hc⟩
      obtain ⟨cv, hc⟩ := hc
      obtain ⟨x, hx⟩ : ∃ x, x = n / 256 ^ j := ⟨_, rfl⟩
      have hx2 : x / 256 = n / 256 ^ (j + 1) := by rw [hx, Nat.div_div_eq_div_mul, Nat.pow_succ]
      have hx3 : x < 4294967296 := by rw [hx]; exact Nat.lt_of_le_of_lt (Nat.div_le_self _ _) hn
      have hput := ho.put i (UInt8.ofNat x)
      rw [show j + 1 + i - j = i + 1 by omega, put_low i j n _ (by rw [hx]), val_u8] at hput
      have HP := Lib.hid hput
      have HX2 := Lib.hid hx2
      have HK := Lib.hid hk
      rw [← hx]
      clear hput hx2 hx ho hlen hk
      go_wp2
      go_roundw
      case rel =>
        refine ⟨j + 1, by omega, congrArg (Value.int .i64) (by omega), congrArg (Value.int .u32) (by rw [← HX2.out]; omega), ?_, HK.out.setCell (.inl (Nat.le_refl _)) _⟩
        have e : j + 1 + i - (j + 1) = i := by omega
        rw [e]
        have e2 : ((x : Int) % 256) = ((x % 256 : Nat) : Int) := by omega
        rw [e2]
        exact HP.out
      case measure => simp [intOf]; omega
    · obtain rfl : j = m := by omega
      have e : j - j = 0 := by omega
      rw [e] at ho
      clear e
      have HO := Lib.hid ho
      have HK := Lib.hid hk
      clear ho hk
      have hneg : ¬ ((0 : Int) ≤ (j : Int) - 1 - j) := by omega
      go_wp2
      go_ret
      exact ⟨_, rfl, by simpa using HO.out, HK.out⟩

set_option maxRecDepth 100000 in
theorem rnumber_calls (l : List UInt8) (v : Value) (w : World) (hv : BS AllB w v l) (hl : l.length ≤ 4) (h0 : 0 < l.length) :
    Calls Tryd.prog 54 #[v] w fun e w' => e = .returned (.int .u32 (numN l : Nat)) ∧ w = w' := by
  obtain ⟨b, off, c', rfl, _, hcell⟩ := BS.pos hv l.length rfl h0
  go_enter Tryd.func54, Tryd.ntmps54
  go_wp2
  clear hv
  go_loop [3, 4] (fun n i => ∃ k : Nat, k ≤ l.length ∧ i = .int .i64 k ∧ n = .int .u32 (numN (l.take k) : Nat)) (fun _ i => l.length - (intOf i).toNat)
  case atStart => exact ⟨0, Nat.zero_le _, rfl, rfl⟩
  case round =>
    obtain ⟨k, hk, rfl, rfl⟩ := hrel
    by_cases hlt : k < l.length
    · have hc := hcell k (by omega)
      have hs := take_snoc l k (by omega)
      have hs2 := congrArg numN hs
      rw [numN_snoc] at hs2
      have hb : numN (l.take k) < 16777216 := by
        have h1 := numN_lt (l.take k)
        have h2 : (l.take k).length ≤ 3 := by simp; omega
        have h3 : 256 ^ (l.take k).length ≤ 256 ^ 3 := Nat.pow_le_pow_right (by decide) h2
        omega
      obtain ⟨ch, hch0⟩ : ∃ ch, ch = l[k]'(by omega) := ⟨_, rfl⟩
      rw [← hch0] at hc hs2
      clear hs hcell hch0
      have HS := Lib.hid hs2
      clear hs2
      generalize numN (l.take k) = x at *
      unfold bv at hc
      have hch := u8_lt ch
      go_wp2
      go_round
      case rel => exact ⟨k + 1, by omega, by go_num, by rw [HS.out]; go_num⟩
      case measure => simp [intOf]; omega
    · have hkm : k = l.length := by omega
      have e : numN (l.take k) = numN l := by rw [hkm, List.take_length]
      have HE := Lib.hid e
      clear hkm e hcell
      go_wp2
      go_ret
      exact ⟨ret_int (by rw [HE.out]), rfl⟩

set_option maxRecDepth 100000 in
theorem rcrc_calls (l : List UInt8) (v : Value) (w : World) (hv : BS AllB w v l) :
    Calls Tryd.prog 17 #[v] w fun e w' => e = .returned (.int .u32 (crcN l : Nat)) ∧ w = w' := by
  rcases hv.shape with ⟨rfl, A, c, rfl, _, _⟩ | ⟨h0, b, off, c, rfl, hc, hm, _, hcell⟩
  · clear hv
    go_enter Tryd.func17, Tryd.ntmps17
    go_wp2
    go_loop [3, 4] (fun r i => i = .int .i64 0 ∧ r = .int .u32 4294967295) (fun _ i => 1 - (intOf i).toNat)
    case atStart => exact ⟨rfl, rfl⟩
    case round =>
      obtain ⟨rfl, rfl⟩ := hrel
      go_wp2
      go_ret
      exact ⟨ret_int (by decide), rfl⟩
  · clear hv
    go_enter Tryd.func17, Tryd.ntmps17
    go_wp2
    go_loop [3, 4] (fun r i => ∃ k : Nat, k ≤ l.length ∧ i = .int .i64 k ∧ r = .int .u32 (crcFrom 4294967295 (l.take k) : Nat)) (fun _ i => l.length - (intOf i).toNat)
    case atStart => exact ⟨0, Nat.zero_le _, rfl, rfl⟩
    case round =>
      obtain ⟨k, hk, rfl, rfl⟩ := hrel
      have hlt0 := crcFrom_lt (l.take k) 4294967295 (by decide)
      by_cases hlt : k < l.length
      · have hs : Hid (crcFrom 4294967295 (l.take (k + 1)) = stepN (crcFrom 4294967295 (l.take k)) l[k]) := by rw [take_snoc l k hlt]; exact crcFrom_snoc _ _ _
        have hck := hcell k hlt
        clear hcell
        generalize crcFrom 4294967295 (l.take k) = r at *
        generalize l[k] = ch at *
        unfold bv at hck
        have hch := u8_lt ch
        obtain ⟨x, hx⟩ : ∃ x, x = r ^^^ ch.toNat := ⟨_, rfl⟩
        have hx32 : x < 4294967296 := by rw [hx]; exact xor_lt32 hlt0 (by omega)
        have e1 : bits .xor .u32 (r : Int) (ch.toNat : Int) = (x : Int) := by rw [hx]; exact u32_xor_nat r ch.toNat hlt0 (by omega)
        have HX := Lib.hid hx
        clear hx
        go_wp2
        clear e1
        go_loop [3, 5] (fun r j => ∃ q : Nat, q ≤ 8 ∧ j = .int .i64 q ∧ r = .int .u32 (bitsN q x : Nat)) (fun _ j => 8 - (intOf j).toNat)
        case atStart => exact ⟨0, Nat.zero_le _, rfl, rfl⟩
        case round =>
          obtain ⟨q, hq, rfl, rfl⟩ := hrel
          have hy32 := bitsN_lt q hx32
          have HB : Hid (bitsN (q + 1) x = bstepN (bitsN q x)) := rfl
          by_cases hq8 : q < 8
          · generalize bitsN q x = y at *
            by_cases hodd : y % 2 = 1
            · have t1 : (((y : Int) % 2) == 1) = true := by simp; omega
              have HO := Lib.hid hodd
              have e2 : bits .xor .u32 ((y : Int) / 2) 3988292384 = ((bstepN y : Nat) : Int) := by
                have := u32_xor_nat (y / 2) 3988292384 (by omega) (by decide)
                unfold bstepN
                rw [if_pos hodd, ← this]; rfl
              clear hodd
              go_wp2
              go_round
              case rel => exact ⟨q + 1, by omega, by go_num, by rw [HB.out]⟩
              case measure => simp [intOf]; omega
            · have t1 : (((y : Int) % 2) == 1) = false := by simp; omega
              have e2 : bstepN y = y / 2 := by unfold bstepN; rw [if_neg hodd]
              have H2 := Lib.hid e2
              clear hodd e2
              go_wp2
              go_round
              case rel => exact ⟨q + 1, by omega, by go_num, by rw [HB.out, H2.out]; go_num⟩
              case measure => simp [intOf]; omega
          · obtain rfl : q = 8 := by omega
            have e8 := bits8 x
            have H8 := Lib.hid e8
            clear e8 HB
            generalize bitsN 8 x = y at *
            go_wp2
            go_round
            case rel => exact ⟨k + 1, by omega, by go_num, by rw [hs.out]; unfold stepN; rw [← HX.out, ← H8.out]⟩
            case measure => simp [intOf]; omega
      · have hkl : k = l.length := by omega
        have hkl' := Lib.hid hkl
        clear hkl
        have hr := hlt0
        obtain ⟨r, hrr⟩ : ∃ r, crcFrom 4294967295 (l.take k) = r := ⟨_, rfl⟩
        rw [hrr] at hr ⊢
        have hrr' := Lib.hid hrr
        clear hrr hlt0
        go_wp2
        go_ret
        refine ⟨ret_int ?_, rfl⟩
        have e : crcN l = 4294967295 - r := by
          unfold crcN
          rw [← hrr'.out, hkl'.out, List.take_length]
        rw [e]
        omega
end Go.Proofs.YtgjaggnpheoehaaDoor
