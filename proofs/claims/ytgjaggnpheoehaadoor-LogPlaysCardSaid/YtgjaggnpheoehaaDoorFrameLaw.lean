/- The plain law of frames: there and back, cut short, sealed again. -/
import Derived.Test.YtgjaggnpheoehaaDoorPlain
set_option linter.unusedVariables false
set_option linter.unusedSimpArgs false
namespace Go.Proofs.YtgjaggnpheoehaaDoor

theorem be2_length (n : Nat) : (be2 n).length = 2 := rfl
theorem be4_length (n : Nat) : (be4 n).length = 4 := rfl
theorem num_be2 (n : Nat) (h : n < 65536) : numN (be2 n) = n := by
  simp [numN, be2]
  omega
theorem num_be4 (n : Nat) (h : n < 4294967296) : numN (be4 n) = n := by
  simp [numN, be4]
  omega
theorem be4_inj {a b : Nat} (ha : a < 4294967296) (hb : b < 4294967296) (h : be4 a = be4 b) : a = b := by
  rw [← num_be4 a ha, ← num_be4 b hb, h]
/-- Two bytes are those of their number. -/
theorem be2_num (l : List UInt8) (h : l.length = 2) : be2 (numN l) = l := by
  match l, h with
  | [a, b], _ =>
    have := u8_lt a
    have := u8_lt b
    simp [numN, be2]
    apply UInt8.toNat_inj.1; simp; omega
theorem be4_num (l : List UInt8) (h : l.length = 4) : be4 (numN l) = l := by
  match l, h with
  | [a, b, c, d], _ =>
    have := u8_lt a
    have := u8_lt b
    have := u8_lt c
    have := u8_lt d
    simp [numN, be4]
    refine ⟨?_, ?_, ?_⟩ <;> apply UInt8.toNat_inj.1 <;> simp <;> omega

section
variable (a n : Nat) (p m : List UInt8)
theorem seal_take2 : (sealN a n p ++ m).take 2 = be2 p.length := by simp [sealN, be2]
theorem seal_mid2 : ((sealN a n p ++ m).drop 2).take 4 = be4 n := by simp [sealN, be2, be4]
theorem seal_mid6 : ((sealN a n p ++ m).drop 6).take 4 = be4 (sumN a n p) := by simp [sealN, be2, be4]
theorem seal_drop10 : (sealN a n p ++ m).drop 10 = p ++ m := by simp [sealN, be2, be4]
variable (hp : p.length ≤ 16384) (hn : n < 4294967296)
include hp
theorem size_seal : sizeN (sealN a n p ++ m) = p.length := by
  unfold sizeN
  rw [seal_take2, num_be2 _ (by omega)]
theorem pay_seal : payN (sealN a n p ++ m) = p := by
  unfold payN
  rw [size_seal a n p m hp, seal_drop10]
  simp
include hn
theorem open_seal : openE a n (sealN a n p ++ m) = 0 := by
  unfold openE
  have hl := length_sealN a n p
  rw [size_seal a n p m hp, seal_mid2, seal_mid6, seal_drop10, num_be4 n hn, num_be4 _ (sumN_lt _ _ _)]
  rw [if_neg (by simp; omega), if_neg (by omega), if_neg (by simp; omega), if_pos ⟨rfl, by simp⟩]
omit hn
/-- Cut short. -/
theorem open_cut (k : Nat) (hk : k < (sealN a n p).length) (a' n' : Nat) : openE a' n' ((sealN a n p).take k) = 4 := by
  have hl := length_sealN a n p
  unfold openE
  by_cases h10 : k < 10
  · rw [if_pos (by simp; omega)]
  · have hs : sizeN ((sealN a n p).take k) = p.length := by
      unfold sizeN
      rw [List.take_take, Nat.min_eq_left (by omega)]
      have := seal_take2 a n p []
      rw [List.append_nil] at this
      rw [this, num_be2 _ (by omega)]
    rw [hs, if_neg (by simp; omega), if_neg (by omega), if_pos (by simp; omega)]
end
/-- What is opened is, sealed again, the bytes that it was read of. -/
theorem open_facts (a n : Nat) (l : List UInt8) (h : openE a n l = 0) : sizeN l ≤ 16384 ∧ 10 + sizeN l ≤ l.length ∧ (payN l).length = sizeN l ∧ numN ((l.drop 2).take 4) = n ∧ numN ((l.drop 6).take 4) = sumN a n (payN l) := by
  unfold openE at h
  split at h
  · omega
  split at h
  · omega
  split at h
  · omega
  split at h
  · rename_i h1 h2 h3 h4
    exact ⟨by omega, by omega, by unfold payN; simp; omega, h4.1, h4.2⟩
  · omega
theorem seal_open (a n : Nat) (l : List UInt8) (h : openE a n l = 0) : sealN a n (payN l) = l.take (10 + sizeN l) := by
  obtain ⟨h1, h2, h3, h4, h5⟩ := open_facts a n l h
  have e1 : be2 (payN l).length = l.take 2 := by
    rw [h3]; unfold sizeN; exact be2_num _ (by simp; omega)
  have e2 : be4 n = (l.drop 2).take 4 := by rw [← h4]; exact be4_num _ (by simp; omega)
  have e3 : be4 (sumN a n (payN l)) = (l.drop 6).take 4 := by rw [← h5]; exact be4_num _ (by simp; omega)
  unfold sealN
  rw [e1, e2, e3]
  unfold payN
  rw [show 10 + sizeN l = 2 + (4 + (4 + sizeN l)) by omega]
  rw [List.take_add, List.take_add (l := l.drop 2), List.take_add (l := (l.drop 2).drop 4)]
  simp only [List.drop_drop, List.append_assoc]
/-! A row of frames -/
def chainS : Nat → Nat → List (List UInt8) → Nat
  | a, _, [] => a
  | a, n, p :: ps => chainS (sumN a n p) (n + 1) ps
def chainB : Nat → Nat → List (List UInt8) → List UInt8
  | _, _, [] => []
  | a, n, p :: ps => sealN a n p ++ chainB (sumN a n p) (n + 1) ps
theorem chainS_lt : ∀ (ps : List (List UInt8)) (a n : Nat), a < 4294967296 → chainS a n ps < 4294967296
  | [], _, _, h => h
  | p :: ps, _, _, _ => chainS_lt ps _ _ (sumN_lt _ _ _)
theorem chainS_append : ∀ (ps qs : List (List UInt8)) (a n : Nat), chainS a n (ps ++ qs) = chainS (chainS a n ps) (n + ps.length) qs
  | [], _, _, _ => rfl
  | p :: ps, qs, a, n => by
    simp only [List.cons_append, chainS, List.length_cons]
    rw [chainS_append ps qs]
    congr 1
    omega
theorem chainB_append : ∀ (ps qs : List (List UInt8)) (a n : Nat), chainB a n (ps ++ qs) = chainB a n ps ++ chainB (chainS a n ps) (n + ps.length) qs
  | [], _, _, _ => rfl
  | p :: ps, qs, a, n => by
    simp only [List.cons_append, chainB, chainS, List.length_cons, List.append_assoc]
    rw [chainB_append ps qs]
    congr 3
    omega
theorem chainB_length : ∀ (ps : List (List UInt8)) (a n : Nat), (chainB a n ps).length = 10 * ps.length + ps.flatten.length
  | [], _, _ => rfl
  | p :: ps, a, n => by
    simp only [chainB, List.length_append, length_sealN, chainB_length ps, List.length_cons, List.flatten_cons]
    omega
theorem chainB_split (ps : List (List UInt8)) (k : Nat) (h : k < ps.length) (a n : Nat) :
    (chainB a n ps).drop (chainB a n (ps.take k)).length = sealN (chainS a n (ps.take k)) (n + k) ps[k] ++ chainB (chainS a n (ps.take (k + 1))) (n + (k + 1)) (ps.drop (k + 1)) := by
  have e1 : ps = ps.take k ++ (ps[k] :: ps.drop (k + 1)) := by rw [← List.drop_eq_getElem_cons h, List.take_append_drop]
  have e2 : chainB a n ps = chainB a n (ps.take k) ++ (sealN (chainS a n (ps.take k)) (n + k) ps[k] ++ chainB (chainS a n (ps.take (k + 1))) (n + (k + 1)) (ps.drop (k + 1))) := by
    conv => lhs; rw [e1, chainB_append]
    have hk : (ps.take k).length = k := by simp; omega
    rw [hk]
    simp only [chainB]
    congr 2
    rw [List.take_succ_eq_append_getElem h, chainS_append, hk]
    simp only [chainS]
    congr 1
  rw [e2, List.drop_left]
theorem chain_snocB (ps : List (List UInt8)) (k : Nat) (h : k < ps.length) (a n : Nat) : chainB a n (ps.take (k + 1)) = chainB a n (ps.take k) ++ sealN (chainS a n (ps.take k)) (n + k) ps[k] := by
  have hk : (ps.take k).length = k := by simp; omega
  rw [List.take_succ_eq_append_getElem h, chainB_append, hk]
  simp [chainB]
theorem chain_snocS (ps : List (List UInt8)) (k : Nat) (h : k < ps.length) (a n : Nat) : chainS a n (ps.take (k + 1)) = sumN (chainS a n (ps.take k)) (n + k) ps[k] := by
  have hk : (ps.take k).length = k := by simp; omega
  rw [List.take_succ_eq_append_getElem h, chainS_append, hk]
  rfl
/-- Bytes 0 are no frame of a number above 0. -/
theorem open_zero (a n k : Nat) (m : List UInt8) (hn : 0 < n) : openE a n (List.replicate k 0 ++ m) ≠ 0 ∨ k < 6 := by
  by_cases hk : k < 6
  · exact .inr hk
  · refine .inl fun h => ?_
    obtain ⟨_, _, _, h4, _⟩ := open_facts a n _ h
    obtain ⟨j, rfl⟩ : ∃ j, k = 6 + j := ⟨k - 6, by omega⟩
    have e : ((List.replicate (6 + j) (0 : UInt8) ++ m).drop 2).take 4 = [0, 0, 0, 0] := by
      rw [show 6 + j = 2 + (4 + j) by omega, ← List.replicate_append_replicate, ← List.replicate_append_replicate]
      simp [List.append_assoc, List.drop_append, List.take_append]
    rw [e] at h4
    simp [numN] at h4
    omega
theorem open_zero30 (a n : Nat) (hn : 0 < n) : openE a n (List.replicate 30 0) = 11 := by
  have h := open_zero a n 30 [] hn
  rw [List.append_nil] at h
  rcases h with h | h
  · have e : sizeN (List.replicate 30 (0 : UInt8)) = 0 := by decide
    unfold openE at h ⊢
    rw [e] at h ⊢
    rw [if_neg (by decide), if_neg (by decide), if_neg (by decide)] at h ⊢
    split
    · rename_i h'
      rw [if_pos h'] at h
      omega
    · rfl
  · omega
end Go.Proofs.YtgjaggnpheoehaaDoor
