/- What a crash leaves of frames that waited, and what is read of it: plain laws. -/
import Derived.Test.YtgjaggnpheoehaaDoorLogQ
set_option linter.unusedVariables false
set_option linter.unusedSimpArgs false
namespace Go.Proofs.YtgjaggnpheoehaaDoor
open Go.RowKit

/-- The frames of ps as they wait, one behind another, from o on. -/
def waitsF : Nat → Nat → Nat → List (List UInt8) → List (Nat × List UInt8)
  | _, _, _, [] => []
  | o, a, n, p :: ps => (o, sealN a n p) :: waitsF (o + (10 + p.length)) (sumN a n p) (n + 1) ps
theorem waitsF_snoc : ∀ (ps : List (List UInt8)) (o a n : Nat) (p : List UInt8), waitsF o a n (ps ++ [p]) = waitsF o a n ps ++ [(o + (chainB a n ps).length, sealN (chainS a n ps) (n + ps.length) p)]
  | [], o, a, n, p => by simp [waitsF, chainB, chainS]
  | x :: ps, o, a, n, p => by
    simp only [List.cons_append, waitsF, chainB, chainS, List.length_cons, List.length_append, length_sealN]
    rw [waitsF_snoc ps]
    congr 4
    · omega
    · congr 1
      omega
theorem waitsF_length : ∀ (ps : List (List UInt8)) (o a n : Nat), (waitsF o a n ps).length = ps.length
  | [], _, _, _ => rfl
  | x :: ps, o, a, n => by simp [waitsF, waitsF_length ps]
theorem waitsF_low : ∀ (ps : List (List UInt8)) (o a n : Nat), ∀ x ∈ waitsF o a n ps, o ≤ x.1
  | [], _, _, _, x, h => by cases h
  | p :: ps, o, a, n, x, h => by
    rcases List.mem_cons.1 h with rfl | h
    · exact Nat.le_refl _
    · exact Nat.le_trans (Nat.le_add_right _ _) (waitsF_low ps _ _ _ x h)
theorem over_shift (C Y b : List UInt8) (o : Nat) : overL (C ++ Y) (C.length + o) b = C ++ overL Y o b := by
  unfold overL
  split
  · rfl
  · unfold patchL padL
    have e1 : C.length + o + b.length - (C ++ Y).length = o + b.length - Y.length := by simp; omega
    rw [e1, List.append_assoc, List.take_append, List.take_of_length_le (Nat.le_add_right _ _), Nat.add_sub_cancel_left, List.append_assoc]
    congr 3
    rw [Nat.add_assoc, List.drop_append, List.drop_of_length_le (Nat.le_add_right _ _), Nat.add_sub_cancel_left, List.nil_append]
theorem crash_shift : ∀ (ps : List (List UInt8)) (ks : List Int) (C Y : List UInt8) (o a n : Nat), crashL (C ++ Y) (waitsF (C.length + o) a n ps) ks = C ++ crashL Y (waitsF o a n ps) ks
  | [], ks, C, Y, o, a, n => by cases ks <;> rfl
  | p :: ps, [], C, Y, o, a, n => rfl
  | p :: ps, k :: ks, C, Y, o, a, n => by
    simp only [waitsF, crashL]
    rw [over_shift, Nat.add_assoc, crash_shift ps ks]
/-- Where the writes that are kept end. -/
def endL : List (Nat × List UInt8) → List Int → Nat
  | (a, b) :: ds, k :: ks => max (if (b.take k.toNat).length = 0 then 0 else a + (b.take k.toNat).length) (endL ds ks)
  | _, _ => 0
theorem crash_len : ∀ (ds : List (Nat × List UInt8)) (ks : List Int) (s : List UInt8), (crashL s ds ks).length = max s.length (endL ds ks)
  | [], ks, s => by cases ks <;> simp [crashL, endL]
  | (a, b) :: ds, [], s => by simp [crashL, endL]
  | (a, b) :: ds, k :: ks, s => by
    simp only [crashL, endL]
    rw [crash_len ds ks, length_overL]
    split <;> omega
theorem crash_getD : ∀ (ds : List (Nat × List UInt8)) (ks : List Int) (s t : List UInt8), (∀ i, s.getD i 0 = t.getD i 0) → ∀ i, (crashL s ds ks).getD i 0 = (crashL t ds ks).getD i 0
  | [], ks, s, t, h, i => by cases ks <;> exact h i
  | (a, b) :: ds, [], s, t, h, i => h i
  | (a, b) :: ds, k :: ks, s, t, h, i => by
    simp only [crashL]
    refine crash_getD ds ks _ _ (fun j => ?_) i
    rw [over_get, over_get, h j]
theorem crash_low : ∀ (ds : List (Nat × List UInt8)) (ks : List Int) (s : List UInt8) (L i : Nat), (∀ x ∈ ds, L ≤ x.1) → i < L → (crashL s ds ks).getD i 0 = s.getD i 0
  | [], ks, s, L, i, _, _ => by cases ks <;> rfl
  | (a, b) :: ds, [], s, L, i, _, _ => rfl
  | (a, b) :: ds, k :: ks, s, L, i, h, hi => by
    simp only [crashL]
    have ha := h (a, b) (by simp)
    simp only at ha
    rw [crash_low ds ks _ L i (fun x hx => h x (by simp [hx])) hi, over_get, if_neg (by omega)]
theorem ext_getD {l m : List UInt8} (h : l.length = m.length) (hg : ∀ i, l.getD i 0 = m.getD i 0) : l = m := by
  apply List.ext_getElem h
  intro i h1 h2
  have := hg i
  rwa [List.getD_eq_getElem?_getD, List.getD_eq_getElem?_getD, List.getElem?_eq_getElem h1, List.getElem?_eq_getElem h2] at this
/-- A frame torn, filled up with bytes 0. -/
def tornN (a n : Nat) (p : List UInt8) (k : Int) : List UInt8 := (sealN a n p).take k.toNat ++ List.replicate (10 + p.length - k.toNat) 0
theorem tornN_length (a n : Nat) (p : List UInt8) (k : Int) : (tornN a n p k).length = 10 + p.length := by
  unfold tornN
  rw [List.length_append, List.length_take, length_sealN, List.length_replicate]
  omega
theorem take_getD (l : List UInt8) (k i : Nat) : (l.take k).getD i 0 = if i < k then l.getD i 0 else 0 := by
  rw [List.getD_eq_getElem?_getD, List.getD_eq_getElem?_getD, List.getElem?_take]
  split <;> rfl
theorem zeros_getD (z i : Nat) : (List.replicate z (0 : UInt8)).getD i 0 = 0 := by
  rw [List.getD_eq_getElem?_getD, List.getElem?_replicate]
  split <;> rfl
theorem append_getD (l m : List UInt8) (i : Nat) : (l ++ m).getD i 0 = if i < l.length then l.getD i 0 else m.getD (i - l.length) 0 := by
  rw [List.getD_eq_getElem?_getD, List.getD_eq_getElem?_getD, List.getD_eq_getElem?_getD, List.getElem?_append]
  split <;> rfl
theorem torn_getD (a n : Nat) (p : List UInt8) (k : Int) (i : Nat) (hi : i < 10 + p.length) : (tornN a n p k).getD i 0 = if i < k.toNat then (sealN a n p).getD i 0 else 0 := by
  unfold tornN
  rw [append_getD, List.length_take, length_sealN, take_getD, zeros_getD]
  split
  · rw [if_pos (by omega)]
  · rw [if_neg (by omega)]
theorem take_eq {l m : List UInt8} (L : Nat) (hl : L ≤ l.length) (hm : L ≤ m.length) (h : ∀ i, i < L → l.getD i 0 = m.getD i 0) : l.take L = m.take L := by
  refine ext_getD (by simp; omega) fun i => ?_
  rw [take_getD, take_getD]
  split
  · rename_i hi; exact h i hi
  · rfl
/-- What is opened of bytes whose first ones are a torn frame's. -/
theorem open_torn {X : List UInt8} {a n : Nat} {p : List UInt8} {k : Int} (hp : p.length ≤ 16384) (hn0 : 0 < n) (hn1 : n < 4294967296) (hX : ∀ i, i < 10 + p.length → X.getD i 0 = (tornN a n p k).getD i 0) (h : openE a n X = 0) :
    10 + p.length ≤ X.length ∧ X.take (10 + p.length) = tornN a n p k ∧ openE a n (tornN a n p k) = 0 ∧ payN (tornN a n p k) = payN X := by
  obtain ⟨f1, f2, f3, f4, f5⟩ := open_facts a n X h
  have hl := tornN_length a n p k
  have hs := length_sealN a n p
  have e10 : X.take 10 = (tornN a n p k).take 10 := take_eq 10 (by omega) (by omega) fun i hi => hX i (by omega)
  have hk : 2 < k.toNat := by
    refine Nat.lt_of_not_le fun hk => ?_
    have ez : (X.drop 2).take 4 = List.replicate 4 0 := by
      refine ext_getD (by simp; omega) fun i => ?_
      rw [take_getD, zeros_getD]
      split
      · rename_i hi
        rw [List.getD_eq_getElem?_getD, List.getElem?_drop, ← List.getD_eq_getElem?_getD, hX _ (by omega), torn_getD _ _ _ _ _ (by omega), if_neg (by omega)]
      · rfl
    rw [ez] at f4
    have : numN (List.replicate 4 0) = 0 := by decide
    omega
  have esz : sizeN X = p.length := by
    have e2 : X.take 2 = (sealN a n p).take 2 := take_eq 2 (by omega) (by omega) fun i hi => by rw [hX i (by omega), torn_getD _ _ _ _ _ (by omega), if_pos (by omega)]
    unfold sizeN
    rw [e2]
    have := size_seal a n p [] hp
    rw [List.append_nil] at this
    exact this
  have hXl : 10 + p.length ≤ X.length := by omega
  have eX : X.take (10 + p.length) = tornN a n p k := by
    have := take_eq (10 + p.length) hXl (by omega) hX
    rw [this, List.take_of_length_le (by omega)]
  have ep : payN X = payN (tornN a n p k) := by
    have es : sizeN (tornN a n p k) = p.length := by
      rw [← esz]
      unfold sizeN
      have := congrArg (List.take 2) e10
      rw [List.take_take, List.take_take] at this
      rw [show min 2 10 = 2 from rfl] at this
      rw [this]
    unfold payN
    rw [es, esz, ← eX, List.drop_take, List.take_take]
    congr 1
    omega
  refine ⟨hXl, eX, ?_, ep.symm⟩
  have hd := List.take_append_drop (10 + p.length) X
  rw [eX] at hd
  -- the torn frame, sealed again
  have hso := seal_open a n X h
  rw [esz, eX] at hso
  have := open_seal a n (payN X) [] (by omega) hn1
  rw [List.append_nil, hso] at this
  exact this
theorem chain_cons_open {a n : Nat} {p : List UInt8} {ps : List (List UInt8)} {X rest : List UInt8} (hp : p.length ≤ 16384) (hn : n < 4294967296) (h : X = chainB a n (p :: ps) ++ rest) : openE a n X = 0 ∧ payN X = p := by
  subst h
  simp only [chainB, List.append_assoc]
  exact ⟨open_seal a n p _ hp hn, pay_seal a n p _ hp⟩
/-- What is read of a crash: the first so many of what waited; or, at the first that is another, a torn frame that by chance is one. -/
theorem crash_read : ∀ (rem : List (List UInt8)) (ks : List Int) (z a n : Nat) (ps : List (List UInt8)) (rest : List UInt8), 0 < n → n + rem.length < 4294967296 → (∀ p ∈ rem, p.length ≤ 16384) → (∀ p ∈ ps, p.length ≤ 16384) →
    crashL (List.replicate z 0) (waitsF 0 a n rem) ks = chainB a n ps ++ rest →
    (ps.length ≤ rem.length ∧ ps = rem.take ps.length) ∨
    (∃ i p r k, ps.take i = rem.take i ∧ ps[i]? = some p ∧ rem[i]? = some r ∧ ks[i]? = some k ∧ p ≠ r ∧ openE (chainS a n (rem.take i)) (n + i) (tornN (chainS a n (rem.take i)) (n + i) r k) = 0 ∧ payN (tornN (chainS a n (rem.take i)) (n + i) r k) = p)
  | rem, ks, z, a, n, [], rest, _, _, _, _, _ => .inl ⟨Nat.zero_le _, by simp⟩
  | [], ks, z, a, n, p :: ps, rest, h0, hn, hr, hp, h => by
    exfalso
    have e : crashL (List.replicate z 0) (waitsF 0 a n []) ks = List.replicate z 0 := by cases ks <;> rfl
    rw [e] at h
    exact open_zeros a n z h0 (chain_cons_open (hp p (by simp)) (by simp at hn; omega) h).1
  | r :: rem, [], z, a, n, p :: ps, rest, h0, hn, hr, hp, h => by
    exfalso
    have e : crashL (List.replicate z 0) (waitsF 0 a n (r :: rem)) [] = List.replicate z 0 := rfl
    rw [e] at h
    exact open_zeros a n z h0 (chain_cons_open (hp p (by simp)) (by simp at hn; omega) h).1
  | r :: rem, k :: ks, z, a, n, p :: ps, rest, h0, hn, hr, hp, h => by
    have hr0 := hr r (by simp)
    have hp0 := hp p (by simp)
    have hn1 : n < 4294967296 := by simp at hn; omega
    obtain ⟨hE, hpay⟩ := chain_cons_open hp0 hn1 h
    have hX : ∀ i, i < 10 + r.length → (crashL (List.replicate z 0) (waitsF 0 a n (r :: rem)) (k :: ks)).getD i 0 = (tornN a n r k).getD i 0 := fun i hi => by
      simp only [waitsF, crashL]
      rw [crash_low _ _ _ (0 + (10 + r.length)) i (waitsF_low _ _ _ _) (by omega), over_get, torn_getD _ _ _ _ _ hi, zeros_getD, List.length_take, length_sealN, take_getD, Nat.sub_zero]
      by_cases hik : i < k.toNat
      · rw [if_pos (by omega), if_pos hik]
      · rw [if_neg (by omega), if_neg hik]
    obtain ⟨hl, ht, ho, hpt⟩ := open_torn hr0 h0 hn1 hX hE
    by_cases hpr : p = r
    · subst hpr
      -- the frame is whole
      have hwhole : tornN a n p k = sealN a n p := by
        rw [← ht, h]
        simp only [chainB, List.append_assoc]
        rw [List.take_left' (length_sealN a n p)]
      have hls := length_sealN a n p
      have hX2 : crashL (List.replicate z 0) (waitsF 0 a n (p :: rem)) (k :: ks) = sealN a n p ++ crashL (List.replicate (z - (10 + p.length)) 0) (waitsF 0 (sumN a n p) (n + 1) rem) ks := by
        rw [← crash_shift rem ks (sealN a n p) (List.replicate (z - (10 + p.length)) 0) 0, hls, Nat.add_zero]
        have hlen : (crashL (List.replicate z 0) (waitsF 0 a n (p :: rem)) (k :: ks)).length = max (overL (List.replicate z 0) 0 ((sealN a n p).take k.toNat)).length (endL (waitsF (10 + p.length) (sumN a n p) (n + 1) rem) ks) := by
          simp only [waitsF, crashL, Nat.zero_add]
          rw [crash_len]
        have hw' : ∀ j, j < 10 + p.length → (sealN a n p).getD j 0 = if j < k.toNat then (sealN a n p).getD j 0 else 0 := fun j hj => by
          rw [← torn_getD a n p k j hj, hwhole]
        refine ext_getD ?_ fun i => ?_
        · rw [hlen] at hl ⊢
          rw [crash_len, List.length_append, hls, List.length_replicate]
          rw [length_overL, List.length_take, hls, List.length_replicate] at hl ⊢
          generalize endL (waitsF (10 + p.length) (sumN a n p) (n + 1) rem) ks = E at *
          split at hl <;> rename_i hc
          · rw [if_pos hc]; omega
          · rw [if_neg hc]; omega
        · simp only [waitsF, crashL, Nat.zero_add]
          refine crash_getD _ _ _ _ (fun j => ?_) i
          rw [over_get, zeros_getD, Nat.zero_add, Nat.sub_zero, append_getD, hls, zeros_getD, List.length_take, hls, take_getD]
          by_cases hj : j < 10 + p.length
          · rw [if_pos hj, hw' j hj]
            by_cases hjk : j < k.toNat
            · rw [if_pos (by omega), if_pos hjk]
            · rw [if_neg (by omega), if_neg hjk]
          · rw [if_neg hj, if_neg (by omega)]
      rw [hX2] at h
      simp only [chainB, List.append_assoc] at h
      have h' := List.append_cancel_left h
      rcases crash_read rem ks _ (sumN a n p) (n + 1) ps rest (by omega) (by simp at hn; omega) (fun x hx => hr x (by simp [hx])) (fun x hx => hp x (by simp [hx])) h' with ⟨q1, q2⟩ | ⟨i, p', r', k', q1, q2, q3, q4, q5, q6, q7⟩
      · exact .inl ⟨by simp; omega, by simp only [List.length_cons, List.take_succ_cons]; rw [← q2]⟩
      · refine .inr ⟨i + 1, p', r', k', by simp [q1], by simpa using q2, by simpa using q3, by simpa using q4, q5, ?_, ?_⟩
        · simp only [List.take_succ_cons, chainS]
          rw [show n + (i + 1) = n + 1 + i by omega]
          exact q6
        · simp only [List.take_succ_cons, chainS]
          rw [show n + (i + 1) = n + 1 + i by omega]
          exact q7
    · exact .inr ⟨0, p, r, k, rfl, rfl, rfl, rfl, hpr, by simpa [chainS] using ho, by simpa [chainS] using (hpt.trans hpay)⟩
end Go.Proofs.YtgjaggnpheoehaaDoor
