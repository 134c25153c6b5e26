/- What stands on a log's disk: plain laws; Recover and Append where it is known what stands there. -/
import Derived.Test.YtgjaggnpheoehaaDoorLogR
set_option linter.unusedVariables false
set_option linter.unusedSimpArgs false
namespace Go.Proofs.YtgjaggnpheoehaaDoor
open Go.RowKit

theorem parse_uniq : ∀ (ps ps' : List (List UInt8)) (a n : Nat) (r r' : List UInt8), a < 4294967296 → n + ps.length < 4294967296 → n + ps'.length < 4294967296 → (∀ p ∈ ps, p.length ≤ 16384) → (∀ p ∈ ps', p.length ≤ 16384) →
    chainB a n ps ++ r = chainB a n ps' ++ r' → openE (chainS a n ps) (n + ps.length) r ≠ 0 → openE (chainS a n ps') (n + ps'.length) r' ≠ 0 → ps = ps' ∧ r = r'
  | [], [], _, _, _, _, _, _, _, _, _, h, _, _ => ⟨rfl, by simpa [chainB] using h⟩
  | p :: ps, [], a, n, r, r', ha, hn, _, hp, _, h, _, h2 => by
    exfalso
    simp only [chainB, chainS, List.nil_append, List.length_nil, Nat.add_zero, List.append_assoc] at h h2
    rw [← h] at h2
    exact h2 (open_seal a n p _ (hp p (by simp)) (by simp at hn; omega))
  | [], p :: ps, a, n, r, r', ha, _, hn, _, hp, h, h2, _ => by
    exfalso
    simp only [chainB, chainS, List.nil_append, List.length_nil, Nat.add_zero, List.append_assoc] at h h2
    rw [h] at h2
    exact h2 (open_seal a n p _ (hp p (by simp)) (by simp at hn; omega))
  | p :: ps, p' :: ps', a, n, r, r', ha, hn, hn', hp, hp', h, h1, h2 => by
    simp only [chainB, chainS, List.append_assoc, List.length_cons] at h h1 h2 hn hn'
    have e1 := pay_seal a n p (chainB (sumN a n p) (n + 1) ps ++ r) (hp p (by simp))
    have e2 := pay_seal a n p' (chainB (sumN a n p') (n + 1) ps' ++ r') (hp' p' (by simp))
    rw [h, e2] at e1
    subst e1
    have h3 := List.append_cancel_left h
    obtain ⟨e3, e4⟩ := parse_uniq ps ps' (sumN a n p') (n + 1) r r' (sumN_lt _ _ _) (by omega) (by omega) (fun x hx => hp x (by simp [hx])) (fun x hx => hp' x (by simp [hx])) h3
      (by rw [show n + 1 + ps.length = n + (ps.length + 1) by omega]; exact h1) (by rw [show n + 1 + ps'.length = n + (ps'.length + 1) by omega]; exact h2)
    exact ⟨by rw [e3], e4⟩
theorem Parse.uniq {s : List UInt8} {ps ps' : List (List UInt8)} {r r' : List UInt8} (h : Parse s ps r) (h' : Parse s ps' r') (hs : s.length ≤ 1048576) : ps = ps' ∧ r = r' := by
  have l1 := lenC_len ps
  have l2 := lenC_len ps'
  have e1 : s.length = lenC ps + r.length := by rw [h.eq, List.length_append]; rfl
  have e2 : s.length = lenC ps' + r'.length := by rw [h'.eq, List.length_append]; rfl
  exact parse_uniq ps ps' 0 1 r r' (by decide) (by omega) (by omega) h.le h'.le (h.eq.symm.trans h'.eq) (by rw [Nat.add_comm]; exact h.no) (by rw [Nat.add_comm]; exact h'.no)
theorem open_nil (a n : Nat) : openE a n [] ≠ 0 := by unfold openE; rw [if_pos (by decide)]; decide
theorem open_zeros (a n z : Nat) (hn : 0 < n) : openE a n (List.replicate z 0) ≠ 0 := by
  by_cases h : z < 10
  · unfold openE
    rw [if_pos (by rw [List.length_replicate]; exact h)]
    decide
  · have := open_zero a n z [] hn
    rw [List.append_nil] at this
    exact this.resolve_right (by omega)
theorem open_short (a n : Nat) (l : List UInt8) (h : l.length < 10) : openE a n l ≠ 0 := by unfold openE; rw [if_pos h]; decide
/-- What stands: the frames of ps, and behind them bytes 0. -/
def standL (ps : List (List UInt8)) (z : Nat) : List UInt8 := chainB 0 1 ps ++ List.replicate z 0
theorem standL_length (ps : List (List UInt8)) (z : Nat) : (standL ps z).length = lenC ps + z := by simp [standL, lenC]
theorem stand_parse (ps : List (List UInt8)) (z : Nat) (hp : ∀ p ∈ ps, p.length ≤ 16384) : Parse (standL ps z) ps (List.replicate z 0) := ⟨rfl, hp, open_zeros _ _ _ (by omega)⟩
theorem over_end (s b : List UInt8) : overL s s.length b = s ++ b := by
  unfold overL
  split
  · rename_i h; rw [List.eq_nil_of_length_eq_zero h, List.append_nil]
  · unfold patchL padL
    rw [List.take_left' rfl, Nat.add_sub_cancel_left, List.drop_of_length_le (by simp)]
    simp
theorem over_at (s t b : List UInt8) (n : Nat) (hn : n = s.length) : overL (s ++ t) n b = s ++ (b ++ t.drop b.length) := by
  subst hn
  by_cases h : b.length = 0
  · obtain rfl := List.eq_nil_of_length_eq_zero h
    simp [overL]
  · unfold overL
    rw [if_neg h]
    unfold patchL padL
    rw [List.append_assoc, List.take_left' rfl]
    congr 2
    rw [← List.append_assoc, List.drop_append, List.drop_append]
    have e1 : (s.length + b.length) - s.length = b.length := by omega
    rw [e1, List.drop_of_length_le (show s.length ≤ s.length + b.length by omega)]
    simp
/-- Recover lays bytes 0 behind the frames. -/
theorem rec_seen {D : DD} {ps : List (List UInt8)} {rest : List UInt8} (hp : Parse D.seen ps rest) (hE : recE D ps rest = 0) : (recD D ps rest).seen = standL ps rest.length := by
  unfold recE at hE
  unfold recD
  by_cases h : rest.length = 0
  · rw [if_pos h, h]
    have := hp.eq
    rw [List.eq_nil_of_length_eq_zero h] at this
    exact this
  · rw [if_neg h] at hE ⊢
    unfold writeD
    rw [if_pos hE]
    show overL D.seen (lenC ps : Int).toNat _ = _
    rw [hp.eq, Int.toNat_natCast, over_at (chainB 0 1 ps) _ _ (lenC ps) rfl]
    simp [standL]
theorem rec_cap (D : DD) (ps : List (List UInt8)) (rest : List UInt8) : (recD D ps rest).cap = D.cap ∧ (recD D ps rest).full = D.full := by
  unfold recD writeD
  split
  · exact ⟨rfl, rfl⟩
  · split <;> exact ⟨rfl, rfl⟩
theorem recE_ok (D : DD) (ps : List (List UInt8)) (rest : List UInt8) (hp : Parse D.seen ps rest) (hf : D.full = false) (hc : D.seen.length ≤ D.cap) : recE D ps rest = 0 := by
  unfold recE
  split
  · rfl
  · unfold writeE
    have : D.seen.length = lenC ps + rest.length := by rw [hp.eq, List.length_append]; rfl
    rw [if_neg (by omega), if_neg (by rw [hf, List.length_replicate]; simp; omega)]
/-- Recover of a disk on which it is known what stands. -/
theorem lrecover_at {w : World} {F R : Nat → Prop} {q : Addr} {D : DD} {ps : List (List UInt8)} {rest : List UInt8} (hd : DiskIs w F R (.pointer (some q)) D) (hT : TabOk w) (hF0 : ¬ F 0) (hw : D.waits.length ≤ 1000000) (hp : Parse D.seen ps rest) (hf : D.full = false) (hc : D.seen.length ≤ D.cap) :
    Calls Tryd.prog 24 #[.pointer (some q)] w fun e w' => ∃ F' R' b vo us, e = .returned (.tuple #[.pointer (some ⟨b, 0, none⟩), vo, .int .i64 0]) ∧ Step F R w w' F' R' ∧ w.heap.size ≤ b ∧ ¬ F' b ∧ ¬ R' b ∧
      LogAt w' b (.pointer (some q)) ps ps.length ∧ DiskIs w' F' R' (.pointer (some q)) ⟨D.cap, false, standL ps rest.length, standL ps rest.length, []⟩ ∧ Vals (fun k => w.heap.size ≤ k ∧ ¬ F' k ∧ k ≠ b) w' vo us ∧ RS (fun k => w.heap.size ≤ k ∧ ¬ F' k ∧ k ≠ b) w' us ps := by
  have hsl := hd.seen_le
  refine (lrecover_calls hd hT hF0 hw).mono ?_
  rintro e w' ⟨ps', rest', F', R', hp', hs, h | h⟩
  · obtain ⟨rfl, rfl⟩ := hp'.uniq hp hsl
    obtain ⟨hE, b, vo, us, he, hb, hF, hR, hl, hdd, hv, hr⟩ := h
    refine ⟨F', R', b, vo, us, he, hs, hb, hF, hR, hl, ?_, hv, hr⟩
    have e1 := rec_seen hp' hE
    have e2 := rec_cap D ps' rest'
    have : syncD (recD D ps' rest') = ⟨D.cap, false, standL ps' rest'.length, standL ps' rest'.length, []⟩ := by
      unfold syncD
      rw [e1, e2.1, e2.2, hf]
    rwa [this] at hdd
  · obtain ⟨rfl, rfl⟩ := hp'.uniq hp hsl
    exact absurd (recE_ok D ps' rest' hp' hf hc) h.1
/-- Append's disk, where bytes 0 stand behind the frames. -/
theorem appE_ok (D : DD) (ps : List (List UInt8)) (z : Nat) (p : List UInt8) (hp : p.length ≤ 16384) (hs : D.seen = standL ps z) (hf : D.full = false) (hc : lenC ps + (10 + p.length) ≤ D.cap) : appE D ps p = 0 := by
  unfold appE
  rw [if_neg (by omega)]
  unfold writeE
  rw [if_neg (by rw [hs, standL_length]; omega), if_neg (by rw [hf, length_sealN]; simp; omega)]
theorem appD_is (D : DD) (ps : List (List UInt8)) (z : Nat) (p : List UInt8) (hs : D.seen = standL ps z) (h : appE D ps p = 0) :
    appD D ps p = ⟨D.cap, D.full, D.sure, standL (ps ++ [p]) (z - (10 + p.length)), D.waits ++ [(lenC ps, sealN (chainS 0 1 ps) (ps.length + 1) p)]⟩ := by
  have hw : writeE D (lenC ps : Nat) (sealN (chainS 0 1 ps) (ps.length + 1) p) = 0 := by
    unfold appE at h
    split at h
    · omega
    · exact h
  unfold appD writeD
  rw [if_pos hw]
  have e : overL D.seen (lenC ps) (sealN (chainS 0 1 ps) (ps.length + 1) p) = standL (ps ++ [p]) (z - (10 + p.length)) := by
    rw [hs]
    unfold standL
    rw [over_at (chainB 0 1 ps) _ _ (lenC ps) rfl, chainB_snoc, length_sealN, List.append_assoc, List.drop_replicate]
  simp only [Int.toNat_natCast]
  rw [e]
end Go.Proofs.YtgjaggnpheoehaaDoor
