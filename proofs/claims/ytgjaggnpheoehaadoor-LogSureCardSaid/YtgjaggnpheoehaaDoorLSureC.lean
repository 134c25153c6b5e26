/- What Recover reads of the law LogSure's crash, against what stood. -/
import Derived.Test.YtgjaggnpheoehaaDoorLSureB
set_option linter.unusedVariables false
set_option linter.unusedSimpArgs false
namespace Go.Proofs.YtgjaggnpheoehaaDoor
open Go.RowKit

theorem own4_len {w : World} {base n : Nat} {e : TypeId} {v : Value} {xs : List Value} (h : w.ownsRow base e 4 v n xs) : ∃ A c, v = .slice A n c := by
  rcases h.2 with ⟨rfl, h0⟩ | ⟨g, cap, cur, rfl, _⟩
  · exact ⟨none, 0, by rw [h0]⟩
  · exact ⟨_, _, rfl⟩
theorem own4_at {w : World} {base n : Nat} {e : TypeId} {v : Value} {ys : List AR} {us : List (Value × Value)} (h : w.ownsRow base e 4 v n (arow ys us)) (hl : us.length = ys.length) (hn : n = ys.length) (j : Nat) (hj : j < ys.length) (hj' : j < us.length) :
    ∃ g c, v = .slice (some ⟨g, 0, none⟩) n c ∧ n ≤ c ∧ w.cell? ⟨g, j * 4, none⟩ = some (.int .i64 ys[j].what) ∧ w.cell? ⟨g, j * 4 + 1, none⟩ = some (.int .i64 ys[j].many) ∧ w.cell? ⟨g, j * 4 + 2, none⟩ = some us[j].1 ∧ w.cell? ⟨g, j * 4 + 3, none⟩ = some us[j].2 := by
  rcases h.2 with ⟨_, h0⟩ | ⟨g, cap, cur, rfl, _, _, hc, _⟩
  · omega
  · have hc' : ∀ i, i < 4 → w.cell? ⟨g, j * 4 + i, none⟩ = (acell ys[j] us[j])[i]? := fun i hi => (World.ownsRow.cellAt h (j * 4 + i) (by omega)).trans (arow_at ys us hl j hj hj' i hi)
    exact ⟨g, cap, rfl, hc, hc' 0 (by omega), hc' 1 (by omega), hc' 2 (by omega), hc' 3 (by omega)⟩
def few (n : Nat) (xs : List AR) : List AR := (xs.take n).map fewA
theorem few_length (n : Nat) (xs : List AR) : (few n xs).length ≤ n := by simp [few]; omega
theorem few_b (n : Nat) (xs : List AR) : ∀ y ∈ few n xs, y.b.length ≤ 60 ∧ y.keep.length ≤ 20 := by
  intro y hy
  obtain ⟨x, _, rfl⟩ := List.mem_map.1 hy
  simp [fewA]
  omega
/-- What is read begins with what is known to stand. -/
theorem parse_prefix : ∀ (P got : List (List UInt8)) (a n : Nat) (Y rest : List UInt8), n + P.length < 4294967296 → (∀ p ∈ P, p.length ≤ 16384) → (∀ p ∈ got, p.length ≤ 16384) → chainB a n got ++ rest = chainB a n P ++ Y → openE (chainS a n got) (n + got.length) rest ≠ 0 →
    ∃ got', got = P ++ got' ∧ Y = chainB (chainS a n P) (n + P.length) got' ++ rest
  | [], got, a, n, Y, rest, _, _, _, h, _ => ⟨got, rfl, by simpa [chainB, chainS] using h.symm⟩
  | p :: P, [], a, n, Y, rest, hn, hp, _, h, ho => by
    exfalso
    simp only [chainB, chainS, List.nil_append, List.append_assoc, List.length_nil, Nat.add_zero] at h ho
    rw [h] at ho
    exact ho (open_seal a n p _ (hp p (by simp)) (by simp at hn; omega))
  | p :: P, g :: got, a, n, Y, rest, hn, hp, hg, h, ho => by
    simp only [chainB, chainS, List.append_assoc, List.length_cons] at h ho hn
    have e1 := pay_seal a n g (chainB (sumN a n g) (n + 1) got ++ rest) (hg g (by simp))
    have e2 := pay_seal a n p (chainB (sumN a n p) (n + 1) P ++ Y) (hp p (by simp))
    rw [h, e2] at e1
    subst e1
    have h3 := List.append_cancel_left h
    obtain ⟨got', q1, q2⟩ := parse_prefix P got (sumN a n p) (n + 1) Y rest (by omega) (fun x hx => hp x (by simp [hx])) (fun x hx => hg x (by simp [hx])) h3 (by rw [show n + 1 + got.length = n + (got.length + 1) by omega]; exact ho)
    refine ⟨got', by rw [q1]; rfl, ?_⟩
    simp only [chainS, List.length_cons]
    rw [show n + (P.length + 1) = n + 1 + P.length by omega]
    exact q2
/-- What Recover reads of a crash: a first part of what stood, all that was sure among it; or, at the first that is another, a torn frame that by chance is one. -/
theorem sure_read (L : List (List UInt8)) (s z0 z : Nat) (ks : List Int) (got : List (List UInt8)) (rest : List UInt8) (hs : s ≤ L.length) (hL : L.length ≤ 1000) (hL16 : ∀ p ∈ L, p.length ≤ 16384) (hp : Parse (crashL (dSure L s z0 z).sure (dSure L s z0 z).waits ks) got rest) :
    s ≤ got.length ∧ ((got.length ≤ L.length ∧ got = L.take got.length) ∨
      (∃ K j p r k, K = s + j ∧ got.take K = L.take K ∧ got[K]? = some p ∧ L[K]? = some r ∧ ks[j]? = some k ∧ p ≠ r ∧ openE (chainS 0 1 (L.take K)) (K + 1) (tornN (chainS 0 1 (L.take K)) (K + 1) r k) = 0 ∧ payN (tornN (chainS 0 1 (L.take K)) (K + 1) r k) = p)) := by
  have hts : (L.take s).length = s := by simp; omega
  have he := hp.eq
  rw [dSure_crash] at he
  obtain ⟨got', q1, q2⟩ := parse_prefix (L.take s) got 0 1 _ rest (by omega) (fun p hx => hL16 p (List.mem_of_mem_take hx)) hp.le he.symm (by rw [Nat.add_comm]; exact hp.no)
  rw [hts, Nat.add_comm 1 s] at q2
  subst q1
  have hg16 : ∀ p ∈ got', p.length ≤ 16384 := fun p hx => hp.le p (by simp [hx])
  have hgl : (L.take s ++ got').length = s + got'.length := by rw [List.length_append, hts]
  refine ⟨by omega, ?_⟩
  rcases crash_read (L.drop s) ks z0 _ (s + 1) got' rest (by omega) (by simp; omega) (fun p hx => hL16 p (List.mem_of_mem_drop hx)) hg16 q2 with ⟨c1, c2⟩ | ⟨i, p, r, k, c1, c2, c3, c4, c5, c6, c7⟩
  · refine .inl ⟨by simp at c1; omega, ?_⟩
    rw [hgl, List.take_add, ← c2]
  · refine .inr ⟨s + i, i, p, r, k, rfl, ?_, ?_, ?_, c4, c5, ?_, ?_⟩
    · rw [List.take_append, List.take_of_length_le (by omega), hts, show s + i - s = i by omega, c1]
      exact List.take_add.symm
    · rw [List.getElem?_append_right (by omega), hts, Nat.add_sub_cancel_left]
      exact c2
    · rw [List.getElem?_drop] at c3
      exact c3
    · have e : chainS 0 1 (L.take (s + i)) = chainS (chainS 0 1 (L.take s)) (s + 1) ((L.drop s).take i) := by rw [List.take_add, chainS_append, hts, Nat.add_comm 1 s]
      rw [e, show s + i + 1 = s + 1 + i by omega]
      exact c6
    · have e : chainS 0 1 (L.take (s + i)) = chainS (chainS 0 1 (L.take s)) (s + 1) ((L.drop s).take i) := by rw [List.take_add, chainS_append, hts, Nat.add_comm 1 s]
      rw [e, show s + i + 1 = s + 1 + i by omega]
      exact c7
theorem DiskIs.fits {w : World} {F R : Nat → Prop} {p : Value} {D : DD} (h : DiskIs w F R p D) : D.seen.length ≤ D.cap := by
  obtain ⟨_, _, _, _, _, _, h⟩ := h
  exact h.c3
/-- Recover of any disk that is not full. -/
theorem ld_recover_any {w0 w : World} {F R : Nat → Prop} {q : Addr} {D : DD} (hd : DiskIs w F R (.pointer (some q)) D) (hm : Made w0 F w) (hT : TabOk w0) (hw : D.waits.length ≤ 1000000) (hf : D.full = false) :
    Calls Tryd.prog 24 #[.pointer (some q)] w fun e w' => ∃ ps rest F' R' b vo us, Parse D.seen ps rest ∧ e = .returned (.tuple #[.pointer (some ⟨b, 0, none⟩), vo, .int .i64 0]) ∧ Step F R w w' F' R' ∧ w.heap.size ≤ b ∧
      LD w0 w' b q F' R' ps ps.length ⟨D.cap, false, standL ps rest.length, standL ps rest.length, []⟩ ∧ Vals (fun k => w.heap.size ≤ k ∧ ¬ F' k ∧ k ≠ b) w' vo us ∧ RS (fun k => w.heap.size ≤ k ∧ ¬ F' k ∧ k ≠ b) w' us ps := by
  have hfit := hd.fits
  refine (lrecover_calls hd (hm.tab hT) (hm.zero hT) hw).mono ?_
  rintro e w' ⟨ps, rest, F', R', hp, hs, h | h⟩
  · obtain ⟨hE, b, vo, us, he, hb, hF, hR, hl, hdd, hv, hr⟩ := h
    have e1 := rec_seen hp hE
    have e2 := rec_cap D ps rest
    have : syncD (recD D ps rest) = ⟨D.cap, false, standL ps rest.length, standL ps rest.length, []⟩ := by
      unfold syncD
      rw [e1, e2.1, e2.2, hf]
    rw [this] at hdd
    exact ⟨ps, rest, F', R', b, vo, us, hp, he, hs, hb, ⟨hl, hdd, hF, hR, hm.step hs, Nat.le_trans hm.kp.size hb, hT⟩, hv, hr⟩
  · exact absurd (recE_ok D ps rest hp hf hfit) h.1
theorem appE_cases (L : List (List UInt8)) (s z0 z : Nat) (p : List UInt8) (hp : p.length ≤ 60) : appE (dSure L s z0 z) L p = 0 ∨ appE (dSure L s z0 z) L p = 7 := by
  unfold appE
  rw [if_neg (by omega)]
  unfold writeE
  rw [if_neg (by show ¬ ((lenC L : Int) < 0 ∨ ((standL L z).length : Int) < (lenC L : Int)); rw [standL_length]; omega)]
  split
  · exact .inr rfl
  · exact .inl rfl
end Go.Proofs.YtgjaggnpheoehaaDoor
