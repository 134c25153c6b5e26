/- A map keyed by strings that a literal fills and that is ranged over; bytes of a string; append onto a full slice. -/
import Derived.Test.YtdplpcmpjkcocaaDoorBase
import Derived.Maps.RangeWalk
import Derived.Maps.Views
import Derived.Lib.ConvBytes
set_option linter.unusedVariables false
set_option linter.unusedSimpArgs false
namespace Go.Proofs.YtdplpcmpjkcocaaDoor
open Go.RowKit

/-- What a literal has filled in. -/
def foldD (ps : List (List UInt8 × Lit)) : DataW Unit := ps.foldl (fun D p => D.put (.string p.1) (.lit p.2)) (.map [])
theorem foldD_snoc (ps : List (List UInt8 × Lit)) (s : List UInt8) (c : Lit) : foldD (ps ++ [(s, c)]) = (foldD ps).put (.string s) (.lit c) := by simp [foldD, List.foldl_append]
theorem foldD_map (ps : List (List UInt8 × Lit)) : Maps.IsMap (foldD ps) := by
  have h : ∀ (qs : List (List UInt8 × Lit)) (D : DataW Unit), Maps.IsMap D → Maps.IsMap (qs.foldl (fun D p => D.put (.string p.1) (.lit p.2)) D) := by
    intro qs
    induction qs with
    | nil => exact fun D h => h
    | cons q qs ih => exact fun D h => ih _ (h.put _ _)
  exact h ps _ Maps.isMap_empty
/-- What is there is one of what was filled in. -/
theorem fold_find (Pr : List UInt8 → Lit → Prop) (ps : List (List UInt8 × Lit)) (hp : ∀ p ∈ ps, Pr p.1 p.2) (x : List UInt8) (c : Lit) (hh : Maps.has (foldD ps) (.string x) = true) (ha : ∀ z, (foldD ps).atKey (.string x) z = .lit c) : Pr x c := by
  have h : ∀ (n : Nat) (qs : List (List UInt8 × Lit)), qs.length = n → (∀ p ∈ qs, Pr p.1 p.2) → Maps.has (foldD qs) (.string x) = true → (∀ z, (foldD qs).atKey (.string x) z = .lit c) → Pr x c := by
    intro n
    induction n with
    | zero =>
      intro qs hl _ hh _
      obtain rfl := List.eq_nil_of_length_eq_zero hl
      simp [foldD, Maps.has] at hh
    | succ n ih =>
      intro qs hl hq hh ha
      obtain ⟨rs, q, rfl⟩ : ∃ rs q, qs = rs ++ [q] := ⟨qs.dropLast, qs.getLast (by intro e; simp [e] at hl), (List.dropLast_concat_getLast (by intro e; simp [e] at hl)).symm⟩
      obtain ⟨s, d⟩ := q
      rw [foldD_snoc] at hh ha
      by_cases he : x = s
      · subst he
        have := ha (.lit c)
        rw [Maps.atKey_put_same (foldD_map rs) (by trivial)] at this
        injection this with this
        subst this
        exact hq (x, d) (by simp)
      · have hne : Lit.string x ≠ .string s := fun e => he (by injection e)
        rw [Maps.has_put_other hne] at hh
        refine ih rs (by simpa using hl) (fun p hp => hq p (by simp [hp])) hh fun z => ?_
        have := ha z
        rwa [Maps.atKey_put_other hne] at this
  exact h _ ps rfl hp hh ha

section
variable {P : Program} {ops : Array Oper} {rest : List Oper} {o : Oper} {a : Act} {Q : Exit → Act → World → Prop}
/-- An entry of a map's literal. -/
theorem wp_insertS {w0 W : World} (hg : o.guard = none) (m x v : Operand) (t : TypeId) (hop : o.op = Op.insert t m x v) (k e : TypeId) (hk : P.underlying k = some .string) (ht : P.underlying t = some (.map k e)) (b n : Nat) (ps : List (List UInt8 × Lit))
    (hm : a.eval m = .map (some b)) (hown : W.ownsMap P k (plainElem P e) b n (foldD ps)) (hn : n < maxLen) (s : ByteArray) (val : Value) (c : Lit) (hx : a.eval x = .string s) (hv : a.eval v = val) (hs : s.size ≤ maxLen) (hval : plainElem (H := Unit) P e val = some (.lit c, []))
    (hkp : Kp NoB w0 W) (hb : w0.heap.size ≤ b)
    (hK : ∀ w', w'.ownsMap P k (plainElem P e) b (n + 1) (foldD (ps ++ [(s.data.toList, c)])) → Kp NoB w0 w' → wpList P ops Q rest (a.put o.dst undef) w') :
    wpList P ops Q (o :: rest) a W := by
  refine wpList_plain hg fun K' hK' => ?_
  obtain ⟨w', hrun, r1, r2⟩ := hown.update (Maps.string_keyed hk) ht hn (WideMaps.keyOf_string_mk hk hs) hval
  unfold Oper.wp
  simp [execOp, hop, hm, hx, hv, hrun, Result.andThen]
  refine hK' _ _ (hK w' ?_ (hkp.grown r2 fun j hj => by injection hj with hj; subst hj; exact .inl hb))
  rw [foldD_snoc]
  exact r1
end

/-- The bytes of a string. -/
theorem BS.str (w : World) (e : TypeId) (s : ByteArray) (hs : s.size ≤ 140737488355328) (hcap : grownCap w s.size 0 e ≤ 9223372036854775807) : BS AllB (Lib.bytesWorld w e s) (.slice (some ⟨w.heap.size, 0, none⟩) s.size (grownCap w s.size 0 e)) s.data.toList := by
  have hl : s.data.toList.length = s.size := rfl
  refine ⟨_, _, by rw [hl], by rw [hl]; exact grownCap_ge _ _ _ _, hcap, (fun h => by cases h), fun h0 => ⟨_, 0, rfl, trivial, fun j hj => ?_⟩⟩
  rw [Nat.zero_add, Lib.bytesWorld_cell w e s j (by omega)]
  rw [List.getD_eq_getElem?_getD, List.getElem?_eq_getElem hj]
  rfl
theorem Kp.str (w : World) (e : TypeId) (s : ByteArray) : Kp NoB w (Lib.bytesWorld w e s) :=
  ⟨rfl, rfl, rfl, by rw [Lib.bytesWorld_size]; omega, fun k hk _ => Lib.bytesWorld_at_old w e s k hk⟩
section
variable {P : Program} {t e : TypeId} (B : ByteT P t e)
include B
variable {ops : Array Oper} {rest : List Oper} {o : Oper} {a : Act} {Q : Exit → Act → World → Prop}
/-- append onto a slice that has no room. -/
theorem wp_full {W : World} (hgd : o.guard = none) (s y : Operand) (ho : o.op = .call { callee := .builtin .append, args := #[s, y], argTypes := #[t, t] }) (b off n : Nat) (l : List UInt8) (g c : Nat) (u : UInt8) (hs : a.eval s = .slice (some ⟨b, off, none⟩) n n) (hy : a.eval y = .slice (some ⟨g, 0, none⟩) 1 c)
    (hv : BS AllB W (.slice (some ⟨b, off, none⟩) n n) l) (h0 : 0 < l.length) (hc : W.cell? ⟨g, 0, none⟩ = some (bv u)) (hl : l.length ≤ 1000000)
    (h : ∀ v' w', BS AllB w' v' (l ++ [u]) → Kp NoB W w' → wpList P ops Q rest (a.put o.dst v') w') : wpList P ops Q (o :: rest) a W := by
  obtain ⟨i0, hi, hzz⟩ := Option.map_eq_some_iff.1 B.info
  simp only [Prod.mk.injEq] at hzz
  obtain ⟨hz0, hz1, hz2⟩ := hzz
  obtain ⟨A, c', he, h1, h2, h3, hr⟩ := hv
  injection he with e1 e2 e3
  subst e1 e2 e3
  obtain ⟨b', off', hA, _, hcell⟩ := hr h0
  injection hA with hA
  injection hA with hA1 hA2
  subst hA1 hA2
  have hrun := run_append_grow (P := P) W t o.type e i0 (.int .u8 0) B.sl hi hz0 ⟨b, off, none⟩ l.length l.length (bvs l) (by rw [hz1, bvs_length, Nat.mul_one]) (by
      intro j v hj
      have hj' : j < l.length := by
        have := (List.getElem?_eq_some_iff.1 hj).1
        simpa [bvs] using this
      rw [bvs_get l j hj'] at hj
      obtain rfl := Option.some.inj hj
      rw [Addr.add_lit]
      exact hcell j hj') ⟨g, 0, none⟩ 1 c [bv u] (by rw [hz1]; rfl) (by
      intro j v hj
      match j, hj with
      | 0, hj =>
        obtain rfl : bv u = v := by simpa using hj
        rw [Addr.add_lit]
        exact hc
      | j + 1, hj => simp at hj) (by omega) (by omega) (by rw [hz2, Nat.mul_one]; have := growslice_fits (need := l.length + 1) (old := l.length) (bytes := 1) (by omega) (by omega); simpa using this)
  refine Lib.wpList_append_run W hgd s y t t ho _ _ hs hy _ _ hrun (h _ _ ?_ ?_)
  · have hge := grownCap_ge W (l.length + 1) l.length e
    have hcm := grownCap_le_maxLen W (l.length + 1) l.length e (by simp only [maxLen]; omega)
    simp only [maxLen] at hcm
    have hll : (l ++ [u]).length = l.length + 1 := by simp
    refine ⟨_, _, by rw [hll], by rw [hll]; exact hge, by omega, (fun h => by cases h), fun _ => ⟨_, 0, rfl, trivial, fun j hj => ?_⟩⟩
    have hh := heap_alloc_new W.drew (.cells ((bvs l).toArray ++ [bv u].toArray ++ Builtin.zeroCells (Value.int .u8 0).cells (grownCap W (l.length + 1) l.length e - (l.length + 1))) e)
    have hz : W.drew.heap.size = W.heap.size := rfl
    rw [hz] at hh
    simp only [World.cell?, hh, Nat.zero_add]
    rw [Array.getElem?_append_left (by simp [bvs]; omega)]
    have := bvs_get (l ++ [u]) j hj
    rw [bvs_append] at this
    simp only [List.append_toArray, List.getElem?_toArray]
    exact this
  · exact ⟨rfl, rfl, rfl, by simp, fun k hk _ => Below.heap_alloc W.drew _ k hk⟩
end
end Go.Proofs.YtdplpcmpjkcocaaDoor
