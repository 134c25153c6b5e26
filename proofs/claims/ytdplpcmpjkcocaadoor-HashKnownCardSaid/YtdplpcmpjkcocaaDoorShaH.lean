/- Common words for Hmac. -/
import Derived.Test.YtdplpcmpjkcocaaDoorShaF
import Derived.Test.YtdplpcmpjkcocaaDoorConcH
import Derived.Laws.CopyOwn
set_option linter.unusedVariables false
set_option linter.unusedSimpArgs false
namespace Go.Proofs.YtdplpcmpjkcocaaDoor
open Go.RowKit

theorem Arr.bs {t : TypeId} {w : World} {base b : Nat} {l : List UInt8} (h : Arr t w base b (bvs l)) (n : Nat) (hl : l.length = n) : BS AllB w (.slice (some ⟨b, 0, none⟩) n n) l := by
  subst hl
  have h' : Own t w base (.slice (some ⟨b, 0, none⟩) l.length l.length) l := by
    unfold Own
    unfold Arr at h
    rwa [bvs_length] at h
  exact h'.bs.mono fun _ _ _ => trivial
/-- An array of twenty bytes is laid and filled. -/
theorem arr20_made (w : World) (l : List UInt8) (hl : l.length = 20) : ∃ w8, Arr 23 w8 w.heap.size w.heap.size (bvs l) ∧ Kp NoB w w8 ∧ w8 = (w.alloc (.cells (bvs z20).toArray 23)).setCells w.heap.size 0 (bvs l).toArray.toList := by
  have h := (Arr.made 23 w (bvs z20) (by rw [bvs_length]; decide)).setWhole (bvs l) (by rw [bvs_length, bvs_length, hl]; rfl)
  exact ⟨_, h, Kp.setCells _ (.inl (Nat.le_refl _)) _ _ _ ((Kp.refl _ _).alloc _), rfl⟩
theorem there20 (w : World) : (w.alloc (.cells (bvs z20).toArray 23)).there w.heap.size 0 20 := by
  have h := (Arr.made 23 w (bvs z20) (by rw [bvs_length]; decide)).there
  rwa [bvs_length] at h
theorem size20 (l : List UInt8) (hl : l.length = 20) : (Tryd.prog.info? 23).map (·.size) = some (bvs l).toArray.size := by
  rw [List.size_toArray, bvs_length, hl]; kernel_rfl
theorem shaN_length (l : List UInt8) : (shaN l).length = 20 := outH_length _
theorem xor_u8 (x : UInt8) (k : UInt8) : bits .xor .u8 (x.toNat : Int) (k.toNat : Int) = ((x ^^^ k).toNat : Int) := by
  rw [u8_xor_nat _ _ x.toNat_lt k.toNat_lt, UInt8.toNat_xor]
section
variable {P : Program} {t e : TypeId} (B : ByteT P t e)
include B
variable {ops : Array Oper} {rest : List Oper} {o : Oper} {a : Act} {Q : Exit → Act → World → Prop}
/-- append(v, x...) of bytes, beside another of the call's own slices. -/
theorem wp_appD {w0 W : World} (hgd : o.guard = none) (s y : Operand) (ho : o.op = .call { callee := .builtin .append, args := #[s, y], argTypes := #[t, t] }) (v x : Value) (l m : List UInt8) (hs : a.eval s = v) (hy : a.eval y = x)
    (S : Nat → Prop) (u : Value) (lu : List UInt8) (hu : Own e W w0.heap.size u lu) (hne : ∀ k, v.ownBlock = some k → ¬ u.ownBlock = some k)
    (hown : Own e W w0.heap.size v l) (hk : Kp NoB w0 W) (hx : BS S W x m) (hl : l.length + m.length ≤ 140737488355328)
    (h : ∀ v' w', Own e w' w0.heap.size v' (l ++ m) → Own e w' w0.heap.size u lu → (∀ k, v'.ownBlock = some k → ¬ u.ownBlock = some k) → Kp NoB w0 w' → wpList P ops Q rest (a.put o.dst v') w') : wpList P ops Q (o :: rest) a W :=
  wp_app B hgd s y ho w0.heap.size v x l m hs hy S hown hx hl hk.size fun v' w' h1 h2 h3 =>
    h v' w' h1 (hu.kp (Kp.of_grown h2) fun b _ hb hf => hne b hf hb) (fun k hk' hu' => by
      rcases h3 with h3 | h3
      · rw [h3] at hk'; exact hne k hk' hu'
      · rw [h3] at hk'; injection hk' with hk'; have := (hu.lt k hu').2; omega)
      (hk.grown h2 fun k hk' => .inl (Own.lt hown k hk').1)
end
theorem key64_length (key : List UInt8) : (key64 key).length = 64 := by
  unfold key64
  simp only
  split
  · simp [shaN_length]
  · simp; omega
theorem map_snoc (f : UInt8 → UInt8) (KK : List UInt8) (j : Nat) (h : j < KK.length) : (KK.take j).map f ++ [f KK[j]] = (KK.take (j + 1)).map f := by
  rw [List.take_succ_eq_append_getElem h, List.map_append]
  rfl
theorem Arr.of_heap {t : TypeId} {w : World} {b : Nat} {xs : List Value} (h : w.heap[b]? = some (.cells xs.toArray t (0, 0))) (hl : xs.length ≤ 1000000) : Arr t w b b xs :=
  ⟨by omega, .inr ⟨b, xs.length, xs.toArray, rfl, Nat.le_refl _, h, Nat.le_refl _, by simp only [maxLen]; omega, by simp, by simp⟩⟩
section
variable {P : Program} {t e : TypeId} (B : ByteT P t e)
include B
variable {ops : Array Oper} {rest : List Oper} {o : Oper} {a : Act} {Q : Exit → Act → World → Prop}
/-- copy(v[:], x), v an array. -/
theorem wp_copyArr {W : World} (hgd : o.guard = none) (d s : Operand) (ho : o.op = .call { callee := .builtin .copy, args := #[d, s], argTypes := #[t, t] }) (T : TypeId) (g n : Nat) (x : Value) (l m : List UInt8) (hd : a.eval d = .slice (some ⟨g, 0, none⟩) n n) (hs : a.eval s = x)
    (S : Nat → Prop) (hown : Arr T W g g (bvs l)) (hx : BS S W x m) (hln : l.length = n) (hm : m.length ≤ n) (hn : n ≤ 1000000)
    (h : ∀ w', Arr T w' g g (bvs (m ++ l.drop m.length)) → Kp (fun k => k = g) W w' → wpList P ops Q rest (a.put o.dst (goInt m.length)) w') : wpList P ops Q (o :: rest) a W := by
  obtain ⟨i0, hi, hzz⟩ := Option.map_eq_some_iff.1 B.info
  simp only [Prod.mk.injEq] at hzz
  have hsz : (P.info? e).map (·.size) = some 1 := by rw [hi]; simp [hzz]
  by_cases h0 : m.length = 0
  · obtain rfl := List.eq_nil_of_length_eq_zero h0
    obtain ⟨A, c, rfl⟩ := hx.len
    exact wpList_copy_nothing hgd d s t t ho e B.sl hsz _ _ _ _ _ _ hd hs (by simp) (h W (by simpa using hown) (Kp.refl _ _))
  · obtain ⟨b, off, c, rfl, hmc, hcell⟩ := hx.pos m.length rfl (by omega)
    have hg := hown.heap
    have hlen : (bvs m).length = m.length := bvs_length m
    have := wpList_copy_own (P := P) (Q := Q) (rest := rest) (ops := ops) hgd d s t t ho e B.sl hsz g 0 n n ⟨b, off, none⟩ m.length c hd hs (bvs l).toArray T hg (bvs m) (by rw [hlen]; exact (Nat.min_eq_left hm).symm) (by
      intro j u hu
      have hj : j < m.length := by
        have := (List.getElem?_eq_some_iff.1 hu).1
        simpa [bvs] using this
      rw [bvs_get m j hj] at hu
      obtain rfl := Option.some.inj hu
      rw [Addr.add_lit]
      exact hcell j hj) (by rw [hlen, List.size_toArray, bvs_length]; omega) (bvs_one m)
    rw [hlen] at this
    have hg' := setRow_heap W g (bvs l).toArray (((bvs l).toArray.toList.take 0 ++ (bvs m ++ (bvs l).toArray.toList.drop (0 + m.length))).toArray) T (0, 0) hg
    have e1 : (bvs l).toArray.toList.take 0 ++ (bvs m ++ (bvs l).toArray.toList.drop (0 + m.length)) = bvs (m ++ l.drop m.length) := by simp [bvs]
    rw [e1] at this hg'
    refine this (h _ (Arr.of_heap hg' (by rw [bvs_length, List.length_append, List.length_drop]; omega)) ?_)
    exact ⟨rfl, rfl, rfl, by simp [World.setRow], fun k _ hk => setRow_other W g k _ hk⟩
end
def z64 : List UInt8 := List.replicate 64 0
theorem zero64 (W : World) : (zeroValue 43).run Tryd.prog W = .ok (.agg (bvs z64).toArray) W := by kernel_rfl
/-- The first k bytes are turned by f. -/
def xmap (f : UInt8) (K : List UInt8) (k : Nat) : List UInt8 := (K.take k).map (· ^^^ f) ++ K.drop k
theorem xmap_length (f : UInt8) (K : List UInt8) (k : Nat) : (xmap f K k).length = K.length := by simp [xmap]; omega
theorem xmap_get? (f : UInt8) (K : List UInt8) (k : Nat) (h : k < K.length) : (xmap f K k)[k]? = some K[k] := by
  unfold xmap
  rw [List.getElem?_append_right (by simp; omega)]
  simp [List.getElem?_drop, Nat.min_eq_left (Nat.le_of_lt h)]
theorem xmap_set (f : UInt8) (K : List UInt8) (k : Nat) (h : k < K.length) : (xmap f K k).set k (K[k] ^^^ f) = xmap f K (k + 1) := by
  unfold xmap
  have hl : ((K.take k).map (· ^^^ f)).length = k := by simp; omega
  rw [List.set_append_right _ _ (by rw [hl]; exact Nat.le_refl _), hl, Nat.sub_self, List.drop_eq_getElem_cons h, List.set_cons_zero, List.take_succ_eq_append_getElem h, List.map_append, List.append_assoc]
  rfl
theorem xmap_all (f : UInt8) (K : List UInt8) (k : Nat) (h : K.length ≤ k) : xmap f K k = K.map (· ^^^ f) := by simp [xmap, List.take_of_length_le h, List.drop_of_length_le h]
theorem concat2_calls (l1 l2 : List UInt8) (v1 v2 : Value) (b : Nat) (T : TypeId) (w : World) (hb : w.heap[b]? = some (.cells #[v1, v2] T (0, 0)))
    (h1 : BS AllB w v1 l1) (h2 : BS AllB w v2 l2) (hl : l1.length + l2.length ≤ 140737488355328) :
    Calls Tryd.prog 18 #[.slice (some ⟨b, 0, none⟩) 2 2] w fun e w' => ∃ v', e = .returned v' ∧ Own 5 w' w.heap.size v' (l1 ++ l2) ∧ Kp NoB w w' := by
  have h := concat_calls [l1, l2] b 0 2 w (by simp; omega) (by simp) (by simp) (fun j hj => by
    have hc : ∀ j, w.cell? ⟨b, 0 + j, none⟩ = (#[v1, v2] : Array Value)[j]? := fun j => by simp [World.cell?, hb]
    rw [hc]
    match j, hj with
    | 0, _ => exact ⟨v1, rfl, h1⟩
    | 1, _ => exact ⟨v2, rfl, h2⟩)
  have e : [l1, l2].flatten = l1 ++ l2 := by simp
  rw [e] at h
  exact h
end Go.Proofs.YtdplpcmpjkcocaaDoor
