/- Few of the log's law: the first so many acts, their bytes and numbers cut. -/
import Derived.Test.YtgjaggnpheoehaaDoorLogE
import Derived.Test.YtgjaggnpheoehaaDoorLift3
set_option linter.unusedVariables false
set_option linter.unusedSimpArgs false
namespace Go.Proofs.YtgjaggnpheoehaaDoor
open Go.RowKit

/-- A type of slices whose elements have size cells. -/
structure RowT (P : Program) (t e : TypeId) (z : Value) (size bytes : Nat) : Prop where
  sl : P.underlying t = some (.slice e)
  info : (P.info? e).map (fun i => (i.zero, i.size, i.bytes)) = some (some z, size, bytes)
  zc : z.cells.size = size
  s0 : 0 < size
  by0 : 0 < bytes
section
variable {P : Program} {t e : TypeId} {z : Value} {size bytes : Nat} (B : RowT P t e z size bytes)
include B
variable {ops : Array Oper} {rest : List Oper} {o : Oper} {a : Act} {Q : Exit → Act → World → Prop}
/-- append(v, u) of an element of size cells, which lie in a new block. -/
theorem wp_pushN {w0 W : World} (hgd : o.guard = none) (s y : Operand) (ho : o.op = .call { callee := .builtin .append, args := #[s, y], argTypes := #[t, t] }) (v : Value) (n g c : Nat) (xs news : List Value) (fr : Nat × Nat) (hs : a.eval s = v) (hy : a.eval y = .slice (some ⟨g, 0, none⟩) 1 c)
    (hown : W.ownsRow w0.heap.size e size v n xs) (hk : Kp NoB w0 W) (hg : W.heap[g]? = some (.cells news.toArray e fr)) (hn : news.length = size) (h1 : ∀ u ∈ news, u.oneCell' = true) (hl : (n + 1) * bytes ≤ 140737488355328)
    (h : ∀ v' w', w'.ownsRow w0.heap.size e size v' (n + 1) (xs ++ news) → Kp NoB w0 w' → wpList P ops Q rest (a.put o.dst v') w') : wpList P ops Q (o :: rest) a W := by
  obtain ⟨i0, hi, hzz⟩ := Option.map_eq_some_iff.1 B.info
  simp only [Prod.mk.injEq] at hzz
  obtain ⟨hz0, hz1, hz2⟩ := hzz
  have hb := B.by0
  have hlen : n + 1 ≤ 140737488355328 := Nat.le_trans (Nat.le_mul_of_pos_right _ hb) hl
  obtain ⟨v', w', r1, r2, r3, _, r5⟩ := run_append_own_at (P := P) (w := W) w0.heap.size t o.type e i0 z size bytes B.sl hi hz0 hz1 hz2 B.zc B.s0 v n xs hown ⟨g, 0, none⟩ 1 c news (by omega) (by
    intro j u hu
    rw [Addr.add_lit, Nat.zero_add]
    simp only [World.cell?, hg]
    simpa using hu) h1 (by simp only [maxLen]; omega) hl hk.size
  exact Lib.wpList_append_run W hgd s y t t ho v _ hs hy v' w' r1 (h v' w' r2 (hk.grown r3 fun k hk' => .inl (World.ownsRow.lt hown k hk').1))
end
section
variable {P : Program} {t e : TypeId} {z : Value} {bytes : Nat} (B : OneT P t e z bytes)
include B
/-- x[:min(len(x), N)] of one-cell elements. -/
theorem Vals.clip {S : Nat → Prop} {W : World} {v : Value} {us : List Value} (hv : Vals S W v us) (N : Nat) (Ni : Int) (hN : Ni = (N : Int)) :
    ∃ (k : Nat) (v' : Value), (∀ (W' : World) ts ty, (Builtin.min_ ts ty #[.int .i64 (us.length : Int), .int .i64 Ni]).run P W' = .ok (.int .i64 (k : Int)) W') ∧
      (∀ W', (Instr.slice t v none (some (.int .i64 (k : Int))) none).run P W' = .ok v' W') ∧ Vals S W v' (us.take N) := by
  subst hN
  obtain ⟨i0, hi0, hzz⟩ := Option.map_eq_some_iff.1 B.info
  simp only [Prod.mk.injEq] at hzz
  obtain ⟨hz0, hz1, hz2⟩ := hzz
  obtain ⟨A, c, rfl, hc, hm, hn, hr⟩ := hv
  refine ⟨min N us.length, .slice A (min N us.length) c, fun W' ts ty => ?_, fun W' => ?_, ⟨A, c, by simp, by simp; omega, hm, hn, fun h0 => ?_⟩⟩
  · rw [run_min_int2]
    congr 2
    split <;> omega
  · have h2 : min N us.length ≤ us.length := Nat.min_le_right _ _
    have hic : min N us.length ≤ c := by omega
    generalize min N us.length = hi at *
    have hb2 : ((hi : Int)).toNat = hi := by omega
    simp [Instr.slice, Instr.sliceBounds, Instr.sliceBound, run_underlying B.sl, sizeOf, typeInfo, hi0, hz1, asIntOf, hc, hic, h2]
    intro _
    cases A with
    | none => rfl
    | some x => obtain ⟨b, f, sp⟩ := x; cases sp <;> simp [Addr.add]
  · obtain ⟨b, off, rfl, hS, hcell⟩ := hr (by simp at h0; omega)
    refine ⟨b, off, rfl, hS, fun j hj => ?_⟩
    rw [hcell j (by simp at hj; omega)]
    simp
end

structure AR where
  what : Int
  many : Int
  b : List UInt8
  keep : List Int
def AR.ok (x : AR) : Prop := inI x.what ∧ inI x.many ∧ ∀ k ∈ x.keep, inI k
def acell (x : AR) (u : Value × Value) : List Value := [.int .i64 x.what, .int .i64 x.many, u.1, u.2]
def arow : List AR → List (Value × Value) → List Value
  | x :: xs, u :: us => acell x u ++ arow xs us
  | _, _ => []
theorem arow_snoc : ∀ (xs : List AR) (us : List (Value × Value)) (x : AR) (u : Value × Value), us.length = xs.length → arow (xs ++ [x]) (us ++ [u]) = arow xs us ++ acell x u
  | [], [], _, _, _ => by simp [arow]
  | y :: xs, v :: us, x, u, h => by
    simp only [List.cons_append, arow]
    rw [arow_snoc xs us x u (by simpa using h), List.append_assoc]
  | [], _ :: _, _, _, h => by simp at h
  | _ :: _, [], _, _, h => by simp at h
theorem arow_at : ∀ (xs : List AR) (us : List (Value × Value)), us.length = xs.length → ∀ j (h : j < xs.length) (h' : j < us.length) i, i < 4 → (arow xs us)[j * 4 + i]? = (acell xs[j] us[j])[i]?
  | x :: xs, u :: us, hl, 0, h, h', i, hi => by
    simp only [arow, List.getElem_cons_zero]
    rw [List.getElem?_append_left (by simp [acell]; omega)]
    simp
  | x :: xs, u :: us, hl, j + 1, h, h', i, hi => by
    have := arow_at xs us (by simpa using hl) j (by simpa using h) (by simpa using h') i hi
    simp only [arow, List.getElem_cons_succ]
    rw [List.getElem?_append_right (by simp [acell]; omega), ← this]
    congr 1
    simp [acell]
    omega
/-- The acts' bytes and numbers. -/
def AS (S : Nat → Prop) (w : World) (us : List (Value × Value)) (xs : List AR) : Prop :=
  us.length = xs.length ∧ ∀ j (h : j < us.length) (h' : j < xs.length), BS S w us[j].1 xs[j].b ∧ Vals S w us[j].2 (xs[j].keep.map (.int .i64)) ∧ xs[j].ok
theorem AS.kp {S F : Nat → Prop} {w w' : World} {us : List (Value × Value)} {xs : List AR} (h : AS S w us xs) (k : Kp F w w') (hF : ∀ b, b < w.heap.size → S b → ¬ F b) : AS S w' us xs :=
  ⟨h.1, fun j h1 h2 => ⟨(h.2 j h1 h2).1.kp k hF, (h.2 j h1 h2).2.1.kp k hF, (h.2 j h1 h2).2.2⟩⟩
theorem AS.nob {S : Nat → Prop} {w w' : World} {us : List (Value × Value)} {xs : List AR} (h : AS S w us xs) (k : Kp NoB w w') : AS S w' us xs := h.kp k fun _ _ _ => id
theorem AS.mono {S T : Nat → Prop} {w : World} {us : List (Value × Value)} {xs : List AR} (h : AS S w us xs) (hT : ∀ b, b < w.heap.size → S b → T b) : AS T w us xs :=
  ⟨h.1, fun j h1 h2 => ⟨(h.2 j h1 h2).1.mono hT, (h.2 j h1 h2).2.1.mono hT, (h.2 j h1 h2).2.2⟩⟩
theorem AS.nil (S : Nat → Prop) (w : World) : AS S w [] [] := ⟨rfl, fun j h => absurd h (by simp)⟩
theorem AS.snoc {S : Nat → Prop} {w : World} {us : List (Value × Value)} {xs : List AR} {u : Value × Value} {x : AR} (h : AS S w us xs) (h1 : BS S w u.1 x.b) (h2 : Vals S w u.2 (x.keep.map (.int .i64))) (h3 : x.ok) : AS S w (us ++ [u]) (xs ++ [x]) := by
  refine ⟨by simp [h.1], fun j hj hj' => ?_⟩
  by_cases hlt : j < us.length
  · have hlt' : j < xs.length := by rw [← h.1]; exact hlt
    rw [List.getElem_append_left hlt, List.getElem_append_left hlt']
    exact h.2 j hlt hlt'
  · have e1 : j = us.length := by simp at hj; omega
    subst e1
    have e2 : us.length = xs.length := h.1
    rw [List.getElem_append_right (Nat.le_refl _), List.getElem_append_right (by omega)]
    simp only [e2, Nat.sub_self, List.getElem_cons_zero]
    exact ⟨h1, h2, h3⟩
/-- An argument: a slice of acts. -/
def Acts (w : World) (v : Value) (us : List (Value × Value)) (xs : List AR) : Prop :=
  AS AllB w us xs ∧ ∃ A c, v = .slice A xs.length c ∧ xs.length ≤ c ∧ c ≤ 9223372036854775807 ∧
    (0 < xs.length → ∃ b off, A = some ⟨b, off, none⟩ ∧ ∀ j (h : j < xs.length) (h' : j < us.length) i, i < 4 → w.cell? ⟨b, off + j * 4 + i, none⟩ = (acell xs[j] us[j])[i]?)
theorem Acts.nob {w w' : World} {v : Value} {us : List (Value × Value)} {xs : List AR} (h : Acts w v us xs) (k : Kp NoB w w') : Acts w' v us xs := by
  obtain ⟨ha, A, c, rfl, h1, h2, hr⟩ := h
  refine ⟨ha.nob k, A, c, rfl, h1, h2, fun h0 => ?_⟩
  obtain ⟨b, off, rfl, hc⟩ := hr h0
  refine ⟨b, off, rfl, fun j hj hj' i hi => ?_⟩
  have hlen : i < (acell xs[j] us[j]).length := by simp [acell]; omega
  have := hc j hj hj' i hi
  rw [List.getElem?_eq_getElem hlen] at this ⊢
  exact k.cell this id
def fewA (x : AR) : AR := { x with b := x.b.take 60, keep := x.keep.take 20 }
theorem fewA_ok {x : AR} (h : x.ok) : (fewA x).ok := ⟨h.1, h.2.1, fun k hk => h.2.2 k (List.mem_of_mem_take hk)⟩

theorem heap_alloc_two (w : World) (o1 o2 : Obj) : ((w.alloc o1).alloc o2).heap[w.heap.size + 1]? = some o2 := by
  have h := heap_alloc_new (w.alloc o1) o2
  have e : (w.alloc o1).heap.size = w.heap.size + 1 := by simp
  rwa [e] at h
theorem actT : RowT Tryd.prog 61 71 (.agg #[.int .i64 0, .int .i64 0, .slice none 0 0, .slice none 0 0]) 4 64 := ⟨Tryd.underlying61, by kernel_rfl, rfl, by decide, by decide⟩
theorem intsT : OneT Tryd.prog 57 3 (.int .i64 0) 8 := ⟨Tryd.underlying57, by kernel_rfl, rfl, by decide⟩

set_option maxRecDepth 100000 in
set_option maxHeartbeats 4000000 in
theorem few_calls (xs : List AR) (us : List (Value × Value)) (v : Value) (most : Nat) (w : World) (hv : Acts w v us xs) (hm : most ≤ 1000) (T : Nat → Prop) (hT : AS T w us xs) :
    Calls Tryd.prog 37 #[v, .int .i64 most] w fun e w' => ∃ v' us', e = .returned v' ∧ w'.ownsRow w.heap.size 71 4 v' ((xs.take most).map fewA).length (arow ((xs.take most).map fewA) us') ∧ AS T w us' ((xs.take most).map fewA) ∧ Kp NoB w w' := by
  obtain ⟨has, Av, cv, rfl, hcap, hmax, hr⟩ := id hv
  have HV := Lib.hid hv
  have HT := Lib.hid hT
  clear hv hr has hT
  go_enter Tryd.func37, Tryd.ntmps37
  go_wp2_with fail
  go_loopw [5, 10] (fun o i wr => ∃ (k : Nat) (us' : List (Value × Value)), k ≤ xs.length ∧ i = .int .i64 k ∧ wr.ownsRow w.heap.size 71 4 o (min k most) (arow ((xs.take (min k most)).map fewA) us') ∧ AS T w us' ((xs.take (min k most)).map fewA) ∧ Kp NoB w wr) (fun _ i _ => xs.length - (intOf i).toNat)
  case atStart => exact ⟨0, [], Nat.zero_le _, rfl, by simpa [arow] using World.ownsRow_nil _ _ _ _, by simpa using AS.nil _ _, Kp.refl _ _⟩
  case round =>
    obtain ⟨k, us', hk, rfl, ho, ha, hkw⟩ := hrel
    by_cases hlt : k < xs.length
    · have hku : k < us.length := by rw [HV.out.1.1]; exact hlt
      obtain ⟨_, A2, c2, he, _, _, hr⟩ := HV.out
      injection he with e1 e2 e3
      subst e1 e3
      obtain ⟨b, off, rfl, hc⟩ := hr (by omega)
      have hx := HT.out.2 k hku hlt
      have hcc := fun i hi => hc k hlt hku i hi
      generalize hxk : xs[k] = x at *
      have HXK := Lib.hid hxk
      clear hxk
      generalize us[k] = u at *
      obtain ⟨u1, u2⟩ := u
      have x0 : wr.cell? ⟨b, off + k * 4, none⟩ = some (.int .i64 x.what) := hkw.cell (hcc 0 (by omega)) id
      have x1 : wr.cell? ⟨b, off + k * 4 + 1, none⟩ = some (.int .i64 x.many) := hkw.cell (hcc 1 (by omega)) id
      have x2 : wr.cell? ⟨b, off + k * 4 + 2, none⟩ = some u1 := hkw.cell (hcc 2 (by omega)) id
      have x3 : wr.cell? ⟨b, off + k * 4 + 3, none⟩ = some u2 := hkw.cell (hcc 3 (by omega)) id
      obtain ⟨hb1, hb2, hok⟩ := hx
      obtain ⟨k1, v1, hm1, hs1, hw1⟩ := BS.clip byteD hb1 60 60 rfl
      obtain ⟨k2, v2, hm2, hs2, hw2⟩ := Vals.clip intsT hb2 20 20 rfl
      obtain ⟨A1, c1, rfl⟩ := hb1.len
      obtain ⟨A2, c2, rfl⟩ := hb2.len
      simp only [List.length_map] at hm2 hs2 x3
      have HO := Lib.hid ho
      have HA := Lib.hid ha
      have HK := Lib.hid hkw
      have HV2 := Lib.hid hr
      have HC := Lib.hid hc
      clear ho ha hkw hr hc hcc hb1 hb2
      by_cases hlm : k < most
      · obtain ⟨bt, hbt⟩ : ∃ bt, bt = x.b.take 60 := ⟨_, rfl⟩
        obtain ⟨kt, hkt⟩ : ∃ kt, kt = x.keep.take 20 := ⟨_, rfl⟩
        rw [← hbt] at hw1
        rw [← List.map_take, ← hkt] at hw2
        obtain ⟨B1, d1, rfl⟩ := hw1.len
        obtain ⟨B2, d2, rfl⟩ := hw2.len
        rw [List.length_map] at *
        have HBT := Lib.hid hbt
        have HKT := Lib.hid hkt
        clear hbt hkt
        have hmin : min k most = k := by omega
        have HMIN := Lib.hid hmin
        clear hmin
        go_wp2_with fail
        go_region
        clear hm1 hs1 hm2 hs2 x0 x1 x2 x3
        have hbig : (min k most + 1) * 64 ≤ 140737488355328 := by omega
        have HSN := Lib.hid (arow_snoc ((xs.take (min k most)).map fewA) us' (fewA x) (.slice B1 bt.length d1, .slice B2 kt.length d2) HA.out.1)
        go_wp2_with (first
          | ((with_reducible refine gate_dst (N := 37) rfl ?_); go_must (refine wp_pushN (w0 := w) actT rfl _ _ rfl _ (min k most) (wr.heap.size + 1) 1 (arow ((xs.take (min k most)).map fewA) us') [.int .i64 x.what, .int .i64 x.many, .slice B1 bt.length d1, .slice B2 kt.length d2] (0, 0) rfl (by simp [Act.eval]) (own_nob HO.out (((Kp.refl _ _).alloc _).alloc _).drew) ((HK.out.alloc _).alloc _).drew (heap_alloc_two _ _ _) rfl (by simp [Value.oneCell']) hbig ?_); intro v3 w3 ho3 hk3)
          | fail)
        have hfx : fewA x = { what := x.what, many := x.many, b := bt, keep := kt } := by rw [HBT.out, HKT.out]; rfl
        have htk : (xs.take (k + 1)).map fewA = (xs.take (min k most)).map fewA ++ [fewA x] := by
          rw [HMIN.out, List.take_succ_eq_append_getElem hlt, List.map_append, HXK.out]
          rfl
        go_roundw
        case rel =>
          refine ⟨k + 1, us' ++ [(.slice B1 bt.length d1, .slice B2 kt.length d2)], by omega, by go_num, ?_, ?_, hk3⟩
          · rw [show min (k + 1) most = k + 1 by omega, htk, HSN.out, hfx, show k + 1 = min k most + 1 by omega]
            exact ho3
          · rw [show min (k + 1) most = k + 1 by omega, htk]
            refine AS.snoc HA.out ?_ ?_ (fewA_ok hok)
            · rw [hfx]; exact hw1
            · rw [hfx]; exact hw2
        case measure => simp [intOf]; omega
      · go_wp2_with fail
        go_roundw
        case rel => exact ⟨k + 1, us', by omega, by go_num, by rw [show min (k + 1) most = min k most by omega]; exact own_nob HO.out ((Kp.refl _ _).alloc _), by rw [show min (k + 1) most = min k most by omega]; exact HA.out, HK.out.alloc _⟩
        case measure => simp [intOf]; omega
    · have hkn : k = xs.length := by omega
      have hfin : (xs.take (min k most)).map fewA = (xs.take most).map fewA := by
        rw [hkn]
        congr 1
        rcases Nat.le_total most xs.length with h | h
        · rw [Nat.min_eq_right h]
        · rw [Nat.min_eq_left h, List.take_length, List.take_of_length_le h]
      have hlen : min k most = ((xs.take most).map fewA).length := by rw [hkn]; simp; omega
      rw [hfin] at ho ha
      rw [hlen] at ho
      have HO := Lib.hid ho
      have HA := Lib.hid ha
      clear ho ha hfin hlen
      go_wp2_with fail
      go_ret
      exact ⟨_, us', rfl, HO.out, HA.out, hkw⟩
end Go.Proofs.YtgjaggnpheoehaaDoor
