/- The walks of the check: half, Crc, two, four, word. -/
import Derived.Test.YtgjaggnpheoehaaDoorProg
import Derived.Test.YtgjaggnpheoehaaDoorBase
import Derived.Test.YtgjaggnpheoehaaDoorPlain
set_option linter.unusedVariables false
set_option linter.unusedSimpArgs false
namespace Go.Proofs.YtgjaggnpheoehaaDoor
open Go.RowKit

def TabOk (w : World) : Prop := ∀ i : Nat, i < 16 → w.cell? ⟨0, i, none⟩ = some (.int .u32 (tabN i : Nat))
theorem TabOk.kp {F : Nat → Prop} {w w' : World} (h : TabOk w) (k : Kp F w w') (hF : ¬ F 0) : TabOk w' := fun i hi => k.cell (h i hi) hF
theorem TabOk.nob {w w' : World} (h : TabOk w) (k : Kp NoB w w') : TabOk w' := h.kp k id

theorem half_calls (r : Nat) (hr : r < 4294967296) (w : World) (hT : TabOk w) :
    Calls Tryd.prog 51 #[.int .u32 r] w fun e w' => e = .returned (.int .u32 (halfN r : Nat)) ∧ w = w' := by
  obtain ⟨d, hd⟩ : ∃ d, d = r % 16 := ⟨_, rfl⟩
  have hd16 : d < 16 := by omega
  have e1 : bits .and .u32 (r : Int) 15 = (d : Int) := by
    have := u32_and_nat r 15 hr (by decide)
    rw [show ((15 : Nat) : Int) = 15 from rfl, nat_mask4, ← hd] at this
    exact this
  have e2 : bits .xor .u32 ((r : Int) / 16) (tabN d : Int) = (halfN r : Nat) := by
    have := u32_xor_nat (r / 16) (tabN d) (by omega) (tabN_lt d hd16)
    unfold halfN
    rw [← hd, ← this]; rfl
  have hc := hT d hd16
  clear hd hT
  go_enter Tryd.func51, Tryd.ntmps51
  go_wp2
  go_ret
  exact ⟨rfl, rfl⟩

theorem ret_int {k : IntKind} {a b : Int} (h : a = b) : Ending.returned (.int k a) = .returned (.int k b) := by rw [h]

theorem crc_calls (l : List UInt8) (v : Value) (w : World) (hT : TabOk w) (hv : BS AllB w v l) :
    Calls Tryd.prog 16 #[v] w fun e w' => e = .returned (.int .u32 (crcN l : Nat)) ∧ w = w' := by
  rcases hv.shape with ⟨rfl, A, c, rfl, _, _⟩ | ⟨h0, b, off, c, rfl, hc, hm, _, hcell⟩
  · clear hv
    go_enter Tryd.func16, Tryd.ntmps16
    go_wp2
    go_loop [3, 8] (fun r i => i = .int .i64 0 ∧ r = .int .u32 4294967295) (fun _ i => 1 - (intOf i).toNat)
    case atStart => exact ⟨rfl, rfl⟩
    case round =>
      obtain ⟨rfl, rfl⟩ := hrel
      go_wp2
      go_ret
      exact ⟨ret_int (by decide), rfl⟩
  · clear hv
    go_enter Tryd.func16, Tryd.ntmps16
    go_wp2
    go_loop [3, 8] (fun r i => ∃ k : Nat, k ≤ l.length ∧ i = .int .i64 k ∧ r = .int .u32 (crcFrom 4294967295 (l.take k) : Nat)) (fun _ i => l.length - (intOf i).toNat)
    case atStart => exact ⟨0, Nat.zero_le _, rfl, rfl⟩
    case round =>
      obtain ⟨k, hk, rfl, rfl⟩ := hrel
      have hlt0 := crcFrom_lt (l.take k) 4294967295 (by decide)
      by_cases hlt : k < l.length
      · have hs : Hid (crcFrom 4294967295 (l.take (k + 1)) = stepN (crcFrom 4294967295 (l.take k)) l[k]) := by rw [take_snoc l k hlt]; exact crcFrom_snoc _ _ _
        have hck := hcell k hlt
        clear hcell
        generalize crcFrom 4294967295 (l.take k) = r at *
        generalize l[k] = ch at *
        unfold bv at hck
        have hch := u8_lt ch
        obtain ⟨x, hx⟩ : ∃ x, x = r ^^^ ch.toNat := ⟨_, rfl⟩
        have hx32 : x < 4294967296 := by rw [hx]; exact xor_lt32 hlt0 (by omega)
        have e1 : bits .xor .u32 (r : Int) (ch.toNat : Int) = (x : Int) := by rw [hx]; exact u32_xor_nat r ch.toNat hlt0 (by omega)
        have HX := Lib.hid hx
        clear hx
        have h1 := halfN_lt hx32
        go_wp2_with (go_at_call 51; (with_reducible refine (half_calls _ (by assumption) _ hT).mono ?_); rintro e w' ⟨rfl, rfl⟩)
        go_round
        case rel => exact ⟨k + 1, by omega, by go_num, by rw [hs.out]; unfold stepN; rw [← HX.out]⟩
        case measure => simp [intOf]; omega
      · have hkl : k = l.length := by omega
        have hkl' := Lib.hid hkl
        clear hkl
        have hr := hlt0
        obtain ⟨r, hrr⟩ : ∃ r, crcFrom 4294967295 (l.take k) = r := ⟨_, rfl⟩
        rw [hrr] at hr ⊢
        have hrr' := Lib.hid hrr
        clear hrr hlt0
        go_wp2
        go_ret
        refine ⟨ret_int ?_, rfl⟩
        have e : crcN l = 4294967295 - r := by
          unfold crcN
          rw [← hrr'.out, hkl'.out, List.take_length]
        rw [e, not_u32 hr]

theorem byteT : ByteT Tryd.prog 22 5 := ⟨Tryd.underlying22, by kernel_rfl, Tryd.underlying5⟩
theorem val_u8 (n : Nat) : bv (UInt8.ofNat n) = .int .u8 ((n % 256 : Nat) : Int) := by simp [bv]

theorem two_calls (n : Nat) (hn : n < 65536) (w : World) :
    Calls Tryd.prog 48 #[.int .i64 n] w fun e w' => ∃ v, e = .returned v ∧ Own 5 w' w.heap.size v (be2 n) ∧ Kp NoB w w' := by
  go_enter Tryd.func48, Tryd.ntmps48
  go_wp2
  go_ret
  refine ⟨_, rfl, ?_, (Kp.refl _ _).alloc _⟩
  refine Own.lit _ _ _ (be2 n) 2 ?_ rfl (by simp [be2])
  simp [bvs, be2, bv]
  omega
theorem four_calls (n : Nat) (hn : n < 4294967296) (w : World) :
    Calls Tryd.prog 49 #[.int .u32 n] w fun e w' => ∃ v, e = .returned v ∧ Own 5 w' w.heap.size v (be4 n) ∧ Kp NoB w w' := by
  go_enter Tryd.func49, Tryd.ntmps49
  go_wp2
  go_ret
  refine ⟨_, rfl, ?_, (Kp.refl _ _).alloc _⟩
  refine Own.lit _ _ _ (be4 n) 4 ?_ rfl (by simp [be4])
  simp [bvs, be4, bv]
  omega

/-- slices.Clone of bytes. -/
theorem clone_calls (l : List UInt8) (v : Value) (w : World) (hv : BS AllB w v l) (hl : l.length ≤ 140737488355328) :
    Calls Tryd.prog 52 #[v] w fun e w' => ∃ v', e = .returned v' ∧ Own 5 w' w.heap.size v' l ∧ Kp NoB w w' := by
  obtain ⟨A, c, he, _, _, hn, _⟩ := id hv
  rcases A with _ | ad
  · have h0 := hn rfl
    subst he
    have hl0 : l = [] := by
      obtain ⟨A', c', he', h1, _, h2, _⟩ := id hv
      injection he' with e1 e2 e3
      have := h2 e1.symm
      exact List.eq_nil_of_length_eq_zero (by omega)
    subst hl0
    subst h0
    clear hv hn hl
    have hnil := fun w : World => Lib.run_eql_slice_nil (P := Tryd.prog) w 22 5 none 0 0 0 0 Tryd.underlying22
    go_enter Tryd.func52, Tryd.ntmps52
    go_wp2
    go_ret
    exact ⟨_, rfl, Own.nil _ _ _, Kp.refl _ _⟩
  · subst he
    clear hn
    have hne := fun w : World => Lib.run_eql_slice_nil (P := Tryd.prog) w 22 5 (some ad) l.length c 0 0 Tryd.underlying22
    have HV := Lib.hid hv
    clear hv
    go_enter Tryd.func52, Tryd.ntmps52
    go_wp2_with ((with_reducible refine gate_dst (N := 7) rfl ?_); go_must (refine wp_appK (w0 := w) byteT NoB rfl _ _ rfl _ _ [] l rfl rfl AllB (Own.lit _ _ _ [] 0 rfl rfl (by simp)) ((Kp.refl _ _).alloc _) (HV.out.nob ((Kp.refl _ _).alloc _)) (by simpa using hl) ?_); intro v' w' ho hk)
    go_ret
    exact ⟨_, rfl, by simpa using ho, hk⟩

set_option maxRecDepth 100000 in
/-- slices.Grow(nil, n). -/
theorem grow_calls (n : Nat) (w : World) (hn : n ≤ 140737488355328) :
    Calls Tryd.prog 69 #[.slice none 0 0, .int .i64 n] w fun e w' => ∃ v', e = .returned v' ∧ Own 5 w' w.heap.size v' [] ∧ Kp NoB w w' := by
  rcases Nat.eq_zero_or_pos n with rfl | h0
  · go_enter Tryd.func69, Tryd.ntmps69
    go_wp2
    go_ret
    exact ⟨_, rfl, Own.nil _ _ _, Kp.refl _ _⟩
  · obtain ⟨i0, hi, hzz⟩ := Option.map_eq_some_iff.1 byteT.info
    simp only [Prod.mk.injEq] at hzz
    obtain ⟨hz0, hz1, hz2⟩ := hzz
    have hrun := Lib.run_append_nil_zeros (P := Tryd.prog) w 22 3 22 5 i0 (.int .u8 0) .i64 .i64 Tryd.underlying22 Tryd.underlying3 hi hz0 n h0 (by omega) (by omega) (by rw [hz2]; omega)
    have hge := grownCap_ge w n 0 5
    have hcm := grownCap_le_maxLen w n 0 5 (by simp only [maxLen]; omega)
    generalize hgc : grownCap w n 0 5 = gc at *
    generalize hcs : (Builtin.zeroCells (Value.int IntKind.u8 0).cells n ++ Builtin.zeroCells (Value.int IntKind.u8 0).cells (gc - n)) = cs at *
    have hcsz : cs.size = gc := by
      rw [← hcs]
      simp [size_zeroCells, Value.cells]
      omega
    have HR := Lib.hid hrun
    have HS := Lib.hid hcsz
    have HC := Lib.hid hcm
    clear hrun hcsz hgc hcs hz0 hz1 hz2 hi hcm
    go_enter Tryd.func69, Tryd.ntmps69
    go_wp2_with ((with_reducible refine gate_dst (N := 22) rfl ?_); go_must (refine Lib.wpList_append_run _ rfl _ _ _ _ rfl _ _ rfl rfl _ _ HR.out ?_))
    go_ret
    have h := World.ownsRow_made (base := w.heap.size) (e := 5) (size := 1) w.drew cs gc (Nat.le_refl _) HC.out (by rw [HS.out]; omega)
    exact ⟨_, rfl, h, ((Kp.refl _ _).drew).alloc _⟩
end Go.Proofs.YtgjaggnpheoehaaDoor
