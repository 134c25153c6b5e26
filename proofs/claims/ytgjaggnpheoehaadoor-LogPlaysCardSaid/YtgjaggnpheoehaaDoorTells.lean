/- postriderlaw02.tells returns true. -/
import Derived.Test.YtgjaggnpheoehaaDoorRef2
set_option linter.unusedVariables false
set_option linter.unusedSimpArgs false
namespace Go.Proofs.YtgjaggnpheoehaaDoor
open Go.RowKit

def nine : List UInt8 := [49, 50, 51, 52, 53, 54, 55, 56, 57]
theorem crc_nine : crcN nine = 3421780262 := by decide +kernel
theorem seal_a : (sealN 0 1 [97]).take 6 = [0, 1, 0, 0, 0, 1] := by simp [sealN, be2, be4]
theorem seal_a_len : (sealN 0 1 [97]).length = 11 := by rw [length_sealN]; rfl
theorem seal_a10 : (sealN 0 1 [97])[10]'(by rw [seal_a_len]; decide) = 97 := by simp [sealN, be2, be4]

set_option maxRecDepth 100000 in
theorem tells_calls (w : World) (hT : TabOk w) :
    Calls Tryd.prog 20 #[] w fun e w' => e = .returned (.bool true) ∧ Kp NoB w w' := by
  have kc := fun (w : World) (C : Array Value) (n c : Nat) => Lib.run_convert_bytes_const (P := Tryd.prog) w 22 5 C n c Tryd.underlying22 Tryd.underlying5
  go_enter Tryd.func20, Tryd.ntmps20
  go_wp2_with fail
  have o1 := BS.lit 5 w #[.int .u8 97] (1, 2) [97] 1 (by simp [bvs, bv]) rfl (by simp)
  refine (seal_calls 0 1 [97] _ _ (hT.nob ((Kp.refl _ _).alloc _)) (by decide) (by decide) o1.all (by decide)).mono ?_
  rintro e w1 ⟨v1, rfl, ho1, hk1⟩
  have hk01 := ((Kp.refl NoB w).alloc _).trans hk1
  clear o1 hk1
  obtain ⟨b, off, c, rfl, hc, hcell⟩ := ho1.bs.pos 11 seal_a_len (by decide)
  have hb1 := ho1.bs.all
  have hc10 := hcell 10 (by rw [seal_a_len]; decide)
  rw [seal_a10] at hc10
  have H10 := Lib.hid hc10
  clear hcell hc10 ho1
  go_wp2_with fail
  have o2 := BS.lit 5 w1 #[.int .u8 49, .int .u8 50, .int .u8 51, .int .u8 52, .int .u8 53, .int .u8 54, .int .u8 55, .int .u8 56, .int .u8 57] (9, 10) nine 9 (by simp [bvs, bv, nine]) rfl (by simp [nine])
  have hk12 := (Kp.refl NoB w1).alloc (.cells #[.int .u8 49, .int .u8 50, .int .u8 51, .int .u8 52, .int .u8 53, .int .u8 54, .int .u8 55, .int .u8 56, .int .u8 57] 5 (9, 10))
  refine (crc_calls nine _ _ (hT.nob (hk01.trans hk12)) o2.all).mono ?_
  rintro e w2 ⟨rfl, hw2⟩
  subst hw2
  rw [crc_nine]
  have hc10 := hk12.cell H10.out id
  have hb2 := hb1.nob hk12
  have hk02 := hk01.trans hk12
  unfold bv at hc10
  clear kc o2 hb1 hk01 hk12 hT
  go_wp2_with (first
    | ((with_reducible refine gate_dst (N := 24) rfl ?_); go_must (refine gate_guard (by rfl) ?_; refine wp_cut0 byteT rfl _ _ rfl AllB _ _ rfl hb2 6 (by rw [seal_a_len]; decide) .i64 rfl ?_); intro v3 hv3; rw [seal_a] at hv3)
    | ((with_reducible refine gate_dst (N := 25) rfl ?_); go_must (refine gate_guard (by rfl) ?_; refine wp_string byteT rfl _ 9 Tryd.underlying9 rfl AllB _ _ rfl hv3 ?_)))
  go_ret
  exact ⟨rfl, hk02⟩
end Go.Proofs.YtgjaggnpheoehaaDoor
