/- postriderlaw10.tells returns true. -/
import Derived.Test.YtdplpcmpjkcocaaDoorShaJ
import Derived.Test.YtdplpcmpjkcocaaDoorShaKnown
import Derived.Lib.ConvBytes
set_option linter.unusedVariables false
set_option linter.unusedSimpArgs false
namespace Go.Proofs.YtdplpcmpjkcocaaDoor
open Go.RowKit

def jefe : List UInt8 := [74, 101, 102, 101]
def whatDo : List UInt8 := [119, 104, 97, 116, 32, 100, 111, 32, 121, 97, 32, 119, 97, 110, 116, 32, 102, 111, 114, 32, 110, 111, 116, 104, 105, 110, 103, 63]
def abcH : List UInt8 := [0xa9, 0x99, 0x3e, 0x36, 0x47, 0x06, 0x81, 0x6a, 0xba, 0x3e, 0x25, 0x71, 0x78, 0x50, 0xc2, 0x6c, 0x9c, 0xd0, 0xd8, 0x9d]
def jefeH : List UInt8 := [0xef, 0xfc, 0xdf, 0x6a, 0xe5, 0xeb, 0x2f, 0xa2, 0xd2, 0x74, 0x16, 0xd5, 0xf1, 0x84, 0xdf, 0x9c, 0x25, 0x9a, 0x7c, 0x79]
theorem sha_abc' : shaN [97, 98, 99] = abcH := sha_abc
theorem hmac_jefe' : hmacN jefe whatDo = jefeH := hmac_jefe

set_option maxRecDepth 100000 in
set_option maxHeartbeats 2000000 in
theorem tells_calls (w : World) (hT : HashOk w) :
    Calls Tryd.prog 11 #[] w fun e w' => e = .returned (.bool true) ∧ Kp NoB w w' := by
  have kc := fun (w : World) (C : Array Value) (n c : Nat) => Lib.run_convert_bytes_const (P := Tryd.prog) w 22 5 C n c Tryd.underlying22 Tryd.underlying5
  have hz := zero20
  have HT := Lib.hid hT
  clear hT
  go_enter Tryd.func11, Tryd.ntmps11
  go_wp2_with fail
  have o1 := BS.lit 5 w #[.int .u8 97, .int .u8 98, .int .u8 99] (3, 4) [97, 98, 99] 3 (by simp [bvs, bv]) rfl (by simp)
  have k1 : Kp NoB w (w.alloc (.cells #[.int .u8 97, .int .u8 98, .int .u8 99] 5 (3, 4))) := (Kp.refl _ _).alloc _
  refine (sha_calls [97, 98, 99] _ _ (HT.out.nob k1) o1.all (by decide)).mono ?_
  rintro e w1 ⟨rfl, k1'⟩
  rw [sha_abc']
  obtain ⟨w2, a2, k2, hw2⟩ := arr20_made w1 abcH rfl
  have k02 := (k1.trans k1').trans k2
  have A2 := Lib.hid a2
  have K02 := Lib.hid k02
  have HW2 := Lib.hid hw2
  have kc2 := kc (w2.alloc (.cells #[.int .u8 74, .int .u8 101, .int .u8 102, .int .u8 101] 5 (4, 5))) #[.int .u8 119, .int .u8 104, .int .u8 97, .int .u8 116, .int .u8 32, .int .u8 100, .int .u8 111, .int .u8 32, .int .u8 121, .int .u8 97, .int .u8 32, .int .u8 119, .int .u8 97, .int .u8 110, .int .u8 116, .int .u8 32, .int .u8 102, .int .u8 111, .int .u8 114, .int .u8 32, .int .u8 110, .int .u8 111, .int .u8 116, .int .u8 104, .int .u8 105, .int .u8 110, .int .u8 103, .int .u8 63] 28 28
  have e2 : (w2.alloc (.cells #[.int .u8 74, .int .u8 101, .int .u8 102, .int .u8 101] 5 (4, 5))).heap.size = w2.heap.size + 1 := by simp
  rw [e2] at kc2
  clear o1 k1 k1' a2 k2 hw2 k02 e2
  go_wp2_with (first
    | ((with_reducible refine gate_op (Op.store 23 (.tmp 1) (.tmp 5)) rfl ?_); go_must (refine wpList_store_mid rfl 23 _ _ rfl w1.heap.size 0 (bvs abcH).toArray rfl rfl (by have := there20 w1; simpa [bvs_length, abcH] using this) (size20 abcH rfl) (all_oneCell_toArray (bvs_one _)) ?_); rw [← HW2.out])
    | fail)
  have o3 := BS.lit 5 w2 #[.int .u8 74, .int .u8 101, .int .u8 102, .int .u8 101] (4, 5) jefe 4 (by simp [bvs, bv, jefe]) rfl (by simp [jefe])
  have k3 : Kp NoB w2 (w2.alloc (.cells #[.int .u8 74, .int .u8 101, .int .u8 102, .int .u8 101] 5 (4, 5))) := (Kp.refl _ _).alloc _
  have e3 : (w2.alloc (.cells #[.int .u8 74, .int .u8 101, .int .u8 102, .int .u8 101] 5 (4, 5))).heap.size = w2.heap.size + 1 := by simp
  have o4 := BS.lit 5 (w2.alloc (.cells #[.int .u8 74, .int .u8 101, .int .u8 102, .int .u8 101] 5 (4, 5))) #[.int .u8 119, .int .u8 104, .int .u8 97, .int .u8 116, .int .u8 32, .int .u8 100, .int .u8 111, .int .u8 32, .int .u8 121, .int .u8 97, .int .u8 32, .int .u8 119, .int .u8 97, .int .u8 110, .int .u8 116, .int .u8 32, .int .u8 102, .int .u8 111, .int .u8 114, .int .u8 32, .int .u8 110, .int .u8 111, .int .u8 116, .int .u8 104, .int .u8 105, .int .u8 110, .int .u8 103, .int .u8 63] (28, 29) whatDo 28 (by simp [bvs, bv, whatDo]) rfl (by simp [whatDo])
  have k4 : Kp NoB (w2.alloc (.cells #[.int .u8 74, .int .u8 101, .int .u8 102, .int .u8 101] 5 (4, 5))) ((w2.alloc (.cells #[.int .u8 74, .int .u8 101, .int .u8 102, .int .u8 101] 5 (4, 5))).alloc (.cells #[.int .u8 119, .int .u8 104, .int .u8 97, .int .u8 116, .int .u8 32, .int .u8 100, .int .u8 111, .int .u8 32, .int .u8 121, .int .u8 97, .int .u8 32, .int .u8 119, .int .u8 97, .int .u8 110, .int .u8 116, .int .u8 32, .int .u8 102, .int .u8 111, .int .u8 114, .int .u8 32, .int .u8 110, .int .u8 111, .int .u8 116, .int .u8 104, .int .u8 105, .int .u8 110, .int .u8 103, .int .u8 63] 5 (28, 29))) := (Kp.refl _ _).alloc _
  rw [e3] at o4
  refine (hmac_calls jefe whatDo _ _ _ (((HT.out.nob K02.out).nob k3).nob k4) (o3.all.nob k4) o4.all (by decide) (by decide)).mono ?_
  rintro e w5 ⟨rfl, k5⟩
  rw [hmac_jefe']
  obtain ⟨w6, a6, k6, hw6⟩ := arr20_made w5 jefeH rfl
  have k26 := ((k3.trans k4).trans k5).trans k6
  have hb1 := (A2.out.nob k26).bs 20 rfl
  have hb2 := a6.bs 20 rfl
  have K06 := Lib.hid (K02.out.trans k26)
  have HW6 := Lib.hid hw6
  clear o3 o4 k3 k4 e3 k5 a6 k6 hw6 k26 kc
  go_wp2_with (first
    | ((with_reducible refine gate_op (Op.store 23 (.tmp 2) (.tmp 10)) rfl ?_); go_must (refine wpList_store_mid rfl 23 _ _ rfl w5.heap.size 0 (bvs jefeH).toArray rfl rfl (by have := there20 w5; simpa [bvs_length, jefeH] using this) (size20 jefeH rfl) (all_oneCell_toArray (bvs_one _)) ?_); rw [← HW6.out])
    | ((with_reducible refine gate_dst (N := 12) rfl ?_); go_must (refine wp_string byteT rfl _ 9 Tryd.underlying9 rfl AllB _ _ rfl hb1 ?_))
    | ((with_reducible refine gate_dst (N := 16) rfl ?_); go_must (refine gate_guard (by rfl) ?_; refine wp_string byteT rfl _ 9 Tryd.underlying9 rfl AllB _ _ rfl hb2 ?_))
    | fail)
  go_ret
  exact ⟨rfl, K06.out⟩
end Go.Proofs.YtdplpcmpjkcocaaDoor
