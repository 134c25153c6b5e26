/- The document's example of a disk: law01's wakes. -/
import Derived.Test.YtgjaggnpheoehaaDisk6
set_option linter.unusedVariables false
set_option linter.unusedSimpArgs false
namespace Go.Proofs.Ytgjaggnpheoehaa
open Go.RowKit

def dw1 : DD := writeD ⟨100, false, [], [], []⟩ 0 [1, 2, 3]
def dw2 : DD := { dw1 with sure := dw1.seen, waits := [] }
def dw3 : DD := writeD dw2 1 [8, 9, 7]
def dw4 : DD := writeD dw3 4 [5, 5]
def dw5 (k : List Int) : DD := { dw4 with sure := crashL dw4.sure dw4.waits k, seen := crashL dw4.sure dw4.waits k, waits := [] }

set_option maxRecDepth 100000 in
set_option maxHeartbeats 4000000 in
theorem wakes_calls (w : World) : Calls Try.prog 18 #[] w fun e w' => e = .returned (.bool true) ∧ Kp NoB w w' := by
  go_enter Try.func18, Try.ntmps18
  go_wp2_with fail
  refine (new_calls 100 (by decide) w).mono ?_
  rintro e w1 ⟨p, rfl, d1, k1⟩
  obtain ⟨q, rfl⟩ := d1.ptr
  have m1 : Made w (fun k => k = w.heap.size) w1 := ⟨k1, fun k h => by omega⟩
  generalize (fun k => k = w.heap.size) = F1 at *
  clear k1
  go_wp2_with fail
  refine (writeL_calls d1 0 [1, 2, 3] 3 _ rfl rfl (by decide) (by decide) (by decide)).mono ?_
  rintro e w2 ⟨rfl, F2, R2, d2, s2⟩
  have m2 := m1.step s2
  clear m1 s2 d1
  change DiskIs w2 F2 R2 _ dw1 at d2
  go_wp2_with fail
  refine (sync_calls d2).mono ?_
  rintro e w3 ⟨rfl, F3, R3, d3, s3⟩
  have m3 := m2.step s3
  clear m2 s3 d2
  change DiskIs w3 F3 R3 _ dw2 at d3
  go_wp2_with fail
  refine (writeL_calls d3 1 [8, 9, 7] 3 _ rfl rfl (by decide) (by decide) (by decide)).mono ?_
  rintro e w4 ⟨rfl, F4, R4, d4, s4⟩
  have m4 := m3.step s4
  clear m3 s4 d3
  change DiskIs w4 F4 R4 _ dw3 at d4
  go_wp2_with fail
  refine (writeL_calls d4 4 [5, 5] 2 _ rfl rfl (by decide) (by decide) (by decide)).mono ?_
  rintro e w5 ⟨rfl, F5, R5, d5, s5⟩
  have m5 := m4.step s5
  clear m4 s5 d4
  change DiskIs w5 F5 R5 _ dw4 at d5
  go_wp2_with fail
  refine (copy_calls d5 (by decide)).mono ?_
  rintro e w6 ⟨p6, rfl, c6, k6⟩
  obtain ⟨q6, rfl⟩ := c6.ptr
  have d6 := d5.nob k6
  have m6 := m5.nob k6
  have l5 := d5.lt
  have r5 := d5.hR
  have sw5 := m5.kp.size
  have s56 := k6.size
  clear d5 m5
  go_wp2_with fail
  refine (read_calls d6 0 9 (by decide) (by decide) (by decide)).mono ?_
  rintro e w7 ⟨v7, rfl, o7, k7⟩
  rw [show readL dw4.seen 0 9 = [1, 8, 9, 7, 5, 5] by decide] at o7
  have b7 : BS (fun b => w6.heap.size ≤ b) w7 v7 [1, 8, 9, 7, 5, 5] := o7.bs.mono fun _ _ h => h.1
  have d7 := d6.nob k7
  have c7 := c6.nob k7
  have m7 := m6.nob k7
  have s67 := k7.size
  clear d6 c6 m6 o7
  obtain ⟨A7, cc7, rfl⟩ := b7.len
  go_wp2_with fail
  refine (crashL_calls d7 [1, 2] 2 _ rfl rfl (by decide) (by decide) (by decide)).mono ?_
  rintro e w8 ⟨rfl, F8, R8, d8, s8⟩
  have m8 := m7.step s8
  have c8 := c7.kp s8.kp fun i _ hf => ⟨fun h => by have := l5 i hf; omega, fun h => (r5 i h).2 hf⟩
  have b8 := b7.kp s8.kp fun i _ h hf => by have := l5 i hf; omega
  have f8 := s8.f
  have g8 := s8.r
  have s78 := s8.kp.size
  clear d7 m7 c7 b7 s8
  change DiskIs w8 F8 R8 _ (dw5 [1, 2]) at d8
  go_wp2_with fail
  refine (crash_calls c8 [] (.slice none 0 0) (Vals.nil _ _) (by simp) (by decide)).mono ?_
  rintro e w9 ⟨rfl, F9, R9, c9, s9⟩
  have m9 : Made w F8 w9 := ⟨m8.kp.step s9.kp fun i hi h => by omega, m8.new⟩
  have d9 := d8.kp s9.kp fun i _ hf => ⟨fun h => (f8 i h).elim (fun h => by have := l5 i h; omega) (fun h => by omega), fun h => (g8 i h).elim (fun h => by have := (r5 i h).1; omega) (fun h => by omega)⟩
  have b9 := b8.kp s9.kp fun i _ h hf => by omega
  change DiskIs w9 F9 R9 _ (dw5 []) at c9
  clear d8 c8 b8 m8 s9 f8 g8 l5 r5
  go_wp2_with fail
  refine (equalL_calls _ [1, 8, 9, 7, 5, 5] _ w9 6 _ rfl rfl (by decide) b9.all).mono ?_
  rintro e wa ⟨rfl, kA⟩
  have da := d9.nob kA
  have ca := c9.nob kA
  have ma := m9.nob kA
  clear d9 c9 m9 b9 kA
  go_wp2_with fail
  refine (read_calls da 0 9 (by decide) (by decide) (by decide)).mono ?_
  rintro e wb ⟨vb, rfl, ob, kb⟩
  rw [show readL (dw5 [1, 2]).seen 0 9 = [1, 8, 3, 0, 5, 5] by decide] at ob
  have cb := ca.nob kb
  have mb := ma.nob kb
  have bb := ob.bs.all
  clear da ca ma kb ob
  obtain ⟨Ab, ccb, rfl⟩ := bb.len
  go_wp2_with fail
  refine (equalL_calls _ [1, 8, 3, 0, 5, 5] _ wb 6 _ rfl rfl (by decide) bb).mono ?_
  rintro e wc ⟨rfl, kA⟩
  have cc := cb.nob kA
  have mc := mb.nob kA
  clear cb mb bb kA
  go_wp2_with fail
  refine (read_calls cc 0 9 (by decide) (by decide) (by decide)).mono ?_
  rintro e wd ⟨vd, rfl, od, kd⟩
  rw [show readL (dw5 []).seen 0 9 = [1, 2, 3] by decide] at od
  have md := mc.nob kd
  have bd := od.bs.all
  clear cc mc kd od
  obtain ⟨Ad, ccd, rfl⟩ := bd.len
  go_wp2_with fail
  refine (equalL_calls _ [1, 2, 3] _ wd 3 _ rfl rfl (by decide) bd).mono ?_
  rintro e we ⟨rfl, kA⟩
  have me := md.kp.trans kA
  clear md bd kA
  go_wp2_with fail
  go_ret
  exact ⟨rfl, me⟩
end Go.Proofs.Ytgjaggnpheoehaa
