/- The walk of the law DiskKnown. -/
import Derived.Test.YtgjaggnpheoehaaDNone
set_option linter.unusedVariables false
set_option linter.unusedSimpArgs false
namespace Go.Proofs.Ytgjaggnpheoehaa
open Go.RowKit

def kc0 : DD := ⟨4, false, [], [], []⟩
def kc1 : DD := writeD kc0 0 [1, 2, 3, 4]
def ks0 : DD := ⟨0, false, [], [], []⟩
def ks1 : DD := writeD ks0 0 []
def kd0 : DD := ⟨10, false, [], [], []⟩
def kd1 : DD := writeD kd0 0 [1, 2]
def kd2 : DD := writeD kd1 2 [3, 4]
def kd3 : DD := writeD kd2 4 [5, 6]
def kd4 : DD := { kd3 with sure := crashL kd3.sure kd3.waits [1, 0, 1], seen := crashL kd3.sure kd3.waits [1, 0, 1], waits := [] }

set_option maxRecDepth 100000 in
set_option maxHeartbeats 8000000 in
theorem diskKnown_walk (w : World) : Calls Try.prog 6 #[] w fun e w' => e = .returned (.bool true) ∧ Kp NoB w w' := by
  have kz : Kp NoB w (w.alloc (.cells #[.slice none 0 0, .slice none 0 0, .slice none 0 0, .int .i64 0, .bool false, .bool false] 46)) := (Kp.refl _ _).alloc _
  have hz : NoDisk (w.alloc (.cells #[.slice none 0 0, .slice none 0 0, .slice none 0 0, .int .i64 0, .bool false, .bool false] 46)) (.pointer (some ⟨w.heap.size, 0, none⟩)) := .inr ⟨_, rfl, by
    simp only [World.cell?, heap_alloc_new w (.cells #[.slice none 0 0, .slice none 0 0, .slice none 0 0, .int .i64 0, .bool false, .bool false] 46)]
    rfl⟩
  have HZ := Lib.hid hz
  clear hz
  go_enter Try.func6, Try.ntmps6
  go_wp2_with fail
  refine (writeN_calls (.inl rfl) _ _).mono ?_
  rintro e wz ⟨rfl, rfl⟩
  go_wp2_with fail
  refine (syncN_calls HZ.out).mono ?_
  rintro e wz ⟨rfl, rfl⟩
  go_wp2_with fail
  refine (crashN_calls (.inl rfl) _).mono ?_
  rintro e wz ⟨rfl, rfl⟩
  go_wp2_with fail
  refine (fillN_calls HZ.out _).mono ?_
  rintro e wz ⟨rfl, rfl⟩
  go_wp2_with fail
  refine (endN_calls (.inl rfl)).mono ?_
  rintro e wz ⟨rfl, rfl⟩
  go_wp2_with fail
  refine (waitsN_calls HZ.out).mono ?_
  rintro e wz ⟨rfl, rfl⟩
  go_wp2_with fail
  refine (readN_calls (.inl rfl) _ _).mono ?_
  rintro e wz ⟨rfl, rfl⟩
  go_wp2_with fail
  refine (copyN_calls (.inl rfl)).mono ?_
  rintro e wz ⟨rfl, rfl⟩
  generalize w.alloc (.cells #[.slice none 0 0, .slice none 0 0, .slice none 0 0, .int .i64 0, .bool false, .bool false] 46) = w0 at *
  go_wp2_with fail
  refine (newN_calls (-1) (by decide) _).mono ?_
  rintro e wz ⟨rfl, rfl⟩
  go_wp2_with fail
  refine (newN_calls 1048577 (by decide) _).mono ?_
  rintro e wz ⟨rfl, rfl⟩
  go_wp2_with fail
  refine (new_calls 4 (by decide) w0).mono ?_
  rintro e w1 ⟨pc, rfl, c, kc⟩
  obtain ⟨qc, rfl⟩ := c.ptr
  have mc : Made w0 (fun k => k = w0.heap.size) w1 := ⟨kc, fun k h => by omega⟩
  change DiskIs _ _ _ _ kc0 at c
  generalize (fun k => k = w0.heap.size) = F1 at *
  clear kc
  go_wp2_with fail
  refine (new_calls 0 (by decide) w1).mono ?_
  rintro e w2 ⟨ps, rfl, s, ks⟩
  obtain ⟨qs, rfl⟩ := s.ptr
  have ms : Made w1 (fun k => k = w1.heap.size) w2 := ⟨ks, fun k h => by omega⟩
  change DiskIs _ _ _ _ ks0 at s
  generalize (fun k => k = w1.heap.size) = G2 at *
  clear ks
  go_wp2_with fail
  refine (writeL_calls s 0 [1] 1 _ rfl rfl (by decide) (by decide) (by decide)).mono ?_
  rintro e w3 ⟨rfl, G3, RG3, ns, ss⟩
  rw [show writeE ks0 0 [1] = 7 by decide]
  have nms := ms.step ss
  have s : DiskIs w3 G3 RG3 (.pointer (some qs)) ks0 := ns
  have ms := nms
  clear ns ss nms
  go_wp2_with fail
  refine (write_calls s 0 [] (.slice none 0 0) (BS.nil _ _) (by decide) (by decide)).mono ?_
  rintro e w4 ⟨rfl, G4, RG4, ns, ss⟩
  rw [show writeE ks0 0 [] = 0 by decide]
  have nms := ms.step ss
  have s : DiskIs w4 G4 RG4 (.pointer (some qs)) ks1 := ns
  have ms := nms
  clear ns ss nms
  go_wp2_with fail
  refine (waits_calls s).mono ?_
  rintro e wz ⟨rfl, rfl⟩
  rw [show ks1.waits.length = 1 by decide]
  have c := c.nob ms.kp
  have mc := mc.nob ms.kp
  clear s ms
  go_wp2_with fail
  refine (write_calls c 1 [] (.slice none 0 0) (BS.nil _ _) (by decide) (by decide)).mono ?_
  rintro e w5 ⟨rfl, F5, RF5, nc, sc⟩
  rw [show writeE kc0 1 [] = 1 by decide]
  have nmc := mc.step sc
  have c : DiskIs w5 F5 RF5 (.pointer (some qc)) kc0 := nc
  have mc := nmc
  clear nc sc nmc
  go_wp2_with fail
  refine (writeL_calls c 0 [1, 2, 3, 4, 5] 5 _ rfl rfl (by decide) (by decide) (by decide)).mono ?_
  rintro e w6 ⟨rfl, F6, RF6, nc, sc⟩
  rw [show writeE kc0 0 [1, 2, 3, 4, 5] = 7 by decide]
  have nmc := mc.step sc
  have c : DiskIs w6 F6 RF6 (.pointer (some qc)) kc0 := nc
  have mc := nmc
  clear nc sc nmc
  go_wp2_with fail
  refine (writeL_calls c 0 [1, 2, 3, 4] 4 _ rfl rfl (by decide) (by decide) (by decide)).mono ?_
  rintro e w7 ⟨rfl, F7, RF7, nc, sc⟩
  rw [show writeE kc0 0 [1, 2, 3, 4] = 0 by decide]
  have nmc := mc.step sc
  have c : DiskIs w7 F7 RF7 (.pointer (some qc)) kc1 := nc
  have mc := nmc
  clear nc sc nmc
  go_wp2_with fail
  refine (writeL_calls c 2 [9, 9, 9] 3 _ rfl rfl (by decide) (by decide) (by decide)).mono ?_
  rintro e w8 ⟨rfl, F8, RF8, nc, sc⟩
  rw [show writeE kc1 2 [9, 9, 9] = 7 by decide]
  have nmc := mc.step sc
  have c : DiskIs w8 F8 RF8 (.pointer (some qc)) kc1 := nc
  have mc := nmc
  clear nc sc nmc
  go_wp2_with fail
  have zw8 : w.heap.size ≤ w8.heap.size := (kz.trans mc.kp).size
  refine (new_calls 10 (by decide) w8).mono ?_
  rintro e w9 ⟨pd, rfl, d, kd⟩
  obtain ⟨qd, rfl⟩ := d.ptr
  have md : Made w8 (fun k => k = w8.heap.size) w9 := ⟨kd, fun k h => by omega⟩
  change DiskIs _ _ _ _ kd0 at d
  generalize (fun k => k = w8.heap.size) = H9 at *
  clear kd
  go_wp2_with fail
  refine (writeL_calls d 0 [1, 2] 2 _ rfl rfl (by decide) (by decide) (by decide)).mono ?_
  rintro e wa ⟨rfl, Ha, RHa, nd, sd⟩
  rw [show writeE kd0 0 [1, 2] = 0 by decide]
  have nmd := md.step sd
  have d : DiskIs wa Ha RHa (.pointer (some qd)) kd1 := nd
  have md := nmd
  clear nd sd nmd
  go_wp2_with fail
  refine (writeL_calls d 2 [3, 4] 2 _ rfl rfl (by decide) (by decide) (by decide)).mono ?_
  rintro e wb ⟨rfl, Hb, RHb, nd, sd⟩
  rw [show writeE kd1 2 [3, 4] = 0 by decide]
  have nmd := md.step sd
  have d : DiskIs wb Hb RHb (.pointer (some qd)) kd2 := nd
  have md := nmd
  clear nd sd nmd
  go_wp2_with fail
  refine (writeL_calls d 4 [5, 6] 2 _ rfl rfl (by decide) (by decide) (by decide)).mono ?_
  rintro e wc ⟨rfl, Hc, RHc, nd, sd⟩
  rw [show writeE kd2 4 [5, 6] = 0 by decide]
  have nmd := md.step sd
  have d : DiskIs wc Hc RHc (.pointer (some qd)) kd3 := nd
  have md := nmd
  clear nd sd nmd
  go_wp2_with fail
  refine (crashL_calls d [1, 0, 1] 3 _ rfl rfl (by decide) (by decide) (by decide)).mono ?_
  rintro e wd ⟨rfl, Hd, Rd, nd, sd⟩
  have md := md.step sd
  have d : DiskIs wd Hd Rd (.pointer (some qd)) kd4 := nd
  clear nd sd
  have c := c.nob md.kp
  have mw := (kz.trans mc.kp).trans md.kp
  clear mc kz
  go_wp2_with fail
  refine (read_calls c (-1) 3 (by decide) (by decide) (by decide)).mono ?_
  rintro e x1 ⟨v1, rfl, o1, k1⟩
  rw [show readL kc1.seen (-1) 3 = [] by decide] at o1
  have b1 := o1.bs.all
  have c := c.nob k1
  have d := d.nob k1
  have mw := mw.trans k1
  clear o1 k1
  obtain ⟨A1, g1, rfl⟩ := b1.len
  go_wp2_with fail
  refine (read_calls c 2 (-1) (by decide) (by decide) (by decide)).mono ?_
  rintro e x2 ⟨v2, rfl, o2, k2⟩
  rw [show readL kc1.seen 2 (-1) = [] by decide] at o2
  have b2 := o2.bs.all
  have c := c.nob k2
  have d := d.nob k2
  have mw := mw.trans k2
  clear o2 k2
  obtain ⟨A2, g2, rfl⟩ := b2.len
  go_wp2_with fail
  refine (read_calls c 9 1 (by decide) (by decide) (by decide)).mono ?_
  rintro e x3 ⟨v3, rfl, o3, k3⟩
  rw [show readL kc1.seen 9 1 = [] by decide] at o3
  have b3 := o3.bs.all
  have c := c.nob k3
  have d := d.nob k3
  have mw := mw.trans k3
  clear o3 k3
  obtain ⟨A3, g3, rfl⟩ := b3.len
  go_wp2_with fail
  refine (read_calls c 2 9 (by decide) (by decide) (by decide)).mono ?_
  rintro e x4 ⟨v4, rfl, o4, k4⟩
  rw [show readL kc1.seen 2 9 = [3, 4] by decide] at o4
  have b4 := o4.bs.all
  have c := c.nob k4
  have d := d.nob k4
  have mw := mw.trans k4
  clear o4 k4
  obtain ⟨A4, g4, rfl⟩ := b4.len
  go_wp2_with fail
  refine (equalL_calls _ [3, 4] _ x4 2 _ rfl rfl (by decide) b4).mono ?_
  rintro e y4 ⟨rfl, kA⟩
  have c := c.nob kA
  have d := d.nob kA
  have mw := mw.trans kA
  clear kA b4
  go_wp2_with fail
  refine (read_calls d 0 10 (by decide) (by decide) (by decide)).mono ?_
  rintro e x5 ⟨v5, rfl, o5, k5⟩
  rw [show readL kd4.seen 0 10 = [1, 0, 0, 0, 5] by decide] at o5
  have b5 := o5.bs.all
  have c := c.nob k5
  have d := d.nob k5
  have mw := mw.trans k5
  clear o5 k5
  obtain ⟨A5, g5, rfl⟩ := b5.len
  go_wp2_with fail
  refine (equalL_calls _ [1, 0, 0, 0, 5] _ x5 5 _ rfl rfl (by decide) b5).mono ?_
  rintro e y5 ⟨rfl, kA⟩
  have c := c.nob kA
  have d := d.nob kA
  have mw := mw.trans kA
  clear kA b5
  have hdn := fun k hk => Nat.le_trans (show w.heap.size ≤ w8.heap.size from zw8) (md.new k hk)
  go_wp2_with fail
  refine (writeL_calls d 5 [1] 1 _ rfl rfl (by decide) (by decide) (by decide)).mono ?_
  rintro e y6 ⟨rfl, H6, R6, n6, s6⟩
  rw [show writeE kd4 5 [1] = 0 by decide]
  have mw := mw.step s6.kp fun i hi hf => by have := hdn i hf; omega
  clear c d n6 s6
  go_wp2_with fail
  refine (wakes_calls _).mono ?_
  rintro e y7 ⟨rfl, k7⟩
  go_wp2_with fail
  go_ret
  exact ⟨rfl, mw.trans k7⟩
end Go.Proofs.Ytgjaggnpheoehaa
