/- A log and its disk, made since w0; the document's example of a log (wakes). -/
import Derived.Test.YtgjaggnpheoehaaDoorLogP
set_option linter.unusedVariables false
set_option linter.unusedSimpArgs false
namespace Go.Proofs.YtgjaggnpheoehaaDoor
open Go.RowKit

theorem Made.lstep {w0 w w' : World} {b : Nat} {F R F' R' : Nat → Prop} (h : Made w0 F w) (k : LStep b F R w w' F' R') (hb : w0.heap.size ≤ b) : Made w0 F' w' :=
  ⟨h.kp.step k.kp fun i hi hf => by
      rcases hf with hf | hf
      · have := h.new i hf; omega
      · omega,
   fun i hi => (k.f i hi).elim (h.new i) fun hge => Nat.le_trans h.kp.size hge⟩
theorem Made.tab {w0 w : World} {F : Nat → Prop} (h : Made w0 F w) (hT : TabOk w0) : TabOk w := hT.nob h.kp
theorem Made.zero {w0 w : World} {F : Nat → Prop} (h : Made w0 F w) (hT : TabOk w0) : ¬ F 0 := fun hf => by
  have h1 := h.new 0 hf
  have h2 := World.block_lt_of_cell? w0 _ (hT 0 (by decide))
  simp only at h2
  omega
/-- A log at block b over the disk q. -/
structure LD (w0 w : World) (b : Nat) (q : Addr) (F R : Nat → Prop) (ps : List (List UInt8)) (s : Nat) (D : DD) : Prop where
  log : LogAt w b (.pointer (some q)) ps s
  dsk : DiskIs w F R (.pointer (some q)) D
  nF : ¬ F b
  nR : ¬ R b
  made : Made w0 F w
  bn : w0.heap.size ≤ b
  tab : TabOk w0
theorem LD.nob {w0 w w' : World} {b : Nat} {q : Addr} {F R : Nat → Prop} {ps : List (List UInt8)} {s : Nat} {D : DD} (h : LD w0 w b q F R ps s D) (k : Kp NoB w w') : LD w0 w' b q F R ps s D :=
  ⟨h.log.nob k, h.dsk.nob k, h.nF, h.nR, h.made.nob k, h.bn, h.tab⟩
theorem LD.b0 {w0 w : World} {b : Nat} {q : Addr} {F R : Nat → Prop} {ps : List (List UInt8)} {s : Nat} {D : DD} (h : LD w0 w b q F R ps s D) : b ≠ 0 := by
  have h2 := World.block_lt_of_cell? w0 _ (h.tab 0 (by decide))
  have := h.bn
  simp only at h2
  omega
/-- What lies apart from a log and its disk. -/
theorem Vals.lstep {w w' : World} {b : Nat} {F R F' R' : Nat → Prop} {v : Value} {us : List Value} (h : Vals (fun k => ¬ F k ∧ k ≠ b) w v us) (k : LStep b F R w w' F' R') : Vals (fun k => ¬ F' k ∧ k ≠ b) w' v us :=
  ((h.mono (T := fun k => (¬ F k ∧ k ≠ b) ∧ k < w.heap.size) fun i hi h => ⟨h, hi⟩).kp k.kp fun i _ hi hf => hf.elim hi.1.1 hi.1.2).mono fun i _ hi => ⟨fun hf => (k.f i hf).elim hi.1.1 fun h => by have := hi.2; omega, hi.1.2⟩
theorem BS.lstep {w w' : World} {b : Nat} {F R F' R' : Nat → Prop} {v : Value} {l : List UInt8} (h : BS (fun k => ¬ F k ∧ k ≠ b) w v l) (k : LStep b F R w w' F' R') : BS (fun k => ¬ F' k ∧ k ≠ b) w' v l :=
  ((h.mono (T := fun k => (¬ F k ∧ k ≠ b) ∧ k < w.heap.size) fun i hi h => ⟨h, hi⟩).kp k.kp fun i _ hi hf => hf.elim hi.1.1 hi.1.2).mono fun i _ hi => ⟨fun hf => (k.f i hf).elim hi.1.1 fun h => by have := hi.2; omega, hi.1.2⟩
theorem RS.lstep {w w' : World} {b : Nat} {F R F' R' : Nat → Prop} {us : List Value} {ls : List (List UInt8)} (h : RS (fun k => ¬ F k ∧ k ≠ b) w us ls) (k : LStep b F R w w' F' R') : RS (fun k => ¬ F' k ∧ k ≠ b) w' us ls :=
  ⟨h.1, fun i h1 h2 => (h.2 i h1 h2).lstep k⟩
section
variable {w0 w : World} {b : Nat} {q : Addr} {F R : Nat → Prop} {ps : List (List UInt8)} {s : Nat} {D : DD}
theorem ld_append (h : LD w0 w b q F R ps s D) (p : List UInt8) (vp : Value) (hp : BS (Out F w) w vp p) (hE : appE D ps p = 0) (hw : D.waits.length ≤ 1000000) :
    Calls Tryd.prog 25 #[.pointer (some ⟨b, 0, none⟩), vp] w fun e w' => e = .returned (.tuple #[.int .u32 ((ps.length + 1 : Nat) : Int), .int .i64 0]) ∧ ∃ F' R', LD w0 w' b q F' R' (ps ++ [p]) s (appD D ps p) ∧ LStep b F R w w' F' R' := by
  refine (lappend_calls h.log h.dsk h.nF h.nR (h.made.tab h.tab) (h.made.zero h.tab) h.b0 p vp hp hw).mono ?_
  rintro e w' ⟨F', R', hs, ⟨_, he, hl, hd⟩ | ⟨hn, _⟩⟩
  · exact ⟨he, F', R', ⟨hl, hd, hs.clearF h.log.lt h.nF, hs.clearR h.log.lt h.nR, h.made.lstep hs h.bn, h.bn, h.tab⟩, hs⟩
  · exact absurd hE hn
theorem ld_refuse (h : LD w0 w b q F R ps s D) (p : List UInt8) (vp : Value) (hp : BS (Out F w) w vp p) (n : Nat) (hE : appE D ps p = n) (hn : n ≠ 0) (hw : D.waits.length ≤ 1000000) :
    Calls Tryd.prog 25 #[.pointer (some ⟨b, 0, none⟩), vp] w fun e w' => e = .returned (.tuple #[.int .u32 0, .int .i64 (n : Int)]) ∧ ∃ F' R', LD w0 w' b q F' R' ps s D ∧ LStep b F R w w' F' R' := by
  subst hE
  refine (lappend_calls h.log h.dsk h.nF h.nR (h.made.tab h.tab) (h.made.zero h.tab) h.b0 p vp hp hw).mono ?_
  rintro e w' ⟨F', R', hs, ⟨h0, _⟩ | ⟨_, he, hl, hd⟩⟩
  · exact absurd h0 hn
  · exact ⟨he, F', R', ⟨hl, hd, hs.clearF h.log.lt h.nF, hs.clearR h.log.lt h.nR, h.made.lstep hs h.bn, h.bn, h.tab⟩, hs⟩
theorem ld_sync (h : LD w0 w b q F R ps s D) :
    Calls Tryd.prog 30 #[.pointer (some ⟨b, 0, none⟩)] w fun e w' => e = .returned (.int .i64 0) ∧ ∃ F' R', LD w0 w' b q F' R' ps ps.length (syncD D) ∧ LStep b F R w w' F' R' := by
  refine (lsync_calls h.log h.dsk h.nF h.nR).mono ?_
  rintro e w' ⟨he, F', R', hl, hd, hs⟩
  exact ⟨he, F', R', ⟨hl, hd, hs.clearF h.log.lt h.nF, hs.clearR h.log.lt h.nR, h.made.lstep hs h.bn, h.bn, h.tab⟩, hs⟩
/-- A call on the disk alone leaves the log as it lay. -/
theorem LD.step {w' : World} {F' R' : Nat → Prop} {D' : DD} (h : LD w0 w b q F R ps s D) (hs : Step F R w w' F' R') (hd : DiskIs w' F' R' (.pointer (some q)) D') : LD w0 w' b q F' R' ps s D' :=
  have ls : LStep b F R w w' F' R' := LStep.of_step hs
  ⟨h.log.kp hs.kp h.nF, hd, ls.clearF h.log.lt h.nF, ls.clearR h.log.lt h.nR, h.made.step hs, h.bn, h.tab⟩
/-- Recover of a disk: the new log stands beside what stood. -/
theorem ld_recover (hd : DiskIs w F R (.pointer (some q)) D) (hm : Made w0 F w) (hT : TabOk w0) (hw : D.waits.length ≤ 1000000) {rest : List UInt8} (hp : Parse D.seen ps rest) (hf : D.full = false) (hc : D.seen.length ≤ D.cap) :
    Calls Tryd.prog 24 #[.pointer (some q)] w fun e w' => ∃ F' R' b vo us, e = .returned (.tuple #[.pointer (some ⟨b, 0, none⟩), vo, .int .i64 0]) ∧ Step F R w w' F' R' ∧ w.heap.size ≤ b ∧
      LD w0 w' b q F' R' ps ps.length ⟨D.cap, false, standL ps rest.length, standL ps rest.length, []⟩ ∧ Vals (fun k => w.heap.size ≤ k ∧ ¬ F' k ∧ k ≠ b) w' vo us ∧ RS (fun k => w.heap.size ≤ k ∧ ¬ F' k ∧ k ≠ b) w' us ps := by
  refine (lrecover_at hd (hm.tab hT) (hm.zero hT) hw hp hf hc).mono ?_
  rintro e w' ⟨F', R', b, vo, us, he, hs, hb, hF, hR, hl, hdd, hv, hr⟩
  exact ⟨F', R', b, vo, us, he, hs, hb, ⟨hl, hdd, hF, hR, hm.step hs, Nat.le_trans hm.kp.size hb, hT⟩, hv, hr⟩
end
/-- A torn frame is none. -/
theorem torn_no (ps : List (List UInt8)) (p : List UInt8) (hp : p.length ≤ 16384) (k : Nat) (hk : k < 10 + p.length) : openE (chainS 0 1 ps) (ps.length + 1) ((sealN (chainS 0 1 ps) (ps.length + 1) p).take k) ≠ 0 := by
  rw [open_cut _ _ p hp k (by rw [length_sealN]; exact hk)]
  decide
theorem crash_one (ps : List (List UInt8)) (p : List UInt8) (k : Int) : crashL (standL ps 0) [(lenC ps, sealN (chainS 0 1 ps) (ps.length + 1) p)] [k] = chainB 0 1 ps ++ (sealN (chainS 0 1 ps) (ps.length + 1) p).take k.toNat := by
  have e : standL ps 0 = chainB 0 1 ps := by simp [standL]
  rw [e]
  exact over_end _ _
theorem parse_torn (ps : List (List UInt8)) (hps : ∀ x ∈ ps, x.length ≤ 16384) (p : List UInt8) (hp : p.length ≤ 16384) (k : Nat) (hk : k < 10 + p.length) :
    Parse (chainB 0 1 ps ++ (sealN (chainS 0 1 ps) (ps.length + 1) p).take k) ps ((sealN (chainS 0 1 ps) (ps.length + 1) p).take k) := ⟨rfl, hps, torn_no ps p hp k hk⟩
theorem parse_none : Parse [] [] [] := ⟨rfl, fun _ h => (by cases h), open_nil _ _⟩
def wd0 : DD := ⟨1000, false, [], [], []⟩

set_option maxRecDepth 100000 in
set_option maxHeartbeats 4000000 in
theorem lwakes_calls (w : World) (hT : TabOk w) :
    Calls Tryd.prog 34 #[] w fun e w' => e = .returned (.bool true) ∧ Kp NoB w w' := by
  have kc := fun (w : World) (C : Array Value) (n c : Nat) => Lib.run_convert_bytes_const (P := Tryd.prog) w 22 5 C n c Tryd.underlying22 Tryd.underlying5
  have HT := Lib.hid hT
  clear hT
  go_enter Tryd.func34, Tryd.ntmps34
  go_wp2_with fail
  refine (new_calls 1000 (by decide) w).mono ?_
  rintro e w1 ⟨p, rfl, d1, k1⟩
  obtain ⟨q, rfl⟩ := d1.ptr
  have m1 : Made w (fun k => k = w.heap.size) w1 := ⟨k1, fun k h => by omega⟩
  generalize (fun k => k = w.heap.size) = F1 at *
  clear k1
  go_wp2_with fail
  refine (ld_recover d1 m1 HT.out (by decide) parse_none rfl (by decide)).mono ?_
  rintro e w2 ⟨F2, R2, b2, vo, us, rfl, s2, hb2, h2, hv2, hr2⟩
  obtain ⟨Ao, co, rfl⟩ := hv2.len
  have hus : us.length = 0 := hr2.1
  rw [hus]
  clear hus hv2 hr2 d1 m1 s2 hb2
  go_wp2_with fail
  have o3 := BS.lit 5 w2 #[.int .u8 97] (1, 2) [97] 1 (by simp [bvs, bv]) rfl (by simp)
  have k3 : Kp NoB w2 (w2.alloc (.cells #[.int .u8 97] 5 (1, 2))) := (Kp.refl _ _).alloc _
  have h3 := h2.nob k3
  refine (ld_append h3 [97] _ (o3.mono fun k hk h => ⟨hk, fun hf => by have := h2.dsk.lt k hf; omega⟩) (appE_ok _ [] 0 [97] (by decide) rfl rfl (by decide)) (by decide)).mono ?_
  rintro e w4 ⟨rfl, F4, R4, h4, s4⟩
  rw [appD_is _ [] 0 [97] rfl (appE_ok _ [] 0 [97] (by decide) rfl rfl (by decide))] at h4
  change LD w w4 b2 q F4 R4 [[97]] 0 ⟨1000, false, standL [] 0, standL [[97]] 0, [(lenC [], sealN (chainS 0 1 []) 1 [97])]⟩ at h4
  clear h2 h3 o3 k3 s4
  go_wp2_with fail
  refine (ld_sync h4).mono ?_
  rintro e w5 ⟨rfl, F5, R5, h5, s5⟩
  change LD w w5 b2 q F5 R5 [[97]] 1 ⟨1000, false, standL [[97]] 0, standL [[97]] 0, []⟩ at h5
  clear h4 s5
  go_wp2_with fail
  have o6 := BS.lit 5 w5 #[.int .u8 98, .int .u8 98] (2, 3) [98, 98] 2 (by simp [bvs, bv]) rfl (by simp)
  have k6 : Kp NoB w5 (w5.alloc (.cells #[.int .u8 98, .int .u8 98] 5 (2, 3))) := (Kp.refl _ _).alloc _
  have h6 := h5.nob k6
  refine (ld_append h6 [98, 98] _ (o6.mono fun k hk h => ⟨hk, fun hf => by have := h5.dsk.lt k hf; omega⟩) (appE_ok _ [[97]] 0 [98, 98] (by decide) rfl rfl (by decide)) (by decide)).mono ?_
  rintro e w7 ⟨rfl, F7, R7, h7, s7⟩
  rw [appD_is _ [[97]] 0 [98, 98] rfl (appE_ok _ [[97]] 0 [98, 98] (by decide) rfl rfl (by decide))] at h7
  change LD w w7 b2 q F7 R7 [[97], [98, 98]] 1 ⟨1000, false, standL [[97]] 0, standL [[97], [98, 98]] 0, [(lenC [[97]], sealN (chainS 0 1 [[97]]) ([[97]].length + 1) [98, 98])]⟩ at h7
  clear h5 h6 o6 k6 s7
  go_wp2_with fail
  refine (crashL_calls h7.dsk [5] 1 _ rfl rfl (by decide) (by decide) (by decide)).mono ?_
  rintro e w8 ⟨rfl, F8, R8, d8, s8⟩
  have m8 := h7.made.step s8
  simp only [crash_one] at d8
  clear h7 s8
  go_wp2_with fail
  refine (ld_recover d8 m8 HT.out (by decide) (parse_torn [[97]] (by decide) [98, 98] (by decide) 5 (by decide)) rfl (by simp only [List.length_append, List.length_take, chainB_length, length_sealN]; decide)).mono ?_
  rintro e w9 ⟨F9, R9, b9, vo9, us9, rfl, s9, hb9, h9, hv9, hr9⟩
  have hus : us9.length = 1 := hr9.1
  obtain ⟨u, rfl⟩ : ∃ u, us9 = [u] := List.length_eq_one_iff.1 hus
  obtain ⟨Ao9, co9, rfl⟩ := hv9.len
  have hbu : BS (fun k => ¬ F9 k ∧ k ≠ b9) w9 u [97] := (hr9.2 0 (by simp) (by simp)).mono fun k _ h => h.2
  have hvu : Vals (fun k => ¬ F9 k ∧ k ≠ b9) w9 (.slice Ao9 1 co9) [u] := hv9.mono fun k _ h => h.2
  obtain ⟨Au, cu, rfl⟩ := hbu.len
  clear hus hv9 hr9 d8 m8 s9 hb9
  go_wp2_with fail
  have o10 := BS.lit 5 w9 #[.int .u8 99] (1, 2) [99] 1 (by simp [bvs, bv]) rfl (by simp)
  have k10 : Kp NoB w9 (w9.alloc (.cells #[.int .u8 99] 5 (1, 2))) := (Kp.refl _ _).alloc _
  have h10 := h9.nob k10
  refine (ld_append h10 [99] _ (o10.mono fun k hk h => ⟨hk, fun hf => by have := h9.dsk.lt k hf; omega⟩) (appE_ok _ [[97]] _ [99] (by decide) rfl rfl (by decide)) (by decide)).mono ?_
  rintro e w11 ⟨rfl, F11, R11, h11, s11⟩
  have hvu := (hvu.nob k10).lstep s11
  have hbu := ((hbu.nob k10).lstep s11).all
  obtain ⟨gb, go, rfl, hcu⟩ := hvu.at_ 0 (by simp)
  rw [Nat.add_zero] at hcu
  have K11 := Lib.hid h11.made.kp
  clear h9 h10 o10 k10 s11 hvu h11 kc
  go_wp2_with (first
    | ((with_reducible refine gate_dst (N := 78) rfl ?_); go_must (refine gate_guard (by rfl) ?_; refine wp_string byteT rfl _ 9 Tryd.underlying9 rfl AllB _ _ rfl hbu ?_))
    | fail)
  go_ret
  exact ⟨rfl, K11.out⟩
end Go.Proofs.YtgjaggnpheoehaaDoor
