/- The walk of the law FrameOpens: it returns true. -/
import Derived.Test.YtgjaggnpheoehaaDoorOpenUni
set_option linter.unusedVariables false
set_option linter.unusedSimpArgs false
namespace Go.Proofs.YtgjaggnpheoehaaDoor
open Go.RowKit

set_option maxRecDepth 100000 in
set_option maxHeartbeats 2000000 in
theorem frameOpens_walk (lb : List UInt8) (vb : Value) (a n : Nat) (w : World) (hT : TabOk w) (ha : a < 4294967296) (hn : n < 4294967296) (hb : BS AllB w vb lb) :
    Calls Tryd.prog 4 #[vb, .int .u32 a, .int .u32 n] w fun e w' => e = .returned (.bool true) ∧ Kp NoB w w' := by
  obtain ⟨kb, vb', hm1, hs1, hb'⟩ := BS.clip byteT hb 1000 1000 rfl
  obtain ⟨A1, c1, rfl⟩ := hb.len
  have hbl : (lb.take 1000).length ≤ 1000 := by simp; omega
  generalize lb.take 1000 = b at *
  clear hb
  go_enter Tryd.func4, Tryd.ntmps4
  go_wp2_with (first
    | ((with_reducible refine gate_dst (N := 23) rfl ?_); go_must (refine wp_appK (w0 := w) byteT NoB rfl _ _ rfl _ _ [] b rfl rfl AllB (Own.nil _ _ _) (Kp.refl _ _) hb' (by simp; omega) ?_); intro vo w1 ho1 hk1; rw [List.nil_append] at ho1)
    | fail)
  clear hm1 hs1
  have hlt1 := Own.lt ho1
  refine (open_uni a n b vo _ (hT.nob hk1) ha hn ho1.bs.all).mono ?_
  rintro e w2 ⟨vp, rfl, hp2, hk2⟩
  have ho2 := ho1.nob hk2
  have hk02 := hk1.trans hk2
  clear ho1 hk1
  generalize hx1 : oL a n b = x1 at *
  generalize hx2 : oN a n b = x2 at *
  generalize hx3 : oS a n b = x3 at *
  generalize hx4 : openE a n b = x4 at *
  have H1 := Lib.hid hx1
  have H2 := Lib.hid hx2
  have H3 := Lib.hid hx3
  have H4 := Lib.hid hx4
  clear hx1 hx2 hx3 hx4
  obtain ⟨A, c, rfl⟩ := ho2.bs.len
  have hlt : ∀ q, (Value.slice A b.length c).ownBlock = some q → w.heap.size ≤ q ∧ q < w1.heap.size := fun q hq => hlt1 q hq
  have HL := Lib.hid hlt
  have HO2 := Lib.hid ho2
  have HK2 := Lib.hid hk2
  clear hlt hlt1 ho2 hk2
  go_wp2_with fail
  go_loopw [12] (fun i wr => ∃ k : Nat, k ≤ b.length ∧ i = .int .i64 k ∧ (∃ l' : List UInt8, l'.length = b.length ∧ Own 5 wr w.heap.size (.slice A b.length c) l') ∧ Kp (fun q => (Value.slice A b.length c).ownBlock = some q) w2 wr) (fun i _ => b.length - (intOf i).toNat)
  case atStart => exact ⟨0, Nat.zero_le _, rfl, ⟨b, rfl, HO2.out⟩, Kp.refl _ _⟩
  case round =>
    obtain ⟨k, hk, rfl, ⟨l', hl', ho⟩, hkw⟩ := hrel
    by_cases hlk : k < b.length
    · obtain ⟨g, rfl, hg1, hg2⟩ := ho.form (by omega)
      obtain ⟨hc, hf⟩ := ho.cell k (by omega)
      generalize l'[k] = ch at *
      have hput := ho.put k (ch ^^^ 255)
      have hch := u8_lt ch
      have e1 : bits .xor .u8 (ch.toNat : Int) 255 = (((ch ^^^ 255).toNat : Nat) : Int) := by
        have := u8_xor_nat ch.toNat 255 hch (by decide)
        rw [UInt8.toNat_xor]
        exact this
      have HP := Lib.hid hput
      have HKW := Lib.hid hkw
      unfold bv at hc
      clear hput ho hkw
      go_wp2
      go_roundw
      case rel => exact ⟨k + 1, by omega, by go_num, ⟨l'.set k (ch ^^^ 255), by simpa using hl', HP.out⟩, Kp.setCell (p := ⟨g, k, none⟩) HKW.out (.inr rfl) _⟩
      case measure => simp [intOf]; omega
    · have hkw2 : Kp NoB w wr := hk02.step hkw fun q hq h => by have := HL.out q h; omega
      have hbr := hb'.nob hkw2
      have hpr := hp2.kp hkw fun q hq hvp h => by have := (Own.lt hp2 q hvp).1; have := HL.out q h; omega
      have hTr := hT.nob hkw2
      have hkl : k = b.length := by omega
      clear hkw ho hb' hp2 hT hlk
      subst hkl
      go_wp2_with fail
      refine (ropen_uni AllB a n b vb' _ ha hn hbr).mono ?_
      rintro e w5 ⟨vq, rfl, hq5, hk5⟩
      have hp5 := (hpr.nob hk5).bs.all
      have hT5 := hTr.nob hk5
      have hk05 := hkw2.trans hk5
      rw [H1.out] at hq5
      rw [H2.out, H3.out, H4.out]
      clear hpr hTr hbr hk5 hkw2
      go_wp2_with (first
        | ((with_reducible refine gate_dst (N := 55) rfl ?_); go_must (refine wp_string byteT rfl _ 9 Tryd.underlying9 rfl AllB _ _ rfl hp5 ?_))
        | ((with_reducible refine gate_dst (N := 57) rfl ?_); go_must (refine wp_string byteT rfl _ 9 Tryd.underlying9 rfl AllB _ _ rfl hq5 ?_))
        | fail)
      refine (tells_calls _ hT5).mono ?_
      rintro e w6 ⟨rfl, hk6⟩
      go_wp2
      go_ret
      exact ⟨rfl, hk05.trans hk6⟩
end Go.Proofs.YtgjaggnpheoehaaDoor
