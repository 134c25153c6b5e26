/- slices.Concat of byte slices. -/
import Derived.Test.YtgjaggnpheoehaaDoorCrc
set_option linter.unusedVariables false
set_option linter.unusedSimpArgs false
namespace Go.Proofs.YtgjaggnpheoehaaDoor
open Go.RowKit

theorem flat_take (ls : List (List UInt8)) (k : Nat) (h : k < ls.length) : (ls.take (k + 1)).flatten = (ls.take k).flatten ++ ls[k] := by
  rw [List.take_succ_eq_append_getElem h, List.flatten_append]
  simp
theorem flat_le (ls : List (List UInt8)) (k : Nat) : (ls.take k).flatten.length ≤ ls.flatten.length := by
  have h : ls.flatten = (ls.take k).flatten ++ (ls.drop k).flatten := by rw [← List.flatten_append, List.take_append_drop]
  have h2 := congrArg List.length h
  rw [List.length_append] at h2
  omega

set_option maxRecDepth 100000 in
theorem concat_calls (ls : List (List UInt8)) (b off cap : Nat) (w : World) (hlen : ls.flatten.length ≤ 140737488355328) (hn : ls.length ≤ 1000000) (hpos : 0 < ls.length)
    (hcell : ∀ j (h : j < ls.length), ∃ v, w.cell? ⟨b, off + j, none⟩ = some v ∧ BS AllB w v ls[j]) :
    Calls Tryd.prog 47 #[.slice (some ⟨b, off, none⟩) ls.length cap] w fun e w' => ∃ v', e = .returned v' ∧ Own 5 w' w.heap.size v' ls.flatten ∧ Kp NoB w w' := by
  have HC := Lib.hid hcell
  clear hcell
  go_enter Tryd.func47, Tryd.ntmps47
  go_wp2
  go_loop [3, 11] (fun sz i => ∃ k : Nat, k ≤ ls.length ∧ i = .int .i64 k ∧ sz = .int .i64 ((ls.take k).flatten.length : Nat)) (fun _ i => ls.length - (intOf i).toNat)
  case atStart => exact ⟨0, Nat.zero_le _, rfl, rfl⟩
  case round =>
    obtain ⟨k, hk, rfl, rfl⟩ := hrel
    by_cases hlt : k < ls.length
    · obtain ⟨v, hc, hb⟩ := HC.out k hlt
      obtain ⟨A, c, rfl⟩ := hb.len
      clear hb
      have h1 := flat_le ls (k + 1)
      have h2 := congrArg List.length (flat_take ls k hlt)
      rw [List.length_append] at h2
      have hs1 : (ls.take k).flatten.length + ls[k].length ≤ 140737488355328 := by omega
      have H2 := Lib.hid h2
      clear h2 h1
      generalize (ls.take k).flatten.length = s0 at *
      generalize ls[k].length = m at *
      go_wp2
      go_round
      case rel => exact ⟨k + 1, by omega, by go_num, by rw [H2.out]; go_num⟩
      case measure => simp [intOf]; omega
    · have hkl : k = ls.length := by omega
      have hs : (ls.take k).flatten.length = ls.flatten.length := by rw [hkl, List.take_length]
      have HS := Lib.hid hs
      have HK := Lib.hid hkl
      have hle := flat_le ls k
      generalize (ls.take k).flatten.length = s0 at *
      have hs0 : s0 ≤ 140737488355328 := by omega
      clear hs hkl hle
      go_wp2_with (go_at_call 69; (with_reducible refine (grow_calls s0 _ hs0).mono ?_); rintro e w1 ⟨v1, rfl, ho1, hk1⟩)
      have HO := Lib.hid ho1
      have HK1 := Lib.hid hk1
      clear ho1 hk1
      go_loopw [6, 27] (fun v i wr => ∃ k : Nat, k ≤ ls.length ∧ i = .int .i64 k ∧ Own 5 wr w.heap.size v (ls.take k).flatten ∧ Kp NoB w wr) (fun _ i _ => ls.length - (intOf i).toNat)
      case atStart => exact ⟨0, Nat.zero_le _, rfl, by simpa using HO.out, HK1.out⟩
      case round =>
        obtain ⟨j, hj, rfl, ho, hkw⟩ := hrel
        by_cases hlt2 : j < ls.length
        · obtain ⟨v, hc, hb⟩ := HC.out j hlt2
          have hb' := hb.nob hkw
          obtain ⟨A, c, rfl⟩ := hb'.len
          have hc' := hkw.cell hc id
          have h1 := flat_le ls (j + 1)
          have h2 := flat_take ls j hlt2
          have h3 := congrArg List.length h2
          rw [List.length_append] at h3
          have hs1 : (ls.take j).flatten.length + ls[j].length ≤ 140737488355328 := by omega
          have HB := Lib.hid hb'
          have H2 := Lib.hid h2
          have HO2 := Lib.hid ho
          have HK2 := Lib.hid hkw
          have HS1 := Lib.hid hs1
          clear hb hb' h1 h2 h3 hs1 ho hc hkw
          go_wp2_with ((with_reducible refine gate_dst (N := 33) rfl ?_); go_must (refine wp_appK (w0 := w) byteT NoB rfl _ _ rfl _ _ _ _ rfl rfl AllB HO2.out HK2.out HB.out HS1.out ?_); intro v' w' ho' hk'; have HO3 := Lib.hid ho'; have HK3 := Lib.hid hk'; clear ho' hk')
          go_roundw
          case rel => exact ⟨j + 1, by omega, by go_num, by rw [H2.out]; exact HO3.out, HK3.out⟩
          case measure => simp [intOf]; omega
        · have hjl : j = ls.length := by omega
          subst hjl
          rw [List.take_length] at ho
          have HO2 := Lib.hid ho
          have HK2 := Lib.hid hkw
          clear ho hkw hlt2
          go_wp2
          go_ret
          exact ⟨_, rfl, HO2.out, HK2.out⟩
end Go.Proofs.YtgjaggnpheoehaaDoor
