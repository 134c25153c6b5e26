/- Calls on no disk: a nil pointer, or a disk that New did not make. -/
import Derived.Test.YtgjaggnpheoehaaDWakes
set_option linter.unusedVariables false
set_option linter.unusedSimpArgs false
namespace Go.Proofs.Ytgjaggnpheoehaa
open Go.RowKit

def NoDisk (w : World) (p : Value) : Prop := p = .pointer none ∨ ∃ b, p = .pointer (some ⟨b, 0, none⟩) ∧ w.cell? ⟨b, 5, none⟩ = some (.bool false)
theorem NoDisk.nob {w w' : World} {p : Value} (h : NoDisk w p) (k : Kp NoB w w') : NoDisk w' p := by
  rcases h with rfl | ⟨b, rfl, h⟩
  · exact .inl rfl
  · exact .inr ⟨b, rfl, k.cell h id⟩
theorem NoDisk.ptr {w : World} {p : Value} (h : NoDisk w p) : ∃ q, p = .pointer q := by
  rcases h with rfl | ⟨b, rfl, h⟩ <;> exact ⟨_, rfl⟩

set_option maxRecDepth 100000 in
theorem noneN_calls {w : World} {p : Value} (h : NoDisk w p) :
    Calls Try.prog 24 #[p] w fun e w' => e = .returned (.bool true) ∧ w = w' := by
  rcases h with rfl | ⟨b, rfl, h⟩
  all_goals
    go_enter Try.func24, Try.ntmps24
    go_wp2
    go_ret
    exact ⟨rfl, rfl⟩

set_option maxRecDepth 100000 in
theorem writeN_calls {w : World} {p : Value} (h : NoDisk w p) (a : Int) (v : Value) :
    Calls Try.prog 13 #[p, .int .i64 a, v] w fun e w' => e = .returned (.int .i64 2) ∧ w = w' := by
  have hn := noneN_calls h
  obtain ⟨q, rfl⟩ := h.ptr
  clear h
  go_enter Try.func13, Try.ntmps13
  go_wp2_with (go_at_call 24; refine hn.mono ?_; rintro e w1 ⟨rfl, rfl⟩)
  go_ret
  exact ⟨rfl, rfl⟩

set_option maxRecDepth 100000 in
theorem syncN_calls {w : World} {p : Value} (h : NoDisk w p) :
    Calls Try.prog 9 #[p] w fun e w' => e = .returned (.int .i64 2) ∧ w = w' := by
  have hn := noneN_calls h
  obtain ⟨q, rfl⟩ := h.ptr
  clear h
  go_enter Try.func9, Try.ntmps9
  go_wp2_with (go_at_call 24; refine hn.mono ?_; rintro e w1 ⟨rfl, rfl⟩)
  go_ret
  exact ⟨rfl, rfl⟩

set_option maxRecDepth 100000 in
theorem crashN_calls {w : World} {p : Value} (h : NoDisk w p) (v : Value) :
    Calls Try.prog 16 #[p, v] w fun e w' => e = .returned (.int .i64 2) ∧ w = w' := by
  have hn := noneN_calls h
  obtain ⟨q, rfl⟩ := h.ptr
  clear h
  go_enter Try.func16, Try.ntmps16
  go_wp2_with (go_at_call 24; refine hn.mono ?_; rintro e w1 ⟨rfl, rfl⟩)
  go_ret
  exact ⟨rfl, rfl⟩

set_option maxRecDepth 100000 in
theorem fillN_calls {w : World} {p : Value} (h : NoDisk w p) (v : Value) :
    Calls Try.prog 10 #[p, v] w fun e w' => e = .returned (.int .i64 2) ∧ w = w' := by
  have hn := noneN_calls h
  obtain ⟨q, rfl⟩ := h.ptr
  clear h
  go_enter Try.func10, Try.ntmps10
  go_wp2_with (go_at_call 24; refine hn.mono ?_; rintro e w1 ⟨rfl, rfl⟩)
  go_ret
  exact ⟨rfl, rfl⟩

set_option maxRecDepth 100000 in
theorem endN_calls {w : World} {p : Value} (h : NoDisk w p) :
    Calls Try.prog 19 #[p] w fun e w' => e = .returned (.int .i64 0) ∧ w = w' := by
  have hn := noneN_calls h
  obtain ⟨q, rfl⟩ := h.ptr
  clear h
  go_enter Try.func19, Try.ntmps19
  go_wp2_with (go_at_call 24; refine hn.mono ?_; rintro e w1 ⟨rfl, rfl⟩)
  go_ret
  exact ⟨rfl, rfl⟩

set_option maxRecDepth 100000 in
theorem waitsN_calls {w : World} {p : Value} (h : NoDisk w p) :
    Calls Try.prog 14 #[p] w fun e w' => e = .returned (.int .i64 0) ∧ w = w' := by
  have hn := noneN_calls h
  obtain ⟨q, rfl⟩ := h.ptr
  clear h
  go_enter Try.func14, Try.ntmps14
  go_wp2_with (go_at_call 24; refine hn.mono ?_; rintro e w1 ⟨rfl, rfl⟩)
  go_ret
  exact ⟨rfl, rfl⟩

set_option maxRecDepth 100000 in
theorem readN_calls {w : World} {p : Value} (h : NoDisk w p) (a m : Int) :
    Calls Try.prog 11 #[p, .int .i64 a, .int .i64 m] w fun e w' => e = .returned (.slice none 0 0) ∧ w = w' := by
  have hn := noneN_calls h
  obtain ⟨q, rfl⟩ := h.ptr
  clear h
  go_enter Try.func11, Try.ntmps11
  go_wp2_with (go_at_call 24; refine hn.mono ?_; rintro e w1 ⟨rfl, rfl⟩)
  go_ret
  exact ⟨rfl, rfl⟩

set_option maxRecDepth 100000 in
theorem copyN_calls {w : World} {p : Value} (h : NoDisk w p) :
    Calls Try.prog 15 #[p] w fun e w' => e = .returned (.pointer none) ∧ w = w' := by
  have hn := noneN_calls h
  obtain ⟨q, rfl⟩ := h.ptr
  clear h
  go_enter Try.func15, Try.ntmps15
  go_wp2_with (go_at_call 24; refine hn.mono ?_; rintro e w1 ⟨rfl, rfl⟩)
  go_ret
  exact ⟨rfl, rfl⟩

set_option maxRecDepth 100000 in
theorem newN_calls (c : Int) (hc : c < 0 ∨ 1048576 < c) (w : World) :
    Calls Try.prog 20 #[.int .i64 c] w fun e w' => e = .returned (.tuple #[.pointer none, .int .i64 1]) ∧ w = w' := by
  rcases (by omega : c < 0 ∨ ((0 : Int) ≤ c ∧ c > 1048576)) with h | ⟨h0, h⟩
  all_goals
    go_enter Try.func20, Try.ntmps20
    go_wp2
    go_ret2
    exact ⟨rfl, rfl⟩
end Go.Proofs.Ytgjaggnpheoehaa
