/- The walk of the law HashKeys: it returns true. -/
import Derived.Test.YtdplpcmpjkcocaaDoorHKeysA
import Derived.Test.YtdplpcmpjkcocaaDoorHKeysB
set_option linter.unusedVariables false
namespace Go.Proofs.YtdplpcmpjkcocaaDoor
open Go.RowKit

theorem hashKeys_walk (lk lb : List UInt8) (vk vb : Value) (n : Nat) (w : World) (hT : HashOk w) (hn : n < 256) (hk : BS AllB w vk lk) (hb : BS AllB w vb lb) :
    Calls Tryd.prog 4 #[vk, vb, .int .u8 (n : Int)] w fun e w' => e = .returned (.bool true) ∧ Kp NoB w w' := by
  by_cases h : 64 < (lk.take 300).length
  · exact hashKeys_long lk lb vk vb n w hT hn hk hb h
  · exact hashKeys_short lk lb vk vb n w hT hn hk hb h
end Go.Proofs.YtdplpcmpjkcocaaDoor
