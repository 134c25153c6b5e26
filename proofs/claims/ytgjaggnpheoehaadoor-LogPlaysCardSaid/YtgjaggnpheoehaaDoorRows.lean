/-
  NARROWER THAN 'FOR EVERY INPUT', by the rows' own cells (each row's printed sentence says how): FrameChecks: laid · FrameOpens: laid · FrameBack: laid · FrameBits: laid · FrameChain: laid · LogAgain: laid · FrameKnown: laid · LogPlays: laid · LogKnown: laid · LogSure: laid · LogFull: laid.
  DERIVED. THE GIVEN ROWS OF THIS SEAT. 11 by the template 'for every input the law returns true; each argument reads behind the call as it read before'; 0 by the template 'total and deterministic' (their statements: YtgjaggnpheoehaaDoorTotals.lean).
  GIVEN WITH THE SEED: the statements are not yours to turn. If you find one false, say at which input.
  Laid BY PROGRAM, IN A SANDBOX (cutbox-rows.mjs): the forced cells as the released guide's own fill.sh prints them over the translation af28c03285c53e5b… (all of the seat's roots in one cut). By AI agents, Wed Nov 11 2026. No macro, syntax, notation, axiom, sorry.
-/
import Derived.Test.YtgjaggnpheoehaaDoorChecked
import GoSem.Claim
import GoSem.ClaimJoined
import GoSem.ClaimMapViews
import Derived.JoinedTies
import Derived.KernelRfl
namespace Go.Proofs.YtgjaggnpheoehaaDoor
/- THE CELL 'sum', in the pinned program and in every row, IS THE sha256 OF THE DUMP (.gsa) THAT YtgjaggnpheoehaaDoorProg.lean LOADS. Nothing in Lean hashes anything: it is a label: what it is worth is what the hold of that sum in a sandbox is worth. -/
noncomputable def Tryd.pinned : Pinned := { name := "ytgjaggnpheoehaadoor", sum := "af28c03285c53e5be56736e19caa0880365d0f80d1c4e7a4bd7409024f4fe2e1", checked := Tryd.checked }
namespace Rows
def none {H : Type} : Left H := { results := [], args := [] }

/- WHAT THE LISTED PACKAGE-LEVEL VARIABLES READ AS WHEN THE CALL BEGINS. Each datum BY PROGRAM (the guide's laid-datum.mjs) off the statement by which the dump's own 'gosem.cut.vars' lays the variable. In a bare row this is a premise. The card (YtgjaggnpheoehaaDoorCards.lean) ties it to the program's text. -/
def laid_postrider_frame_table {H : Type} : DataW H := .agg [.lit (.int .u32 0), .lit (.int .u32 498536548), .lit (.int .u32 997073096), .lit (.int .u32 651767980), .lit (.int .u32 1994146192), .lit (.int .u32 1802195444), .lit (.int .u32 1303535960), .lit (.int .u32 1342533948), .lit (.int .u32 3988292384), .lit (.int .u32 4027552580), .lit (.int .u32 3604390888), .lit (.int .u32 3412177804), .lit (.int .u32 2607071920), .lit (.int .u32 2262029012), .lit (.int .u32 2685067896), .lit (.int .u32 3183342108)]

/-- 'postriderlaw02.FrameChecks': WHATEVER THE INPUT: true; the input reads as it did. -/
def frameChecksSpec : ChangeSpec := { name := "frameChecks", fn := fun _ => fun
  | [d1, d2, d3, d4] => { results := [.lit (.bool true)], args := [d1, d2, d3, d4] }
  | _ => none }
def frameChecksRow : OpenClaim := { program := "ytgjaggnpheoehaadoor", sum := "af28c03285c53e5be56736e19caa0880365d0f80d1c4e7a4bd7409024f4fe2e1", func := "postrider/postriderlaw02.FrameChecks", spec := "frameChecks", named := ["postrider/frame.table"], apart := false, laid := [("postrider/frame.table", laid_postrider_frame_table)] }
def FrameChecksSaid : Prop := frameChecksRow.holds Tryd.pinned (OpenSpec.ofChange frameChecksSpec)

/-- ITS FALSE NEIGHBOUR: 'it returns false'. Refute it at one input. -/
def frameChecksWrong : ChangeSpec := { name := "frameChecks", fn := fun _ => fun
  | [d1, d2, d3, d4] => { results := [.lit (.bool false)], args := [d1, d2, d3, d4] }
  | _ => none }
def FrameChecksWrongFalsely : Prop := frameChecksRow.holds Tryd.pinned (OpenSpec.ofChange frameChecksWrong)

/-- 'postriderlaw02.FrameOpens': WHATEVER THE INPUT: true; the input reads as it did. -/
def frameOpensSpec : ChangeSpec := { name := "frameOpens", fn := fun _ => fun
  | [d1, d2, d3] => { results := [.lit (.bool true)], args := [d1, d2, d3] }
  | _ => none }
def frameOpensRow : OpenClaim := { program := "ytgjaggnpheoehaadoor", sum := "af28c03285c53e5be56736e19caa0880365d0f80d1c4e7a4bd7409024f4fe2e1", func := "postrider/postriderlaw02.FrameOpens", spec := "frameOpens", named := ["postrider/frame.table"], apart := false, laid := [("postrider/frame.table", laid_postrider_frame_table)] }
def FrameOpensSaid : Prop := frameOpensRow.holds Tryd.pinned (OpenSpec.ofChange frameOpensSpec)

/-- ITS FALSE NEIGHBOUR: 'it returns false'. Refute it at one input. -/
def frameOpensWrong : ChangeSpec := { name := "frameOpens", fn := fun _ => fun
  | [d1, d2, d3] => { results := [.lit (.bool false)], args := [d1, d2, d3] }
  | _ => none }
def FrameOpensWrongFalsely : Prop := frameOpensRow.holds Tryd.pinned (OpenSpec.ofChange frameOpensWrong)

/-- 'postriderlaw02.FrameBack': WHATEVER THE INPUT: true; the input reads as it did. -/
def frameBackSpec : ChangeSpec := { name := "frameBack", fn := fun _ => fun
  | [d1, d2, d3, d4, d5] => { results := [.lit (.bool true)], args := [d1, d2, d3, d4, d5] }
  | _ => none }
def frameBackRow : OpenClaim := { program := "ytgjaggnpheoehaadoor", sum := "af28c03285c53e5be56736e19caa0880365d0f80d1c4e7a4bd7409024f4fe2e1", func := "postrider/postriderlaw02.FrameBack", spec := "frameBack", named := ["postrider/frame.table"], apart := false, laid := [("postrider/frame.table", laid_postrider_frame_table)] }
def FrameBackSaid : Prop := frameBackRow.holds Tryd.pinned (OpenSpec.ofChange frameBackSpec)

/-- ITS FALSE NEIGHBOUR: 'it returns false'. Refute it at one input. -/
def frameBackWrong : ChangeSpec := { name := "frameBack", fn := fun _ => fun
  | [d1, d2, d3, d4, d5] => { results := [.lit (.bool false)], args := [d1, d2, d3, d4, d5] }
  | _ => none }
def FrameBackWrongFalsely : Prop := frameBackRow.holds Tryd.pinned (OpenSpec.ofChange frameBackWrong)

/-- 'postriderlaw02.FrameBits': WHATEVER THE INPUT: true; the input reads as it did. -/
def frameBitsSpec : ChangeSpec := { name := "frameBits", fn := fun _ => fun
  | [d1, d2, d3, d4, d5] => { results := [.lit (.bool true)], args := [d1, d2, d3, d4, d5] }
  | _ => none }
def frameBitsRow : OpenClaim := { program := "ytgjaggnpheoehaadoor", sum := "af28c03285c53e5be56736e19caa0880365d0f80d1c4e7a4bd7409024f4fe2e1", func := "postrider/postriderlaw02.FrameBits", spec := "frameBits", named := ["postrider/frame.table"], apart := false, laid := [("postrider/frame.table", laid_postrider_frame_table)] }
def FrameBitsSaid : Prop := frameBitsRow.holds Tryd.pinned (OpenSpec.ofChange frameBitsSpec)

/-- ITS FALSE NEIGHBOUR: 'it returns false'. Refute it at one input. -/
def frameBitsWrong : ChangeSpec := { name := "frameBits", fn := fun _ => fun
  | [d1, d2, d3, d4, d5] => { results := [.lit (.bool false)], args := [d1, d2, d3, d4, d5] }
  | _ => none }
def FrameBitsWrongFalsely : Prop := frameBitsRow.holds Tryd.pinned (OpenSpec.ofChange frameBitsWrong)

/-- 'postriderlaw02.FrameChain': WHATEVER THE INPUT: true; the input reads as it did. -/
def frameChainSpec : ChangeSpec := { name := "frameChain", fn := fun _ => fun
  | [d] => { results := [.lit (.bool true)], args := [d] }
  | _ => none }
def frameChainRow : OpenClaim := { program := "ytgjaggnpheoehaadoor", sum := "af28c03285c53e5be56736e19caa0880365d0f80d1c4e7a4bd7409024f4fe2e1", func := "postrider/postriderlaw02.FrameChain", spec := "frameChain", named := ["postrider/frame.table"], apart := false, laid := [("postrider/frame.table", laid_postrider_frame_table)] }
def FrameChainSaid : Prop := frameChainRow.holds Tryd.pinned (OpenSpec.ofChange frameChainSpec)

/-- ITS FALSE NEIGHBOUR: 'it returns false'. Refute it at one input. -/
def frameChainWrong : ChangeSpec := { name := "frameChain", fn := fun _ => fun
  | [d] => { results := [.lit (.bool false)], args := [d] }
  | _ => none }
def FrameChainWrongFalsely : Prop := frameChainRow.holds Tryd.pinned (OpenSpec.ofChange frameChainWrong)

/-- 'postriderlaw03.LogAgain': WHATEVER THE INPUT: true; the input reads as it did. -/
def logAgainSpec : ChangeSpec := { name := "logAgain", fn := fun _ => fun
  | [d1, d2, d3] => { results := [.lit (.bool true)], args := [d1, d2, d3] }
  | _ => none }
def logAgainRow : OpenClaim := { program := "ytgjaggnpheoehaadoor", sum := "af28c03285c53e5be56736e19caa0880365d0f80d1c4e7a4bd7409024f4fe2e1", func := "postrider/postriderlaw03.LogAgain", spec := "logAgain", unfollowed := true, recurses := true, named := ["postrider/frame.table"], apart := false, laid := [("postrider/frame.table", laid_postrider_frame_table)] }
def LogAgainSaid : Prop := logAgainRow.holds Tryd.pinned (OpenSpec.ofChange logAgainSpec)

/-- ITS FALSE NEIGHBOUR: 'it returns false'. Refute it at one input. -/
def logAgainWrong : ChangeSpec := { name := "logAgain", fn := fun _ => fun
  | [d1, d2, d3] => { results := [.lit (.bool false)], args := [d1, d2, d3] }
  | _ => none }
def LogAgainWrongFalsely : Prop := logAgainRow.holds Tryd.pinned (OpenSpec.ofChange logAgainWrong)

/-- 'postriderlaw02.FrameKnown': WHATEVER THE INPUT: true; the input reads as it did. -/
def frameKnownSpec : ChangeSpec := { name := "frameKnown", fn := fun _ => fun
  | [] => { results := [.lit (.bool true)], args := [] }
  | _ => none }
def frameKnownRow : OpenClaim := { program := "ytgjaggnpheoehaadoor", sum := "af28c03285c53e5be56736e19caa0880365d0f80d1c4e7a4bd7409024f4fe2e1", func := "postrider/postriderlaw02.FrameKnown", spec := "frameKnown", named := ["postrider/frame.table"], apart := false, laid := [("postrider/frame.table", laid_postrider_frame_table)] }
def FrameKnownSaid : Prop := frameKnownRow.holds Tryd.pinned (OpenSpec.ofChange frameKnownSpec)

/-- ITS FALSE NEIGHBOUR: 'it returns false'. Refute it at one input. -/
def frameKnownWrong : ChangeSpec := { name := "frameKnown", fn := fun _ => fun
  | [] => { results := [.lit (.bool false)], args := [] }
  | _ => none }
def FrameKnownWrongFalsely : Prop := frameKnownRow.holds Tryd.pinned (OpenSpec.ofChange frameKnownWrong)

/-- 'postriderlaw03.LogPlays': WHATEVER THE INPUT: true; the input reads as it did. -/
def logPlaysSpec : ChangeSpec := { name := "logPlays", fn := fun _ => fun
  | [d] => { results := [.lit (.bool true)], args := [d] }
  | _ => none }
def logPlaysRow : OpenClaim := { program := "ytgjaggnpheoehaadoor", sum := "af28c03285c53e5be56736e19caa0880365d0f80d1c4e7a4bd7409024f4fe2e1", func := "postrider/postriderlaw03.LogPlays", spec := "logPlays", unfollowed := true, recurses := true, named := ["postrider/frame.table"], apart := false, laid := [("postrider/frame.table", laid_postrider_frame_table)] }
def LogPlaysSaid : Prop := logPlaysRow.holds Tryd.pinned (OpenSpec.ofChange logPlaysSpec)

/-- ITS FALSE NEIGHBOUR: 'it returns false'. Refute it at one input. -/
def logPlaysWrong : ChangeSpec := { name := "logPlays", fn := fun _ => fun
  | [d] => { results := [.lit (.bool false)], args := [d] }
  | _ => none }
def LogPlaysWrongFalsely : Prop := logPlaysRow.holds Tryd.pinned (OpenSpec.ofChange logPlaysWrong)

/-- 'postriderlaw03.LogKnown': WHATEVER THE INPUT: true; the input reads as it did. -/
def logKnownSpec : ChangeSpec := { name := "logKnown", fn := fun _ => fun
  | [] => { results := [.lit (.bool true)], args := [] }
  | _ => none }
def logKnownRow : OpenClaim := { program := "ytgjaggnpheoehaadoor", sum := "af28c03285c53e5be56736e19caa0880365d0f80d1c4e7a4bd7409024f4fe2e1", func := "postrider/postriderlaw03.LogKnown", spec := "logKnown", unfollowed := true, recurses := true, named := ["postrider/frame.table"], apart := false, laid := [("postrider/frame.table", laid_postrider_frame_table)] }
def LogKnownSaid : Prop := logKnownRow.holds Tryd.pinned (OpenSpec.ofChange logKnownSpec)

/-- ITS FALSE NEIGHBOUR: 'it returns false'. Refute it at one input. -/
def logKnownWrong : ChangeSpec := { name := "logKnown", fn := fun _ => fun
  | [] => { results := [.lit (.bool false)], args := [] }
  | _ => none }
def LogKnownWrongFalsely : Prop := logKnownRow.holds Tryd.pinned (OpenSpec.ofChange logKnownWrong)

/-- 'postriderlaw03.LogSure': WHATEVER THE INPUT: true; the input reads as it did. -/
def logSureSpec : ChangeSpec := { name := "logSure", fn := fun _ => fun
  | [d] => { results := [.lit (.bool true)], args := [d] }
  | _ => none }
def logSureRow : OpenClaim := { program := "ytgjaggnpheoehaadoor", sum := "af28c03285c53e5be56736e19caa0880365d0f80d1c4e7a4bd7409024f4fe2e1", func := "postrider/postriderlaw03.LogSure", spec := "logSure", unfollowed := true, recurses := true, named := ["postrider/frame.table"], apart := false, laid := [("postrider/frame.table", laid_postrider_frame_table)] }
def LogSureSaid : Prop := logSureRow.holds Tryd.pinned (OpenSpec.ofChange logSureSpec)

/-- ITS FALSE NEIGHBOUR: 'it returns false'. Refute it at one input. -/
def logSureWrong : ChangeSpec := { name := "logSure", fn := fun _ => fun
  | [d] => { results := [.lit (.bool false)], args := [d] }
  | _ => none }
def LogSureWrongFalsely : Prop := logSureRow.holds Tryd.pinned (OpenSpec.ofChange logSureWrong)

/-- 'postriderlaw03.LogFull': WHATEVER THE INPUT: true; the input reads as it did. -/
def logFullSpec : ChangeSpec := { name := "logFull", fn := fun _ => fun
  | [d1, d2] => { results := [.lit (.bool true)], args := [d1, d2] }
  | _ => none }
def logFullRow : OpenClaim := { program := "ytgjaggnpheoehaadoor", sum := "af28c03285c53e5be56736e19caa0880365d0f80d1c4e7a4bd7409024f4fe2e1", func := "postrider/postriderlaw03.LogFull", spec := "logFull", unfollowed := true, recurses := true, named := ["postrider/frame.table"], apart := false, laid := [("postrider/frame.table", laid_postrider_frame_table)] }
def LogFullSaid : Prop := logFullRow.holds Tryd.pinned (OpenSpec.ofChange logFullSpec)

/-- ITS FALSE NEIGHBOUR: 'it returns false'. Refute it at one input. -/
def logFullWrong : ChangeSpec := { name := "logFull", fn := fun _ => fun
  | [d1, d2] => { results := [.lit (.bool false)], args := [d1, d2] }
  | _ => none }
def LogFullWrongFalsely : Prop := logFullRow.holds Tryd.pinned (OpenSpec.ofChange logFullWrong)

/- THE SECOND FORM. 'bulk': how many values and letters a reading holds, each counted each time it is reached (what is shared counts as often as it is met; a slice's spare places count too). A statement '..UptoSaid' is the law's where the arguments, and the package variables that the reading takes, are together of bulk at most 1048576: NARROWER than '..Said'. Prove '..Said' where nothing that the law and all that it calls make is longer than what came in: it says more and counts as full. Else prove '..UptoSaid'. A law counts once. -/
mutual
def uptoBulk {H : Type} : DataW H → Nat
  | .lit (.string bytes) => bytes.length + 1
  | .lit _ => 1
  | .nil => 1
  | .ptr d => uptoBulk d + 1
  | .slice elems spare => uptoBulkAll elems + uptoBulkAll spare + 1
  | .agg parts => uptoBulkAll parts + 1
  | .iface _ d => uptoBulk d + 1
  | .map entries => uptoBulkEntries entries + 1
  | .held _ => 1
def uptoBulkAll {H : Type} : List (DataW H) → Nat
  | [] => 0
  | d :: r => uptoBulk d + uptoBulkAll r
def uptoBulkEntries {H : Type} : List (Lit × DataW H) → Nat
  | [] => 0
  | x :: r => uptoBulkEntry x + uptoBulkEntries r
def uptoBulkEntry {H : Type} : Lit × DataW H → Nat
  | (.string bytes, d) => bytes.length + uptoBulk d + 1
  | (_, d) => uptoBulk d + 1
 end
def uptoSmall : (H : Type) → List (DataW H) → Bool := fun _ ds => decide (uptoBulkAll ds ≤ 1048576)
def OpenSpec.upto (s : _root_.Go.ChangeSpec) : _root_.Go.OpenSpec := { _root_.Go.OpenSpec.ofChange s with cond := some uptoSmall }

/-- 'postriderlaw02.FrameChecks', WHERE WHAT IT READS IS OF BULK AT MOST 1048576: true; the input reads as it did. -/
def frameChecksUptoRow : OpenClaim := { program := "ytgjaggnpheoehaadoor", sum := "af28c03285c53e5be56736e19caa0880365d0f80d1c4e7a4bd7409024f4fe2e1", func := "postrider/postriderlaw02.FrameChecks", spec := "frameChecks", named := ["postrider/frame.table"], apart := false, laid := [("postrider/frame.table", laid_postrider_frame_table)], narrowed := true }
def FrameChecksUptoSaid : Prop := frameChecksUptoRow.holds Tryd.pinned (OpenSpec.upto frameChecksSpec)

/-- 'postriderlaw02.FrameOpens', WHERE WHAT IT READS IS OF BULK AT MOST 1048576: true; the input reads as it did. -/
def frameOpensUptoRow : OpenClaim := { program := "ytgjaggnpheoehaadoor", sum := "af28c03285c53e5be56736e19caa0880365d0f80d1c4e7a4bd7409024f4fe2e1", func := "postrider/postriderlaw02.FrameOpens", spec := "frameOpens", named := ["postrider/frame.table"], apart := false, laid := [("postrider/frame.table", laid_postrider_frame_table)], narrowed := true }
def FrameOpensUptoSaid : Prop := frameOpensUptoRow.holds Tryd.pinned (OpenSpec.upto frameOpensSpec)

/-- 'postriderlaw02.FrameBack', WHERE WHAT IT READS IS OF BULK AT MOST 1048576: true; the input reads as it did. -/
def frameBackUptoRow : OpenClaim := { program := "ytgjaggnpheoehaadoor", sum := "af28c03285c53e5be56736e19caa0880365d0f80d1c4e7a4bd7409024f4fe2e1", func := "postrider/postriderlaw02.FrameBack", spec := "frameBack", named := ["postrider/frame.table"], apart := false, laid := [("postrider/frame.table", laid_postrider_frame_table)], narrowed := true }
def FrameBackUptoSaid : Prop := frameBackUptoRow.holds Tryd.pinned (OpenSpec.upto frameBackSpec)

/-- 'postriderlaw02.FrameBits', WHERE WHAT IT READS IS OF BULK AT MOST 1048576: true; the input reads as it did. -/
def frameBitsUptoRow : OpenClaim := { program := "ytgjaggnpheoehaadoor", sum := "af28c03285c53e5be56736e19caa0880365d0f80d1c4e7a4bd7409024f4fe2e1", func := "postrider/postriderlaw02.FrameBits", spec := "frameBits", named := ["postrider/frame.table"], apart := false, laid := [("postrider/frame.table", laid_postrider_frame_table)], narrowed := true }
def FrameBitsUptoSaid : Prop := frameBitsUptoRow.holds Tryd.pinned (OpenSpec.upto frameBitsSpec)

/-- 'postriderlaw02.FrameChain', WHERE WHAT IT READS IS OF BULK AT MOST 1048576: true; the input reads as it did. -/
def frameChainUptoRow : OpenClaim := { program := "ytgjaggnpheoehaadoor", sum := "af28c03285c53e5be56736e19caa0880365d0f80d1c4e7a4bd7409024f4fe2e1", func := "postrider/postriderlaw02.FrameChain", spec := "frameChain", named := ["postrider/frame.table"], apart := false, laid := [("postrider/frame.table", laid_postrider_frame_table)], narrowed := true }
def FrameChainUptoSaid : Prop := frameChainUptoRow.holds Tryd.pinned (OpenSpec.upto frameChainSpec)

/-- 'postriderlaw03.LogAgain', WHERE WHAT IT READS IS OF BULK AT MOST 1048576: true; the input reads as it did. -/
def logAgainUptoRow : OpenClaim := { program := "ytgjaggnpheoehaadoor", sum := "af28c03285c53e5be56736e19caa0880365d0f80d1c4e7a4bd7409024f4fe2e1", func := "postrider/postriderlaw03.LogAgain", spec := "logAgain", unfollowed := true, recurses := true, named := ["postrider/frame.table"], apart := false, laid := [("postrider/frame.table", laid_postrider_frame_table)], narrowed := true }
def LogAgainUptoSaid : Prop := logAgainUptoRow.holds Tryd.pinned (OpenSpec.upto logAgainSpec)

/-- 'postriderlaw02.FrameKnown', WHERE WHAT IT READS IS OF BULK AT MOST 1048576: true; the input reads as it did. -/
def frameKnownUptoRow : OpenClaim := { program := "ytgjaggnpheoehaadoor", sum := "af28c03285c53e5be56736e19caa0880365d0f80d1c4e7a4bd7409024f4fe2e1", func := "postrider/postriderlaw02.FrameKnown", spec := "frameKnown", named := ["postrider/frame.table"], apart := false, laid := [("postrider/frame.table", laid_postrider_frame_table)], narrowed := true }
def FrameKnownUptoSaid : Prop := frameKnownUptoRow.holds Tryd.pinned (OpenSpec.upto frameKnownSpec)

/-- 'postriderlaw03.LogPlays', WHERE WHAT IT READS IS OF BULK AT MOST 1048576: true; the input reads as it did. -/
def logPlaysUptoRow : OpenClaim := { program := "ytgjaggnpheoehaadoor", sum := "af28c03285c53e5be56736e19caa0880365d0f80d1c4e7a4bd7409024f4fe2e1", func := "postrider/postriderlaw03.LogPlays", spec := "logPlays", unfollowed := true, recurses := true, named := ["postrider/frame.table"], apart := false, laid := [("postrider/frame.table", laid_postrider_frame_table)], narrowed := true }
def LogPlaysUptoSaid : Prop := logPlaysUptoRow.holds Tryd.pinned (OpenSpec.upto logPlaysSpec)

/-- 'postriderlaw03.LogKnown', WHERE WHAT IT READS IS OF BULK AT MOST 1048576: true; the input reads as it did. -/
def logKnownUptoRow : OpenClaim := { program := "ytgjaggnpheoehaadoor", sum := "af28c03285c53e5be56736e19caa0880365d0f80d1c4e7a4bd7409024f4fe2e1", func := "postrider/postriderlaw03.LogKnown", spec := "logKnown", unfollowed := true, recurses := true, named := ["postrider/frame.table"], apart := false, laid := [("postrider/frame.table", laid_postrider_frame_table)], narrowed := true }
def LogKnownUptoSaid : Prop := logKnownUptoRow.holds Tryd.pinned (OpenSpec.upto logKnownSpec)

/-- 'postriderlaw03.LogSure', WHERE WHAT IT READS IS OF BULK AT MOST 1048576: true; the input reads as it did. -/
def logSureUptoRow : OpenClaim := { program := "ytgjaggnpheoehaadoor", sum := "af28c03285c53e5be56736e19caa0880365d0f80d1c4e7a4bd7409024f4fe2e1", func := "postrider/postriderlaw03.LogSure", spec := "logSure", unfollowed := true, recurses := true, named := ["postrider/frame.table"], apart := false, laid := [("postrider/frame.table", laid_postrider_frame_table)], narrowed := true }
def LogSureUptoSaid : Prop := logSureUptoRow.holds Tryd.pinned (OpenSpec.upto logSureSpec)

/-- 'postriderlaw03.LogFull', WHERE WHAT IT READS IS OF BULK AT MOST 1048576: true; the input reads as it did. -/
def logFullUptoRow : OpenClaim := { program := "ytgjaggnpheoehaadoor", sum := "af28c03285c53e5be56736e19caa0880365d0f80d1c4e7a4bd7409024f4fe2e1", func := "postrider/postriderlaw03.LogFull", spec := "logFull", unfollowed := true, recurses := true, named := ["postrider/frame.table"], apart := false, laid := [("postrider/frame.table", laid_postrider_frame_table)], narrowed := true }
def LogFullUptoSaid : Prop := logFullUptoRow.holds Tryd.pinned (OpenSpec.upto logFullSpec)

end Rows
end Go.Proofs.YtgjaggnpheoehaaDoor
