/-
  NARROWER THAN 'FOR EVERY INPUT', by the rows' own cells (each row's printed sentence says how): HashTells: laid · HashKeys: laid · HashBlocks: laid · HashKnown: laid.
  DERIVED. THE GIVEN ROWS OF THIS SEAT. 4 by the template 'for every input the law returns true; each argument reads behind the call as it read before'; 0 by the template 'total and deterministic' (their statements: YtdplpcmpjkcocaaDoorTotals.lean).
  GIVEN WITH THE SEED: the statements are not yours to turn. If you find one false, say at which input.
  Laid BY PROGRAM, IN A SANDBOX (cutbox-rows.mjs): the forced cells as the released guide's own fill.sh prints them over the translation 2ad28afad6e56424… (all of the seat's roots in one cut). By AI agents, Wed Nov 11 2026. No macro, syntax, notation, axiom, sorry.
-/
import Derived.Test.YtdplpcmpjkcocaaDoorChecked
import GoSem.Claim
import GoSem.ClaimJoined
import GoSem.ClaimMapViews
import Derived.JoinedTies
import Derived.KernelRfl
namespace Go.Proofs.YtdplpcmpjkcocaaDoor
/- THE CELL 'sum', in the pinned program and in every row, IS THE sha256 OF THE DUMP (.gsa) THAT YtdplpcmpjkcocaaDoorProg.lean LOADS. Nothing in Lean hashes anything: it is a label: what it is worth is what the hold of that sum in a sandbox is worth. -/
noncomputable def Tryd.pinned : Pinned := { name := "ytdplpcmpjkcocaadoor", sum := "2ad28afad6e564248be907b9d394705fbb0288470f6c9380b5deaa42a3a6ee55", checked := Tryd.checked }
namespace Rows
def none {H : Type} : Left H := { results := [], args := [] }

/- WHAT THE LISTED PACKAGE-LEVEL VARIABLES READ AS WHEN THE CALL BEGINS. Each datum BY PROGRAM (the guide's laid-datum.mjs) off the statement by which the dump's own 'gosem.cut.vars' lays the variable. In a bare row this is a premise. The card (YtdplpcmpjkcocaaDoorCards.lean) ties it to the program's text. -/
def laid_postrider_hash_begins {H : Type} : DataW H := .agg [.lit (.int .u32 1732584193), .lit (.int .u32 4023233417), .lit (.int .u32 2562383102), .lit (.int .u32 271733878), .lit (.int .u32 3285377520)]
def laid_postrider_hash_turns {H : Type} : DataW H := .iface "func table" (.agg [.agg [.iface "func" (.lit (.string [112, 111, 115, 116, 114, 105, 100, 101, 114, 47, 104, 97, 115, 104, 46, 99, 104, 111, 105, 99, 101])), .lit (.int .u32 1518500249)], .agg [.iface "func" (.lit (.string [112, 111, 115, 116, 114, 105, 100, 101, 114, 47, 104, 97, 115, 104, 46, 112, 97, 114, 105, 116, 121])), .lit (.int .u32 1859775393)], .agg [.iface "func" (.lit (.string [112, 111, 115, 116, 114, 105, 100, 101, 114, 47, 104, 97, 115, 104, 46, 109, 111, 115, 116])), .lit (.int .u32 2400959708)], .agg [.iface "func" (.lit (.string [112, 111, 115, 116, 114, 105, 100, 101, 114, 47, 104, 97, 115, 104, 46, 112, 97, 114, 105, 116, 121])), .lit (.int .u32 3395469782)]])

/-- 'postriderlaw10.HashTells': WHATEVER THE INPUT: true; the input reads as it did. -/
def hashTellsSpec : ChangeSpec := { name := "hashTells", fn := fun _ => fun
  | [d1, d2] => { results := [.lit (.bool true)], args := [d1, d2] }
  | _ => none }
def hashTellsRow : OpenClaim := { program := "ytdplpcmpjkcocaadoor", sum := "2ad28afad6e564248be907b9d394705fbb0288470f6c9380b5deaa42a3a6ee55", func := "postrider/postriderlaw10.HashTells", spec := "hashTells", unfollowed := true, recurses := true, named := ["postrider/hash.begins", "postrider/hash.turns"], apart := false, laid := [("postrider/hash.begins", laid_postrider_hash_begins), ("postrider/hash.turns", laid_postrider_hash_turns)] }
def HashTellsSaid : Prop := hashTellsRow.holds Tryd.pinned (OpenSpec.ofChange hashTellsSpec)

/-- ITS FALSE NEIGHBOUR: 'it returns false'. Refute it at one input. -/
def hashTellsWrong : ChangeSpec := { name := "hashTells", fn := fun _ => fun
  | [d1, d2] => { results := [.lit (.bool false)], args := [d1, d2] }
  | _ => none }
def HashTellsWrongFalsely : Prop := hashTellsRow.holds Tryd.pinned (OpenSpec.ofChange hashTellsWrong)

/-- 'postriderlaw10.HashKeys': WHATEVER THE INPUT: true; the input reads as it did. -/
def hashKeysSpec : ChangeSpec := { name := "hashKeys", fn := fun _ => fun
  | [d1, d2, d3] => { results := [.lit (.bool true)], args := [d1, d2, d3] }
  | _ => none }
def hashKeysRow : OpenClaim := { program := "ytdplpcmpjkcocaadoor", sum := "2ad28afad6e564248be907b9d394705fbb0288470f6c9380b5deaa42a3a6ee55", func := "postrider/postriderlaw10.HashKeys", spec := "hashKeys", unfollowed := true, recurses := true, named := ["postrider/hash.begins", "postrider/hash.turns"], apart := false, laid := [("postrider/hash.begins", laid_postrider_hash_begins), ("postrider/hash.turns", laid_postrider_hash_turns)] }
def HashKeysSaid : Prop := hashKeysRow.holds Tryd.pinned (OpenSpec.ofChange hashKeysSpec)

/-- ITS FALSE NEIGHBOUR: 'it returns false'. Refute it at one input. -/
def hashKeysWrong : ChangeSpec := { name := "hashKeys", fn := fun _ => fun
  | [d1, d2, d3] => { results := [.lit (.bool false)], args := [d1, d2, d3] }
  | _ => none }
def HashKeysWrongFalsely : Prop := hashKeysRow.holds Tryd.pinned (OpenSpec.ofChange hashKeysWrong)

/-- 'postriderlaw10.HashBlocks': WHATEVER THE INPUT: true; the input reads as it did. -/
def hashBlocksSpec : ChangeSpec := { name := "hashBlocks", fn := fun _ => fun
  | [d1, d2] => { results := [.lit (.bool true)], args := [d1, d2] }
  | _ => none }
def hashBlocksRow : OpenClaim := { program := "ytdplpcmpjkcocaadoor", sum := "2ad28afad6e564248be907b9d394705fbb0288470f6c9380b5deaa42a3a6ee55", func := "postrider/postriderlaw10.HashBlocks", spec := "hashBlocks", unfollowed := true, recurses := true, named := ["postrider/hash.begins", "postrider/hash.turns"], apart := false, laid := [("postrider/hash.begins", laid_postrider_hash_begins), ("postrider/hash.turns", laid_postrider_hash_turns)] }
def HashBlocksSaid : Prop := hashBlocksRow.holds Tryd.pinned (OpenSpec.ofChange hashBlocksSpec)

/-- ITS FALSE NEIGHBOUR: 'it returns false'. Refute it at one input. -/
def hashBlocksWrong : ChangeSpec := { name := "hashBlocks", fn := fun _ => fun
  | [d1, d2] => { results := [.lit (.bool false)], args := [d1, d2] }
  | _ => none }
def HashBlocksWrongFalsely : Prop := hashBlocksRow.holds Tryd.pinned (OpenSpec.ofChange hashBlocksWrong)

/-- 'postriderlaw10.HashKnown': WHATEVER THE INPUT: true; the input reads as it did. -/
def hashKnownSpec : ChangeSpec := { name := "hashKnown", fn := fun _ => fun
  | [] => { results := [.lit (.bool true)], args := [] }
  | _ => none }
def hashKnownRow : OpenClaim := { program := "ytdplpcmpjkcocaadoor", sum := "2ad28afad6e564248be907b9d394705fbb0288470f6c9380b5deaa42a3a6ee55", func := "postrider/postriderlaw10.HashKnown", spec := "hashKnown", unfollowed := true, recurses := true, named := ["postrider/hash.begins", "postrider/hash.turns"], apart := false, laid := [("postrider/hash.begins", laid_postrider_hash_begins), ("postrider/hash.turns", laid_postrider_hash_turns)] }
def HashKnownSaid : Prop := hashKnownRow.holds Tryd.pinned (OpenSpec.ofChange hashKnownSpec)

/-- ITS FALSE NEIGHBOUR: 'it returns false'. Refute it at one input. -/
def hashKnownWrong : ChangeSpec := { name := "hashKnown", fn := fun _ => fun
  | [] => { results := [.lit (.bool false)], args := [] }
  | _ => none }
def HashKnownWrongFalsely : Prop := hashKnownRow.holds Tryd.pinned (OpenSpec.ofChange hashKnownWrong)

/- THE SECOND FORM. 'bulk': how many values and letters a reading holds, each counted each time it is reached (what is shared counts as often as it is met; a slice's spare places count too). A statement '..UptoSaid' is the law's where the arguments, and the package variables that the reading takes, are together of bulk at most 1048576: NARROWER than '..Said'. Prove '..Said' where nothing that the law and all that it calls make is longer than what came in: it says more and counts as full. Else prove '..UptoSaid'. A law counts once. -/
mutual
def uptoBulk {H : Type} : DataW H → Nat
  | .lit (.string bytes) => bytes.length + 1
  | .lit _ => 1
  | .nil => 1
  | .ptr d => uptoBulk d + 1
  | .slice elems spare => uptoBulkAll elems + uptoBulkAll spare + 1
  | .agg parts => uptoBulkAll parts + 1
  | .iface _ d => uptoBulk d + 1
  | .map entries => uptoBulkEntries entries + 1
  | .held _ => 1
def uptoBulkAll {H : Type} : List (DataW H) → Nat
  | [] => 0
  | d :: r => uptoBulk d + uptoBulkAll r
def uptoBulkEntries {H : Type} : List (Lit × DataW H) → Nat
  | [] => 0
  | x :: r => uptoBulkEntry x + uptoBulkEntries r
def uptoBulkEntry {H : Type} : Lit × DataW H → Nat
  | (.string bytes, d) => bytes.length + uptoBulk d + 1
  | (_, d) => uptoBulk d + 1
 end
def uptoSmall : (H : Type) → List (DataW H) → Bool := fun _ ds => decide (uptoBulkAll ds ≤ 1048576)
def OpenSpec.upto (s : _root_.Go.ChangeSpec) : _root_.Go.OpenSpec := { _root_.Go.OpenSpec.ofChange s with cond := some uptoSmall }

/-- 'postriderlaw10.HashTells', WHERE WHAT IT READS IS OF BULK AT MOST 1048576: true; the input reads as it did. -/
def hashTellsUptoRow : OpenClaim := { program := "ytdplpcmpjkcocaadoor", sum := "2ad28afad6e564248be907b9d394705fbb0288470f6c9380b5deaa42a3a6ee55", func := "postrider/postriderlaw10.HashTells", spec := "hashTells", unfollowed := true, recurses := true, named := ["postrider/hash.begins", "postrider/hash.turns"], apart := false, laid := [("postrider/hash.begins", laid_postrider_hash_begins), ("postrider/hash.turns", laid_postrider_hash_turns)], narrowed := true }
def HashTellsUptoSaid : Prop := hashTellsUptoRow.holds Tryd.pinned (OpenSpec.upto hashTellsSpec)

/-- 'postriderlaw10.HashKeys', WHERE WHAT IT READS IS OF BULK AT MOST 1048576: true; the input reads as it did. -/
def hashKeysUptoRow : OpenClaim := { program := "ytdplpcmpjkcocaadoor", sum := "2ad28afad6e564248be907b9d394705fbb0288470f6c9380b5deaa42a3a6ee55", func := "postrider/postriderlaw10.HashKeys", spec := "hashKeys", unfollowed := true, recurses := true, named := ["postrider/hash.begins", "postrider/hash.turns"], apart := false, laid := [("postrider/hash.begins", laid_postrider_hash_begins), ("postrider/hash.turns", laid_postrider_hash_turns)], narrowed := true }
def HashKeysUptoSaid : Prop := hashKeysUptoRow.holds Tryd.pinned (OpenSpec.upto hashKeysSpec)

/-- 'postriderlaw10.HashBlocks', WHERE WHAT IT READS IS OF BULK AT MOST 1048576: true; the input reads as it did. -/
def hashBlocksUptoRow : OpenClaim := { program := "ytdplpcmpjkcocaadoor", sum := "2ad28afad6e564248be907b9d394705fbb0288470f6c9380b5deaa42a3a6ee55", func := "postrider/postriderlaw10.HashBlocks", spec := "hashBlocks", unfollowed := true, recurses := true, named := ["postrider/hash.begins", "postrider/hash.turns"], apart := false, laid := [("postrider/hash.begins", laid_postrider_hash_begins), ("postrider/hash.turns", laid_postrider_hash_turns)], narrowed := true }
def HashBlocksUptoSaid : Prop := hashBlocksUptoRow.holds Tryd.pinned (OpenSpec.upto hashBlocksSpec)

/-- 'postriderlaw10.HashKnown', WHERE WHAT IT READS IS OF BULK AT MOST 1048576: true; the input reads as it did. -/
def hashKnownUptoRow : OpenClaim := { program := "ytdplpcmpjkcocaadoor", sum := "2ad28afad6e564248be907b9d394705fbb0288470f6c9380b5deaa42a3a6ee55", func := "postrider/postriderlaw10.HashKnown", spec := "hashKnown", unfollowed := true, recurses := true, named := ["postrider/hash.begins", "postrider/hash.turns"], apart := false, laid := [("postrider/hash.begins", laid_postrider_hash_begins), ("postrider/hash.turns", laid_postrider_hash_turns)], narrowed := true }
def HashKnownUptoSaid : Prop := hashKnownUptoRow.holds Tryd.pinned (OpenSpec.upto hashKnownSpec)

end Rows
end Go.Proofs.YtdplpcmpjkcocaaDoor
