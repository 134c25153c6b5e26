/-
  DERIVED. GIVEN WITH THE SEED: THE CARDS: each row of YtdplpcmpjkcocaaDoorRows.lean that lists a variable, with what it lists TIED to the program's text (the seventh form; the later family's looks); each row that meets fmt, with fmt's text TOLD by the authors' own Lean function (tested against real Go, not proved from fmt's source: count such statements apart). THE CARD IS WHAT COUNTS. Prove the row's statement (the work); the ties are given (YtdplpcmpjkcocaaDoorTie.lean); close each card by the builder's one call (the guide's Derived/Test/ToyasCard.lean, 'card_holds'). Laid BY PROGRAM, IN A SANDBOX (cutbox-door.mjs). By AI agents, Wed Nov 11 2026. No macro, syntax, notation, axiom, sorry.
-/
import Derived.Test.YtdplpcmpjkcocaaDoorRows
import GoSem.ClaimSeven
namespace Go.Proofs.YtdplpcmpjkcocaaDoor
namespace Rows

/-- THE TIED CARD OF 'postriderlaw10.HashTells'. -/
def hashTellsCard : Claim7 := { stood := { row := hashTellsRow, standIns := [], harness := (true, "11413457dc4bcf2752610d82ed97f3eb70507a96215814dd50a8d0d32d4279d3"), looks := false }, kinds := [], alts := [], laidByText := true, laidKinds := [.data, .funcs], laidTests := true, laidLooks := .later }
def HashTellsCardSaid : Prop := Claim7.holds Tryd.pinned (.plain (OpenSpec.ofChange hashTellsSpec)) hashTellsCard

/-- THE TIED CARD OF 'postriderlaw10.HashKeys'. -/
def hashKeysCard : Claim7 := { stood := { row := hashKeysRow, standIns := [], harness := (true, "11413457dc4bcf2752610d82ed97f3eb70507a96215814dd50a8d0d32d4279d3"), looks := false }, kinds := [], alts := [], laidByText := true, laidKinds := [.data, .funcs], laidTests := true, laidLooks := .later }
def HashKeysCardSaid : Prop := Claim7.holds Tryd.pinned (.plain (OpenSpec.ofChange hashKeysSpec)) hashKeysCard

/-- THE TIED CARD OF 'postriderlaw10.HashBlocks'. -/
def hashBlocksCard : Claim7 := { stood := { row := hashBlocksRow, standIns := [], harness := (true, "11413457dc4bcf2752610d82ed97f3eb70507a96215814dd50a8d0d32d4279d3"), looks := false }, kinds := [], alts := [], laidByText := true, laidKinds := [.data, .funcs], laidTests := true, laidLooks := .later }
def HashBlocksCardSaid : Prop := Claim7.holds Tryd.pinned (.plain (OpenSpec.ofChange hashBlocksSpec)) hashBlocksCard

/-- THE TIED CARD OF 'postriderlaw10.HashKnown'. -/
def hashKnownCard : Claim7 := { stood := { row := hashKnownRow, standIns := [], harness := (true, "11413457dc4bcf2752610d82ed97f3eb70507a96215814dd50a8d0d32d4279d3"), looks := false }, kinds := [], alts := [], laidByText := true, laidKinds := [.data, .funcs], laidTests := true, laidLooks := .later }
def HashKnownCardSaid : Prop := Claim7.holds Tryd.pinned (.plain (OpenSpec.ofChange hashKnownSpec)) hashKnownCard

/-- THE SECOND FORM's CARD OF 'postriderlaw10.HashTells'. -/
def hashTellsUptoCard : Claim7 := { stood := { row := hashTellsUptoRow, standIns := [], harness := (true, "11413457dc4bcf2752610d82ed97f3eb70507a96215814dd50a8d0d32d4279d3"), looks := false }, kinds := [], alts := [], laidByText := true, laidKinds := [.data, .funcs], laidTests := true, laidLooks := .later }
def HashTellsUptoCardSaid : Prop := Claim7.holds Tryd.pinned (.plain (OpenSpec.upto hashTellsSpec)) hashTellsUptoCard

/-- THE SECOND FORM's CARD OF 'postriderlaw10.HashKeys'. -/
def hashKeysUptoCard : Claim7 := { stood := { row := hashKeysUptoRow, standIns := [], harness := (true, "11413457dc4bcf2752610d82ed97f3eb70507a96215814dd50a8d0d32d4279d3"), looks := false }, kinds := [], alts := [], laidByText := true, laidKinds := [.data, .funcs], laidTests := true, laidLooks := .later }
def HashKeysUptoCardSaid : Prop := Claim7.holds Tryd.pinned (.plain (OpenSpec.upto hashKeysSpec)) hashKeysUptoCard

/-- THE SECOND FORM's CARD OF 'postriderlaw10.HashBlocks'. -/
def hashBlocksUptoCard : Claim7 := { stood := { row := hashBlocksUptoRow, standIns := [], harness := (true, "11413457dc4bcf2752610d82ed97f3eb70507a96215814dd50a8d0d32d4279d3"), looks := false }, kinds := [], alts := [], laidByText := true, laidKinds := [.data, .funcs], laidTests := true, laidLooks := .later }
def HashBlocksUptoCardSaid : Prop := Claim7.holds Tryd.pinned (.plain (OpenSpec.upto hashBlocksSpec)) hashBlocksUptoCard

/-- THE SECOND FORM's CARD OF 'postriderlaw10.HashKnown'. -/
def hashKnownUptoCard : Claim7 := { stood := { row := hashKnownUptoRow, standIns := [], harness := (true, "11413457dc4bcf2752610d82ed97f3eb70507a96215814dd50a8d0d32d4279d3"), looks := false }, kinds := [], alts := [], laidByText := true, laidKinds := [.data, .funcs], laidTests := true, laidLooks := .later }
def HashKnownUptoCardSaid : Prop := Claim7.holds Tryd.pinned (.plain (OpenSpec.upto hashKnownSpec)) hashKnownUptoCard
end Rows
end Go.Proofs.YtdplpcmpjkcocaaDoor
