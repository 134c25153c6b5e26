/-
  DERIVED. GIVEN WITH THE SEED: THE CARDS: each row of YtgjaggnpheoehaaDoorRows.lean that lists a variable, with what it lists TIED to the program's text (the seventh form; the later family's looks); each row that meets fmt, with fmt's text TOLD by the authors' own Lean function (tested against real Go, not proved from fmt's source: count such statements apart). THE CARD IS WHAT COUNTS. Prove the row's statement (the work); the ties are given (YtgjaggnpheoehaaDoorTie.lean); close each card by the builder's one call (the guide's Derived/Test/ToyasCard.lean, 'card_holds'). Laid BY PROGRAM, IN A SANDBOX (cutbox-door.mjs). By AI agents, Wed Nov 11 2026. No macro, syntax, notation, axiom, sorry.
-/
import Derived.Test.YtgjaggnpheoehaaDoorRows
import GoSem.ClaimSeven
namespace Go.Proofs.YtgjaggnpheoehaaDoor
namespace Rows

/-- THE TIED CARD OF 'postriderlaw02.FrameChecks'. -/
def frameChecksCard : Claim7 := { stood := { row := frameChecksRow, standIns := [], harness := (true, "50ca72352fdf02071056a7e022db1366dd55a6a6bb4ec1faa6ec7cc9550ccb2d"), looks := false }, kinds := [], alts := [], laidByText := true, laidKinds := [.data], laidTests := true, laidLooks := .later }
def FrameChecksCardSaid : Prop := Claim7.holds Tryd.pinned (.plain (OpenSpec.ofChange frameChecksSpec)) frameChecksCard

/-- THE TIED CARD OF 'postriderlaw02.FrameOpens'. -/
def frameOpensCard : Claim7 := { stood := { row := frameOpensRow, standIns := [], harness := (true, "50ca72352fdf02071056a7e022db1366dd55a6a6bb4ec1faa6ec7cc9550ccb2d"), looks := false }, kinds := [], alts := [], laidByText := true, laidKinds := [.data], laidTests := true, laidLooks := .later }
def FrameOpensCardSaid : Prop := Claim7.holds Tryd.pinned (.plain (OpenSpec.ofChange frameOpensSpec)) frameOpensCard

/-- THE TIED CARD OF 'postriderlaw02.FrameBack'. -/
def frameBackCard : Claim7 := { stood := { row := frameBackRow, standIns := [], harness := (true, "50ca72352fdf02071056a7e022db1366dd55a6a6bb4ec1faa6ec7cc9550ccb2d"), looks := false }, kinds := [], alts := [], laidByText := true, laidKinds := [.data], laidTests := true, laidLooks := .later }
def FrameBackCardSaid : Prop := Claim7.holds Tryd.pinned (.plain (OpenSpec.ofChange frameBackSpec)) frameBackCard

/-- THE TIED CARD OF 'postriderlaw02.FrameBits'. -/
def frameBitsCard : Claim7 := { stood := { row := frameBitsRow, standIns := [], harness := (true, "50ca72352fdf02071056a7e022db1366dd55a6a6bb4ec1faa6ec7cc9550ccb2d"), looks := false }, kinds := [], alts := [], laidByText := true, laidKinds := [.data], laidTests := true, laidLooks := .later }
def FrameBitsCardSaid : Prop := Claim7.holds Tryd.pinned (.plain (OpenSpec.ofChange frameBitsSpec)) frameBitsCard

/-- THE TIED CARD OF 'postriderlaw02.FrameChain'. -/
def frameChainCard : Claim7 := { stood := { row := frameChainRow, standIns := [], harness := (true, "50ca72352fdf02071056a7e022db1366dd55a6a6bb4ec1faa6ec7cc9550ccb2d"), looks := false }, kinds := [], alts := [], laidByText := true, laidKinds := [.data], laidTests := true, laidLooks := .later }
def FrameChainCardSaid : Prop := Claim7.holds Tryd.pinned (.plain (OpenSpec.ofChange frameChainSpec)) frameChainCard

/-- THE TIED CARD OF 'postriderlaw03.LogAgain'. -/
def logAgainCard : Claim7 := { stood := { row := logAgainRow, standIns := [], harness := (true, "50ca72352fdf02071056a7e022db1366dd55a6a6bb4ec1faa6ec7cc9550ccb2d"), looks := false }, kinds := [], alts := [], laidByText := true, laidKinds := [.data], laidTests := true, laidLooks := .later }
def LogAgainCardSaid : Prop := Claim7.holds Tryd.pinned (.plain (OpenSpec.ofChange logAgainSpec)) logAgainCard

/-- THE TIED CARD OF 'postriderlaw02.FrameKnown'. -/
def frameKnownCard : Claim7 := { stood := { row := frameKnownRow, standIns := [], harness := (true, "50ca72352fdf02071056a7e022db1366dd55a6a6bb4ec1faa6ec7cc9550ccb2d"), looks := false }, kinds := [], alts := [], laidByText := true, laidKinds := [.data], laidTests := true, laidLooks := .later }
def FrameKnownCardSaid : Prop := Claim7.holds Tryd.pinned (.plain (OpenSpec.ofChange frameKnownSpec)) frameKnownCard

/-- THE TIED CARD OF 'postriderlaw03.LogPlays'. -/
def logPlaysCard : Claim7 := { stood := { row := logPlaysRow, standIns := [], harness := (true, "50ca72352fdf02071056a7e022db1366dd55a6a6bb4ec1faa6ec7cc9550ccb2d"), looks := false }, kinds := [], alts := [], laidByText := true, laidKinds := [.data], laidTests := true, laidLooks := .later }
def LogPlaysCardSaid : Prop := Claim7.holds Tryd.pinned (.plain (OpenSpec.ofChange logPlaysSpec)) logPlaysCard

/-- THE TIED CARD OF 'postriderlaw03.LogKnown'. -/
def logKnownCard : Claim7 := { stood := { row := logKnownRow, standIns := [], harness := (true, "50ca72352fdf02071056a7e022db1366dd55a6a6bb4ec1faa6ec7cc9550ccb2d"), looks := false }, kinds := [], alts := [], laidByText := true, laidKinds := [.data], laidTests := true, laidLooks := .later }
def LogKnownCardSaid : Prop := Claim7.holds Tryd.pinned (.plain (OpenSpec.ofChange logKnownSpec)) logKnownCard

/-- THE TIED CARD OF 'postriderlaw03.LogSure'. -/
def logSureCard : Claim7 := { stood := { row := logSureRow, standIns := [], harness := (true, "50ca72352fdf02071056a7e022db1366dd55a6a6bb4ec1faa6ec7cc9550ccb2d"), looks := false }, kinds := [], alts := [], laidByText := true, laidKinds := [.data], laidTests := true, laidLooks := .later }
def LogSureCardSaid : Prop := Claim7.holds Tryd.pinned (.plain (OpenSpec.ofChange logSureSpec)) logSureCard

/-- THE TIED CARD OF 'postriderlaw03.LogFull'. -/
def logFullCard : Claim7 := { stood := { row := logFullRow, standIns := [], harness := (true, "50ca72352fdf02071056a7e022db1366dd55a6a6bb4ec1faa6ec7cc9550ccb2d"), looks := false }, kinds := [], alts := [], laidByText := true, laidKinds := [.data], laidTests := true, laidLooks := .later }
def LogFullCardSaid : Prop := Claim7.holds Tryd.pinned (.plain (OpenSpec.ofChange logFullSpec)) logFullCard

/-- THE SECOND FORM's CARD OF 'postriderlaw02.FrameChecks'. -/
def frameChecksUptoCard : Claim7 := { stood := { row := frameChecksUptoRow, standIns := [], harness := (true, "50ca72352fdf02071056a7e022db1366dd55a6a6bb4ec1faa6ec7cc9550ccb2d"), looks := false }, kinds := [], alts := [], laidByText := true, laidKinds := [.data], laidTests := true, laidLooks := .later }
def FrameChecksUptoCardSaid : Prop := Claim7.holds Tryd.pinned (.plain (OpenSpec.upto frameChecksSpec)) frameChecksUptoCard

/-- THE SECOND FORM's CARD OF 'postriderlaw02.FrameOpens'. -/
def frameOpensUptoCard : Claim7 := { stood := { row := frameOpensUptoRow, standIns := [], harness := (true, "50ca72352fdf02071056a7e022db1366dd55a6a6bb4ec1faa6ec7cc9550ccb2d"), looks := false }, kinds := [], alts := [], laidByText := true, laidKinds := [.data], laidTests := true, laidLooks := .later }
def FrameOpensUptoCardSaid : Prop := Claim7.holds Tryd.pinned (.plain (OpenSpec.upto frameOpensSpec)) frameOpensUptoCard

/-- THE SECOND FORM's CARD OF 'postriderlaw02.FrameBack'. -/
def frameBackUptoCard : Claim7 := { stood := { row := frameBackUptoRow, standIns := [], harness := (true, "50ca72352fdf02071056a7e022db1366dd55a6a6bb4ec1faa6ec7cc9550ccb2d"), looks := false }, kinds := [], alts := [], laidByText := true, laidKinds := [.data], laidTests := true, laidLooks := .later }
def FrameBackUptoCardSaid : Prop := Claim7.holds Tryd.pinned (.plain (OpenSpec.upto frameBackSpec)) frameBackUptoCard

/-- THE SECOND FORM's CARD OF 'postriderlaw02.FrameBits'. -/
def frameBitsUptoCard : Claim7 := { stood := { row := frameBitsUptoRow, standIns := [], harness := (true, "50ca72352fdf02071056a7e022db1366dd55a6a6bb4ec1faa6ec7cc9550ccb2d"), looks := false }, kinds := [], alts := [], laidByText := true, laidKinds := [.data], laidTests := true, laidLooks := .later }
def FrameBitsUptoCardSaid : Prop := Claim7.holds Tryd.pinned (.plain (OpenSpec.upto frameBitsSpec)) frameBitsUptoCard

/-- THE SECOND FORM's CARD OF 'postriderlaw02.FrameChain'. -/
def frameChainUptoCard : Claim7 := { stood := { row := frameChainUptoRow, standIns := [], harness := (true, "50ca72352fdf02071056a7e022db1366dd55a6a6bb4ec1faa6ec7cc9550ccb2d"), looks := false }, kinds := [], alts := [], laidByText := true, laidKinds := [.data], laidTests := true, laidLooks := .later }
def FrameChainUptoCardSaid : Prop := Claim7.holds Tryd.pinned (.plain (OpenSpec.upto frameChainSpec)) frameChainUptoCard

/-- THE SECOND FORM's CARD OF 'postriderlaw03.LogAgain'. -/
def logAgainUptoCard : Claim7 := { stood := { row := logAgainUptoRow, standIns := [], harness := (true, "50ca72352fdf02071056a7e022db1366dd55a6a6bb4ec1faa6ec7cc9550ccb2d"), looks := false }, kinds := [], alts := [], laidByText := true, laidKinds := [.data], laidTests := true, laidLooks := .later }
def LogAgainUptoCardSaid : Prop := Claim7.holds Tryd.pinned (.plain (OpenSpec.upto logAgainSpec)) logAgainUptoCard

/-- THE SECOND FORM's CARD OF 'postriderlaw02.FrameKnown'. -/
def frameKnownUptoCard : Claim7 := { stood := { row := frameKnownUptoRow, standIns := [], harness := (true, "50ca72352fdf02071056a7e022db1366dd55a6a6bb4ec1faa6ec7cc9550ccb2d"), looks := false }, kinds := [], alts := [], laidByText := true, laidKinds := [.data], laidTests := true, laidLooks := .later }
def FrameKnownUptoCardSaid : Prop := Claim7.holds Tryd.pinned (.plain (OpenSpec.upto frameKnownSpec)) frameKnownUptoCard

/-- THE SECOND FORM's CARD OF 'postriderlaw03.LogPlays'. -/
def logPlaysUptoCard : Claim7 := { stood := { row := logPlaysUptoRow, standIns := [], harness := (true, "50ca72352fdf02071056a7e022db1366dd55a6a6bb4ec1faa6ec7cc9550ccb2d"), looks := false }, kinds := [], alts := [], laidByText := true, laidKinds := [.data], laidTests := true, laidLooks := .later }
def LogPlaysUptoCardSaid : Prop := Claim7.holds Tryd.pinned (.plain (OpenSpec.upto logPlaysSpec)) logPlaysUptoCard

/-- THE SECOND FORM's CARD OF 'postriderlaw03.LogKnown'. -/
def logKnownUptoCard : Claim7 := { stood := { row := logKnownUptoRow, standIns := [], harness := (true, "50ca72352fdf02071056a7e022db1366dd55a6a6bb4ec1faa6ec7cc9550ccb2d"), looks := false }, kinds := [], alts := [], laidByText := true, laidKinds := [.data], laidTests := true, laidLooks := .later }
def LogKnownUptoCardSaid : Prop := Claim7.holds Tryd.pinned (.plain (OpenSpec.upto logKnownSpec)) logKnownUptoCard

/-- THE SECOND FORM's CARD OF 'postriderlaw03.LogSure'. -/
def logSureUptoCard : Claim7 := { stood := { row := logSureUptoRow, standIns := [], harness := (true, "50ca72352fdf02071056a7e022db1366dd55a6a6bb4ec1faa6ec7cc9550ccb2d"), looks := false }, kinds := [], alts := [], laidByText := true, laidKinds := [.data], laidTests := true, laidLooks := .later }
def LogSureUptoCardSaid : Prop := Claim7.holds Tryd.pinned (.plain (OpenSpec.upto logSureSpec)) logSureUptoCard

/-- THE SECOND FORM's CARD OF 'postriderlaw03.LogFull'. -/
def logFullUptoCard : Claim7 := { stood := { row := logFullUptoRow, standIns := [], harness := (true, "50ca72352fdf02071056a7e022db1366dd55a6a6bb4ec1faa6ec7cc9550ccb2d"), looks := false }, kinds := [], alts := [], laidByText := true, laidKinds := [.data], laidTests := true, laidLooks := .later }
def LogFullUptoCardSaid : Prop := Claim7.holds Tryd.pinned (.plain (OpenSpec.upto logFullSpec)) logFullUptoCard
end Rows
end Go.Proofs.YtgjaggnpheoehaaDoor
