/-
  DERIVED. GIVEN WITH THE SEED: THE CARDS: each row of YtjkfeonbioccmaaDoorRows.lean that lists a variable, with what it lists TIED to the program's text (the seventh form; the later family's looks); each row that meets fmt, with fmt's text TOLD by the authors' own Lean function (tested against real Go, not proved from fmt's source: count such statements apart). THE CARD IS WHAT COUNTS. Prove the row's statement (the work); the ties are given (YtjkfeonbioccmaaDoorTie.lean); close each card by the builder's one call (the guide's Derived/Test/ToyasCard.lean, 'card_holds'). Laid BY PROGRAM, IN A SANDBOX (cutbox-door.mjs). By AI agents, Wed Nov 11 2026. No macro, syntax, notation, axiom, sorry.
-/
import Derived.Test.YtjkfeonbioccmaaDoorRows
import GoSem.ClaimSeven
namespace Go.Proofs.YtjkfeonbioccmaaDoor
namespace Rows

/-- THE TIED CARD OF 'speculumlaw07.ProofsProof'. -/
def proofsProofCard : Claim7 := { stood := { row := proofsProofRow, standIns := [], harness := (true, "05d9cb915d7dc385c0a18e33fb58cf319a034fde1f25559775d258e4dd70a77f"), looks := true }, kinds := [], alts := [], laidByText := true, laidKinds := [.data, .data], laidTests := true, laidLooks := .later }
def ProofsProofCardSaid : Prop := Claim7.holds Tryd.pinned (.plain (OpenSpec.ofChange proofsProofSpec)) proofsProofCard

/-- THE TIED CARD OF 'speculumlaw07.ProofsCheck'. -/
def proofsCheckCard : Claim7 := { stood := { row := proofsCheckRow, standIns := [], harness := (true, "05d9cb915d7dc385c0a18e33fb58cf319a034fde1f25559775d258e4dd70a77f"), looks := true }, kinds := [], alts := [], laidByText := true, laidKinds := [.data, .data], laidTests := true, laidLooks := .later }
def ProofsCheckCardSaid : Prop := Claim7.holds Tryd.pinned (.plain (OpenSpec.ofChange proofsCheckSpec)) proofsCheckCard

/-- THE TIED CARD OF 'speculumlaw07.ProofsBack'. -/
def proofsBackCard : Claim7 := { stood := { row := proofsBackRow, standIns := [], harness := (true, "05d9cb915d7dc385c0a18e33fb58cf319a034fde1f25559775d258e4dd70a77f"), looks := true }, kinds := [], alts := [], laidByText := true, laidKinds := [.data, .data], laidTests := true, laidLooks := .later }
def ProofsBackCardSaid : Prop := Claim7.holds Tryd.pinned (.plain (OpenSpec.ofChange proofsBackSpec)) proofsBackCard

/-- THE TIED CARD OF 'speculumlaw14.TilesTell'. -/
def tilesTellCard : Claim7 := { stood := { row := tilesTellRow, standIns := [], harness := (true, "05d9cb915d7dc385c0a18e33fb58cf319a034fde1f25559775d258e4dd70a77f"), looks := true }, kinds := [], alts := [], laidByText := true, laidKinds := [.data, .data], laidTests := true, laidLooks := .later }
def TilesTellCardSaid : Prop := Claim7.holds Tryd.pinned (.plain (OpenSpec.ofChange tilesTellSpec)) tilesTellCard

/-- THE TIED CARD OF 'speculumlaw14.TilesFull'. -/
def tilesFullCard : Claim7 := { stood := { row := tilesFullRow, standIns := [], harness := (true, "05d9cb915d7dc385c0a18e33fb58cf319a034fde1f25559775d258e4dd70a77f"), looks := true }, kinds := [], alts := [], laidByText := true, laidKinds := [.data, .data], laidTests := true, laidLooks := .later }
def TilesFullCardSaid : Prop := Claim7.holds Tryd.pinned (.plain (OpenSpec.ofChange tilesFullSpec)) tilesFullCard

/-- THE TIED CARD OF 'speculumlaw14.TilesNone'. -/
def tilesNoneCard : Claim7 := { stood := { row := tilesNoneRow, standIns := [], harness := (true, "05d9cb915d7dc385c0a18e33fb58cf319a034fde1f25559775d258e4dd70a77f"), looks := true }, kinds := [], alts := [], laidByText := true, laidKinds := [.data, .data], laidTests := true, laidLooks := .later }
def TilesNoneCardSaid : Prop := Claim7.holds Tryd.pinned (.plain (OpenSpec.ofChange tilesNoneSpec)) tilesNoneCard

/-- THE TIED CARD OF 'speculumlaw27.ExtractTotal'. -/
def extractTotalCard : Claim7 := { stood := { row := extractTotalRow, standIns := [], harness := (true, "05d9cb915d7dc385c0a18e33fb58cf319a034fde1f25559775d258e4dd70a77f"), looks := true }, kinds := [], alts := [], laidByText := true, laidKinds := [.data, .data], laidTests := true, laidLooks := .later }
def ExtractTotalCardSaid : Prop := Claim7.holds Tryd.pinned (.plain (OpenSpec.ofChange extractTotalSpec)) extractTotalCard

/-- THE TIED CARD OF 'speculumlaw14.TilesLater'. -/
def tilesLaterCard : Claim7 := { stood := { row := tilesLaterRow, standIns := [], harness := (true, "05d9cb915d7dc385c0a18e33fb58cf319a034fde1f25559775d258e4dd70a77f"), looks := true }, kinds := [], alts := [], laidByText := true, laidKinds := [.data, .data], laidTests := true, laidLooks := .later }
def TilesLaterCardSaid : Prop := Claim7.holds Tryd.pinned (.plain (OpenSpec.ofChange tilesLaterSpec)) tilesLaterCard

/-- THE TIED CARD OF 'speculumlaw05.RangesPart'. -/
def rangesPartCard : Claim7 := { stood := { row := rangesPartRow, standIns := [], harness := (true, "05d9cb915d7dc385c0a18e33fb58cf319a034fde1f25559775d258e4dd70a77f"), looks := true }, kinds := [], alts := [], laidByText := true, laidKinds := [.data, .data], laidTests := true, laidLooks := .later }
def RangesPartCardSaid : Prop := Claim7.holds Tryd.pinned (.plain (OpenSpec.ofChange rangesPartSpec)) rangesPartCard

/-- THE TIED CARD OF 'speculumlaw05.RangesFull'. -/
def rangesFullCard : Claim7 := { stood := { row := rangesFullRow, standIns := [], harness := (true, "05d9cb915d7dc385c0a18e33fb58cf319a034fde1f25559775d258e4dd70a77f"), looks := true }, kinds := [], alts := [], laidByText := true, laidKinds := [.data, .data], laidTests := true, laidLooks := .later }
def RangesFullCardSaid : Prop := Claim7.holds Tryd.pinned (.plain (OpenSpec.ofChange rangesFullSpec)) rangesFullCard

/-- THE TIED CARD OF 'speculumlaw05.RangesTell'. -/
def rangesTellCard : Claim7 := { stood := { row := rangesTellRow, standIns := [], harness := (true, "05d9cb915d7dc385c0a18e33fb58cf319a034fde1f25559775d258e4dd70a77f"), looks := true }, kinds := [], alts := [], laidByText := true, laidKinds := [.data, .data], laidTests := true, laidLooks := .later }
def RangesTellCardSaid : Prop := Claim7.holds Tryd.pinned (.plain (OpenSpec.ofChange rangesTellSpec)) rangesTellCard

/-- THE TIED CARD OF 'speculumlaw05.RangesSame'. -/
def rangesSameCard : Claim7 := { stood := { row := rangesSameRow, standIns := [], harness := (true, "05d9cb915d7dc385c0a18e33fb58cf319a034fde1f25559775d258e4dd70a77f"), looks := true }, kinds := [], alts := [], laidByText := true, laidKinds := [.data, .data], laidTests := true, laidLooks := .later }
def RangesSameCardSaid : Prop := Claim7.holds Tryd.pinned (.plain (OpenSpec.ofChange rangesSameSpec)) rangesSameCard

/-- THE TIED CARD OF 'speculumlaw14.TilesProve'. -/
def tilesProveCard : Claim7 := { stood := { row := tilesProveRow, standIns := [], harness := (true, "05d9cb915d7dc385c0a18e33fb58cf319a034fde1f25559775d258e4dd70a77f"), looks := true }, kinds := [], alts := [], laidByText := true, laidKinds := [.data, .data], laidTests := true, laidLooks := .later }
def TilesProveCardSaid : Prop := Claim7.holds Tryd.pinned (.plain (OpenSpec.ofChange tilesProveSpec)) tilesProveCard

/-- THE TIED CARD OF 'speculumlaw25.StageRaw'. -/
def stageRawCard : Claim7 := { stood := { row := stageRawRow, standIns := [], harness := (true, "05d9cb915d7dc385c0a18e33fb58cf319a034fde1f25559775d258e4dd70a77f"), looks := true }, kinds := [], alts := [], laidByText := true, laidKinds := [.data, .data], laidTests := true, laidLooks := .later }
def StageRawCardSaid : Prop := Claim7.holds Tryd.pinned (.plain (OpenSpec.ofChange stageRawSpec)) stageRawCard

/-- THE TIED CARD OF 'speculumlaw25.StagePlay'. -/
def stagePlayCard : Claim7 := { stood := { row := stagePlayRow, standIns := [], harness := (true, "05d9cb915d7dc385c0a18e33fb58cf319a034fde1f25559775d258e4dd70a77f"), looks := true }, kinds := [], alts := [], laidByText := true, laidKinds := [.data, .data], laidTests := true, laidLooks := .later }
def StagePlayCardSaid : Prop := Claim7.holds Tryd.pinned (.plain (OpenSpec.ofChange stagePlaySpec)) stagePlayCard

/-- THE TIED CARD OF 'speculumlaw21.ServeTell'. -/
def serveTellCard : Claim7 := { stood := { row := serveTellRow, standIns := [], harness := (true, "05d9cb915d7dc385c0a18e33fb58cf319a034fde1f25559775d258e4dd70a77f"), looks := true }, kinds := [], alts := [], laidByText := true, laidKinds := [.data, .data], laidTests := true, laidLooks := .later }
def ServeTellCardSaid : Prop := Claim7.holds Tryd.pinned (.plain (OpenSpec.ofChange serveTellSpec)) serveTellCard

/-- THE TIED CARD OF 'speculumlaw21.ServeProves'. -/
def serveProvesCard : Claim7 := { stood := { row := serveProvesRow, standIns := [], harness := (true, "05d9cb915d7dc385c0a18e33fb58cf319a034fde1f25559775d258e4dd70a77f"), looks := true }, kinds := [], alts := [], laidByText := true, laidKinds := [.data, .data], laidTests := true, laidLooks := .later }
def ServeProvesCardSaid : Prop := Claim7.holds Tryd.pinned (.plain (OpenSpec.ofChange serveProvesSpec)) serveProvesCard

/-- THE TIED CARD OF 'speculumlaw22.PublishNone'. -/
def publishNoneCard : Claim7 := { stood := { row := publishNoneRow, standIns := [], harness := (true, "05d9cb915d7dc385c0a18e33fb58cf319a034fde1f25559775d258e4dd70a77f"), looks := true }, kinds := [], alts := [], laidByText := true, laidKinds := [.data, .data], laidTests := true, laidLooks := .later }
def PublishNoneCardSaid : Prop := Claim7.holds Tryd.pinned (.plain (OpenSpec.ofChange publishNoneSpec)) publishNoneCard

/-- THE TIED CARD OF 'speculumlaw22.PublishHeads'. -/
def publishHeadsCard : Claim7 := { stood := { row := publishHeadsRow, standIns := [], harness := (true, "05d9cb915d7dc385c0a18e33fb58cf319a034fde1f25559775d258e4dd70a77f"), looks := true }, kinds := [], alts := [], laidByText := true, laidKinds := [.data, .data], laidTests := true, laidLooks := .later }
def PublishHeadsCardSaid : Prop := Claim7.holds Tryd.pinned (.plain (OpenSpec.ofChange publishHeadsSpec)) publishHeadsCard

/-- THE TIED CARD OF 'speculumlaw27.ExtractTell'. -/
def extractTellCard : Claim7 := { stood := { row := extractTellRow, standIns := [], harness := (true, "05d9cb915d7dc385c0a18e33fb58cf319a034fde1f25559775d258e4dd70a77f"), looks := true }, kinds := [], alts := [], laidByText := true, laidKinds := [.data, .data], laidTests := true, laidLooks := .later }
def ExtractTellCardSaid : Prop := Claim7.holds Tryd.pinned (.plain (OpenSpec.ofChange extractTellSpec)) extractTellCard

/-- THE SECOND FORM's CARD OF 'speculumlaw07.ProofsProof'. -/
def proofsProofUptoCard : Claim7 := { stood := { row := proofsProofUptoRow, standIns := [], harness := (true, "05d9cb915d7dc385c0a18e33fb58cf319a034fde1f25559775d258e4dd70a77f"), looks := true }, kinds := [], alts := [], laidByText := true, laidKinds := [.data, .data], laidTests := true, laidLooks := .later }
def ProofsProofUptoCardSaid : Prop := Claim7.holds Tryd.pinned (.plain (OpenSpec.upto proofsProofSpec)) proofsProofUptoCard

/-- THE SECOND FORM's CARD OF 'speculumlaw07.ProofsCheck'. -/
def proofsCheckUptoCard : Claim7 := { stood := { row := proofsCheckUptoRow, standIns := [], harness := (true, "05d9cb915d7dc385c0a18e33fb58cf319a034fde1f25559775d258e4dd70a77f"), looks := true }, kinds := [], alts := [], laidByText := true, laidKinds := [.data, .data], laidTests := true, laidLooks := .later }
def ProofsCheckUptoCardSaid : Prop := Claim7.holds Tryd.pinned (.plain (OpenSpec.upto proofsCheckSpec)) proofsCheckUptoCard

/-- THE SECOND FORM's CARD OF 'speculumlaw07.ProofsBack'. -/
def proofsBackUptoCard : Claim7 := { stood := { row := proofsBackUptoRow, standIns := [], harness := (true, "05d9cb915d7dc385c0a18e33fb58cf319a034fde1f25559775d258e4dd70a77f"), looks := true }, kinds := [], alts := [], laidByText := true, laidKinds := [.data, .data], laidTests := true, laidLooks := .later }
def ProofsBackUptoCardSaid : Prop := Claim7.holds Tryd.pinned (.plain (OpenSpec.upto proofsBackSpec)) proofsBackUptoCard

/-- THE SECOND FORM's CARD OF 'speculumlaw14.TilesTell'. -/
def tilesTellUptoCard : Claim7 := { stood := { row := tilesTellUptoRow, standIns := [], harness := (true, "05d9cb915d7dc385c0a18e33fb58cf319a034fde1f25559775d258e4dd70a77f"), looks := true }, kinds := [], alts := [], laidByText := true, laidKinds := [.data, .data], laidTests := true, laidLooks := .later }
def TilesTellUptoCardSaid : Prop := Claim7.holds Tryd.pinned (.plain (OpenSpec.upto tilesTellSpec)) tilesTellUptoCard

/-- THE SECOND FORM's CARD OF 'speculumlaw14.TilesFull'. -/
def tilesFullUptoCard : Claim7 := { stood := { row := tilesFullUptoRow, standIns := [], harness := (true, "05d9cb915d7dc385c0a18e33fb58cf319a034fde1f25559775d258e4dd70a77f"), looks := true }, kinds := [], alts := [], laidByText := true, laidKinds := [.data, .data], laidTests := true, laidLooks := .later }
def TilesFullUptoCardSaid : Prop := Claim7.holds Tryd.pinned (.plain (OpenSpec.upto tilesFullSpec)) tilesFullUptoCard

/-- THE SECOND FORM's CARD OF 'speculumlaw14.TilesNone'. -/
def tilesNoneUptoCard : Claim7 := { stood := { row := tilesNoneUptoRow, standIns := [], harness := (true, "05d9cb915d7dc385c0a18e33fb58cf319a034fde1f25559775d258e4dd70a77f"), looks := true }, kinds := [], alts := [], laidByText := true, laidKinds := [.data, .data], laidTests := true, laidLooks := .later }
def TilesNoneUptoCardSaid : Prop := Claim7.holds Tryd.pinned (.plain (OpenSpec.upto tilesNoneSpec)) tilesNoneUptoCard

/-- THE SECOND FORM's CARD OF 'speculumlaw27.ExtractTotal'. -/
def extractTotalUptoCard : Claim7 := { stood := { row := extractTotalUptoRow, standIns := [], harness := (true, "05d9cb915d7dc385c0a18e33fb58cf319a034fde1f25559775d258e4dd70a77f"), looks := true }, kinds := [], alts := [], laidByText := true, laidKinds := [.data, .data], laidTests := true, laidLooks := .later }
def ExtractTotalUptoCardSaid : Prop := Claim7.holds Tryd.pinned (.plain (OpenSpec.upto extractTotalSpec)) extractTotalUptoCard

/-- THE SECOND FORM's CARD OF 'speculumlaw14.TilesLater'. -/
def tilesLaterUptoCard : Claim7 := { stood := { row := tilesLaterUptoRow, standIns := [], harness := (true, "05d9cb915d7dc385c0a18e33fb58cf319a034fde1f25559775d258e4dd70a77f"), looks := true }, kinds := [], alts := [], laidByText := true, laidKinds := [.data, .data], laidTests := true, laidLooks := .later }
def TilesLaterUptoCardSaid : Prop := Claim7.holds Tryd.pinned (.plain (OpenSpec.upto tilesLaterSpec)) tilesLaterUptoCard

/-- THE SECOND FORM's CARD OF 'speculumlaw05.RangesPart'. -/
def rangesPartUptoCard : Claim7 := { stood := { row := rangesPartUptoRow, standIns := [], harness := (true, "05d9cb915d7dc385c0a18e33fb58cf319a034fde1f25559775d258e4dd70a77f"), looks := true }, kinds := [], alts := [], laidByText := true, laidKinds := [.data, .data], laidTests := true, laidLooks := .later }
def RangesPartUptoCardSaid : Prop := Claim7.holds Tryd.pinned (.plain (OpenSpec.upto rangesPartSpec)) rangesPartUptoCard

/-- THE SECOND FORM's CARD OF 'speculumlaw05.RangesFull'. -/
def rangesFullUptoCard : Claim7 := { stood := { row := rangesFullUptoRow, standIns := [], harness := (true, "05d9cb915d7dc385c0a18e33fb58cf319a034fde1f25559775d258e4dd70a77f"), looks := true }, kinds := [], alts := [], laidByText := true, laidKinds := [.data, .data], laidTests := true, laidLooks := .later }
def RangesFullUptoCardSaid : Prop := Claim7.holds Tryd.pinned (.plain (OpenSpec.upto rangesFullSpec)) rangesFullUptoCard

/-- THE SECOND FORM's CARD OF 'speculumlaw05.RangesTell'. -/
def rangesTellUptoCard : Claim7 := { stood := { row := rangesTellUptoRow, standIns := [], harness := (true, "05d9cb915d7dc385c0a18e33fb58cf319a034fde1f25559775d258e4dd70a77f"), looks := true }, kinds := [], alts := [], laidByText := true, laidKinds := [.data, .data], laidTests := true, laidLooks := .later }
def RangesTellUptoCardSaid : Prop := Claim7.holds Tryd.pinned (.plain (OpenSpec.upto rangesTellSpec)) rangesTellUptoCard

/-- THE SECOND FORM's CARD OF 'speculumlaw05.RangesSame'. -/
def rangesSameUptoCard : Claim7 := { stood := { row := rangesSameUptoRow, standIns := [], harness := (true, "05d9cb915d7dc385c0a18e33fb58cf319a034fde1f25559775d258e4dd70a77f"), looks := true }, kinds := [], alts := [], laidByText := true, laidKinds := [.data, .data], laidTests := true, laidLooks := .later }
def RangesSameUptoCardSaid : Prop := Claim7.holds Tryd.pinned (.plain (OpenSpec.upto rangesSameSpec)) rangesSameUptoCard

/-- THE SECOND FORM's CARD OF 'speculumlaw14.TilesProve'. -/
def tilesProveUptoCard : Claim7 := { stood := { row := tilesProveUptoRow, standIns := [], harness := (true, "05d9cb915d7dc385c0a18e33fb58cf319a034fde1f25559775d258e4dd70a77f"), looks := true }, kinds := [], alts := [], laidByText := true, laidKinds := [.data, .data], laidTests := true, laidLooks := .later }
def TilesProveUptoCardSaid : Prop := Claim7.holds Tryd.pinned (.plain (OpenSpec.upto tilesProveSpec)) tilesProveUptoCard

/-- THE SECOND FORM's CARD OF 'speculumlaw25.StageRaw'. -/
def stageRawUptoCard : Claim7 := { stood := { row := stageRawUptoRow, standIns := [], harness := (true, "05d9cb915d7dc385c0a18e33fb58cf319a034fde1f25559775d258e4dd70a77f"), looks := true }, kinds := [], alts := [], laidByText := true, laidKinds := [.data, .data], laidTests := true, laidLooks := .later }
def StageRawUptoCardSaid : Prop := Claim7.holds Tryd.pinned (.plain (OpenSpec.upto stageRawSpec)) stageRawUptoCard

/-- THE SECOND FORM's CARD OF 'speculumlaw25.StagePlay'. -/
def stagePlayUptoCard : Claim7 := { stood := { row := stagePlayUptoRow, standIns := [], harness := (true, "05d9cb915d7dc385c0a18e33fb58cf319a034fde1f25559775d258e4dd70a77f"), looks := true }, kinds := [], alts := [], laidByText := true, laidKinds := [.data, .data], laidTests := true, laidLooks := .later }
def StagePlayUptoCardSaid : Prop := Claim7.holds Tryd.pinned (.plain (OpenSpec.upto stagePlaySpec)) stagePlayUptoCard

/-- THE SECOND FORM's CARD OF 'speculumlaw21.ServeTell'. -/
def serveTellUptoCard : Claim7 := { stood := { row := serveTellUptoRow, standIns := [], harness := (true, "05d9cb915d7dc385c0a18e33fb58cf319a034fde1f25559775d258e4dd70a77f"), looks := true }, kinds := [], alts := [], laidByText := true, laidKinds := [.data, .data], laidTests := true, laidLooks := .later }
def ServeTellUptoCardSaid : Prop := Claim7.holds Tryd.pinned (.plain (OpenSpec.upto serveTellSpec)) serveTellUptoCard

/-- THE SECOND FORM's CARD OF 'speculumlaw21.ServeProves'. -/
def serveProvesUptoCard : Claim7 := { stood := { row := serveProvesUptoRow, standIns := [], harness := (true, "05d9cb915d7dc385c0a18e33fb58cf319a034fde1f25559775d258e4dd70a77f"), looks := true }, kinds := [], alts := [], laidByText := true, laidKinds := [.data, .data], laidTests := true, laidLooks := .later }
def ServeProvesUptoCardSaid : Prop := Claim7.holds Tryd.pinned (.plain (OpenSpec.upto serveProvesSpec)) serveProvesUptoCard

/-- THE SECOND FORM's CARD OF 'speculumlaw22.PublishNone'. -/
def publishNoneUptoCard : Claim7 := { stood := { row := publishNoneUptoRow, standIns := [], harness := (true, "05d9cb915d7dc385c0a18e33fb58cf319a034fde1f25559775d258e4dd70a77f"), looks := true }, kinds := [], alts := [], laidByText := true, laidKinds := [.data, .data], laidTests := true, laidLooks := .later }
def PublishNoneUptoCardSaid : Prop := Claim7.holds Tryd.pinned (.plain (OpenSpec.upto publishNoneSpec)) publishNoneUptoCard

/-- THE SECOND FORM's CARD OF 'speculumlaw22.PublishHeads'. -/
def publishHeadsUptoCard : Claim7 := { stood := { row := publishHeadsUptoRow, standIns := [], harness := (true, "05d9cb915d7dc385c0a18e33fb58cf319a034fde1f25559775d258e4dd70a77f"), looks := true }, kinds := [], alts := [], laidByText := true, laidKinds := [.data, .data], laidTests := true, laidLooks := .later }
def PublishHeadsUptoCardSaid : Prop := Claim7.holds Tryd.pinned (.plain (OpenSpec.upto publishHeadsSpec)) publishHeadsUptoCard

/-- THE SECOND FORM's CARD OF 'speculumlaw27.ExtractTell'. -/
def extractTellUptoCard : Claim7 := { stood := { row := extractTellUptoRow, standIns := [], harness := (true, "05d9cb915d7dc385c0a18e33fb58cf319a034fde1f25559775d258e4dd70a77f"), looks := true }, kinds := [], alts := [], laidByText := true, laidKinds := [.data, .data], laidTests := true, laidLooks := .later }
def ExtractTellUptoCardSaid : Prop := Claim7.holds Tryd.pinned (.plain (OpenSpec.upto extractTellSpec)) extractTellUptoCard
end Rows
end Go.Proofs.YtjkfeonbioccmaaDoor
