/-
  DERIVED. GIVEN WITH THE SEED: THE CARDS: each row of YtphpegnfcelagaaGreatDoorRows.lean that lists a variable, with what it lists TIED to the program's text (the seventh form; the later family's looks); each row that meets fmt, with fmt's text TOLD by the authors' own Lean function (tested against real Go, not proved from fmt's source: count such statements apart). THE CARD IS WHAT COUNTS. Prove the row's statement (the work); the ties are given (YtphpegnfcelagaaGreatDoorTie.lean); close each card by the builder's one call (the guide's Derived/Test/ToyasCard.lean, 'card_holds'). Laid BY PROGRAM, IN A SANDBOX (cutbox-door.mjs). By AI agents, Wed Nov 11 2026. No macro, syntax, notation, axiom, sorry.
-/
import Derived.Test.YtphpegnfcelagaaGreatDoorRows
import GoSem.ClaimSeven
namespace Go.Proofs.YtphpegnfcelagaaGreatDoor
namespace Rows

/-- THE TIED CARD OF 'scriptorylaw20.SpaceRoots'. -/
def spaceRootsCard : Claim7 := { stood := { row := spaceRootsRow, standIns := [], harness := (true, "027030053040989ac2a5e137c5b5585119fc8fbcf2eaefc002e889effbb3fad5"), looks := true }, kinds := [], alts := [], laidByText := true, laidKinds := [.handle], laidTests := true, laidLooks := .later }
def SpaceRootsCardSaid : Prop := Claim7.holds Tryz.pinned (.plain (OpenSpec.ofChange spaceRootsSpec)) spaceRootsCard

/-- THE TIED CARD OF 'scriptorylaw20.SpaceGives'. -/
def spaceGivesCard : Claim7 := { stood := { row := spaceGivesRow, standIns := [], harness := (true, "027030053040989ac2a5e137c5b5585119fc8fbcf2eaefc002e889effbb3fad5"), looks := true }, kinds := [], alts := [], laidByText := true, laidKinds := [.handle], laidTests := true, laidLooks := .later }
def SpaceGivesCardSaid : Prop := Claim7.holds Tryz.pinned (.plain (OpenSpec.ofChange spaceGivesSpec)) spaceGivesCard

/-- THE TIED CARD OF 'scriptorylaw19.TxnLong'. -/
def txnLongCard : Claim7 := { stood := { row := txnLongRow, standIns := [], harness := (true, "027030053040989ac2a5e137c5b5585119fc8fbcf2eaefc002e889effbb3fad5"), looks := true }, kinds := [], alts := [], laidByText := true, laidKinds := [.handle], laidTests := true, laidLooks := .later }
def TxnLongCardSaid : Prop := Claim7.holds Tryz.pinned (.plain (OpenSpec.ofChange txnLongSpec)) txnLongCard

/-- THE TIED CARD OF 'scriptorylaw19.TxnApart'. -/
def txnApartCard : Claim7 := { stood := { row := txnApartRow, standIns := [], harness := (true, "027030053040989ac2a5e137c5b5585119fc8fbcf2eaefc002e889effbb3fad5"), looks := true }, kinds := [], alts := [], laidByText := true, laidKinds := [.handle], laidTests := true, laidLooks := .later }
def TxnApartCardSaid : Prop := Claim7.holds Tryz.pinned (.plain (OpenSpec.ofChange txnApartSpec)) txnApartCard

/-- THE TIED CARD OF 'scriptorylaw19.TxnAll'. -/
def txnAllCard : Claim7 := { stood := { row := txnAllRow, standIns := [], harness := (true, "027030053040989ac2a5e137c5b5585119fc8fbcf2eaefc002e889effbb3fad5"), looks := true }, kinds := [], alts := [], laidByText := true, laidKinds := [.handle], laidTests := true, laidLooks := .later }
def TxnAllCardSaid : Prop := Claim7.holds Tryz.pinned (.plain (OpenSpec.ofChange txnAllSpec)) txnAllCard

/-- THE TIED CARD OF 'scriptorylaw19.TxnNone'. -/
def txnNoneCard : Claim7 := { stood := { row := txnNoneRow, standIns := [], harness := (true, "027030053040989ac2a5e137c5b5585119fc8fbcf2eaefc002e889effbb3fad5"), looks := true }, kinds := [], alts := [], laidByText := true, laidKinds := [.handle], laidTests := true, laidLooks := .later }
def TxnNoneCardSaid : Prop := Claim7.holds Tryz.pinned (.plain (OpenSpec.ofChange txnNoneSpec)) txnNoneCard

/-- THE TIED CARD OF 'scriptorylaw22.ChainLong'. -/
def chainLongCard : Claim7 := { stood := { row := chainLongRow, standIns := [], harness := (true, "027030053040989ac2a5e137c5b5585119fc8fbcf2eaefc002e889effbb3fad5"), looks := true }, kinds := [], alts := [], laidByText := true, laidKinds := [.handle], laidTests := true, laidLooks := .later }
def ChainLongCardSaid : Prop := Claim7.holds Tryz.pinned (.plain (OpenSpec.ofChange chainLongSpec)) chainLongCard

/-- THE TIED CARD OF 'scriptorylaw22.ChainReads'. -/
def chainReadsCard : Claim7 := { stood := { row := chainReadsRow, standIns := [], harness := (true, "027030053040989ac2a5e137c5b5585119fc8fbcf2eaefc002e889effbb3fad5"), looks := true }, kinds := [], alts := [], laidByText := true, laidKinds := [.handle], laidTests := true, laidLooks := .later }
def ChainReadsCardSaid : Prop := Claim7.holds Tryz.pinned (.plain (OpenSpec.ofChange chainReadsSpec)) chainReadsCard

/-- THE TIED CARD OF 'scriptorylaw22.ChainWrites'. -/
def chainWritesCard : Claim7 := { stood := { row := chainWritesRow, standIns := [], harness := (true, "027030053040989ac2a5e137c5b5585119fc8fbcf2eaefc002e889effbb3fad5"), looks := true }, kinds := [], alts := [], laidByText := true, laidKinds := [.handle], laidTests := true, laidLooks := .later }
def ChainWritesCardSaid : Prop := Claim7.holds Tryz.pinned (.plain (OpenSpec.ofChange chainWritesSpec)) chainWritesCard

/-- THE TIED CARD OF 'scriptorylaw22.ChainFull'. -/
def chainFullCard : Claim7 := { stood := { row := chainFullRow, standIns := [], harness := (true, "027030053040989ac2a5e137c5b5585119fc8fbcf2eaefc002e889effbb3fad5"), looks := true }, kinds := [], alts := [], laidByText := true, laidKinds := [.handle], laidTests := true, laidLooks := .later }
def ChainFullCardSaid : Prop := Claim7.holds Tryz.pinned (.plain (OpenSpec.ofChange chainFullSpec)) chainFullCard

/-- THE TIED CARD OF 'scriptorylaw22.ChainDrops'. -/
def chainDropsCard : Claim7 := { stood := { row := chainDropsRow, standIns := [], harness := (true, "027030053040989ac2a5e137c5b5585119fc8fbcf2eaefc002e889effbb3fad5"), looks := true }, kinds := [], alts := [], laidByText := true, laidKinds := [.handle], laidTests := true, laidLooks := .later }
def ChainDropsCardSaid : Prop := Claim7.holds Tryz.pinned (.plain (OpenSpec.ofChange chainDropsSpec)) chainDropsCard

/-- THE TIED CARD OF 'scriptorylaw22.ChainKeeps'. -/
def chainKeepsCard : Claim7 := { stood := { row := chainKeepsRow, standIns := [], harness := (true, "027030053040989ac2a5e137c5b5585119fc8fbcf2eaefc002e889effbb3fad5"), looks := true }, kinds := [], alts := [], laidByText := true, laidKinds := [.handle], laidTests := true, laidLooks := .later }
def ChainKeepsCardSaid : Prop := Claim7.holds Tryz.pinned (.plain (OpenSpec.ofChange chainKeepsSpec)) chainKeepsCard

/-- THE TIED CARD OF 'scriptorylaw20.SpaceAll'. -/
def spaceAllCard : Claim7 := { stood := { row := spaceAllRow, standIns := [], harness := (true, "027030053040989ac2a5e137c5b5585119fc8fbcf2eaefc002e889effbb3fad5"), looks := true }, kinds := [], alts := [], laidByText := true, laidKinds := [.handle], laidTests := true, laidLooks := .later }
def SpaceAllCardSaid : Prop := Claim7.holds Tryz.pinned (.plain (OpenSpec.ofChange spaceAllSpec)) spaceAllCard

/-- THE SECOND FORM's CARD OF 'scriptorylaw20.SpaceRoots'. -/
def spaceRootsUptoCard : Claim7 := { stood := { row := spaceRootsUptoRow, standIns := [], harness := (true, "027030053040989ac2a5e137c5b5585119fc8fbcf2eaefc002e889effbb3fad5"), looks := true }, kinds := [], alts := [], laidByText := true, laidKinds := [.handle], laidTests := true, laidLooks := .later }
def SpaceRootsUptoCardSaid : Prop := Claim7.holds Tryz.pinned (.plain (OpenSpec.upto spaceRootsSpec)) spaceRootsUptoCard

/-- THE SECOND FORM's CARD OF 'scriptorylaw20.SpaceGives'. -/
def spaceGivesUptoCard : Claim7 := { stood := { row := spaceGivesUptoRow, standIns := [], harness := (true, "027030053040989ac2a5e137c5b5585119fc8fbcf2eaefc002e889effbb3fad5"), looks := true }, kinds := [], alts := [], laidByText := true, laidKinds := [.handle], laidTests := true, laidLooks := .later }
def SpaceGivesUptoCardSaid : Prop := Claim7.holds Tryz.pinned (.plain (OpenSpec.upto spaceGivesSpec)) spaceGivesUptoCard

/-- THE SECOND FORM's CARD OF 'scriptorylaw19.TxnLong'. -/
def txnLongUptoCard : Claim7 := { stood := { row := txnLongUptoRow, standIns := [], harness := (true, "027030053040989ac2a5e137c5b5585119fc8fbcf2eaefc002e889effbb3fad5"), looks := true }, kinds := [], alts := [], laidByText := true, laidKinds := [.handle], laidTests := true, laidLooks := .later }
def TxnLongUptoCardSaid : Prop := Claim7.holds Tryz.pinned (.plain (OpenSpec.upto txnLongSpec)) txnLongUptoCard

/-- THE SECOND FORM's CARD OF 'scriptorylaw19.TxnApart'. -/
def txnApartUptoCard : Claim7 := { stood := { row := txnApartUptoRow, standIns := [], harness := (true, "027030053040989ac2a5e137c5b5585119fc8fbcf2eaefc002e889effbb3fad5"), looks := true }, kinds := [], alts := [], laidByText := true, laidKinds := [.handle], laidTests := true, laidLooks := .later }
def TxnApartUptoCardSaid : Prop := Claim7.holds Tryz.pinned (.plain (OpenSpec.upto txnApartSpec)) txnApartUptoCard

/-- THE SECOND FORM's CARD OF 'scriptorylaw19.TxnAll'. -/
def txnAllUptoCard : Claim7 := { stood := { row := txnAllUptoRow, standIns := [], harness := (true, "027030053040989ac2a5e137c5b5585119fc8fbcf2eaefc002e889effbb3fad5"), looks := true }, kinds := [], alts := [], laidByText := true, laidKinds := [.handle], laidTests := true, laidLooks := .later }
def TxnAllUptoCardSaid : Prop := Claim7.holds Tryz.pinned (.plain (OpenSpec.upto txnAllSpec)) txnAllUptoCard

/-- THE SECOND FORM's CARD OF 'scriptorylaw19.TxnNone'. -/
def txnNoneUptoCard : Claim7 := { stood := { row := txnNoneUptoRow, standIns := [], harness := (true, "027030053040989ac2a5e137c5b5585119fc8fbcf2eaefc002e889effbb3fad5"), looks := true }, kinds := [], alts := [], laidByText := true, laidKinds := [.handle], laidTests := true, laidLooks := .later }
def TxnNoneUptoCardSaid : Prop := Claim7.holds Tryz.pinned (.plain (OpenSpec.upto txnNoneSpec)) txnNoneUptoCard

/-- THE SECOND FORM's CARD OF 'scriptorylaw22.ChainLong'. -/
def chainLongUptoCard : Claim7 := { stood := { row := chainLongUptoRow, standIns := [], harness := (true, "027030053040989ac2a5e137c5b5585119fc8fbcf2eaefc002e889effbb3fad5"), looks := true }, kinds := [], alts := [], laidByText := true, laidKinds := [.handle], laidTests := true, laidLooks := .later }
def ChainLongUptoCardSaid : Prop := Claim7.holds Tryz.pinned (.plain (OpenSpec.upto chainLongSpec)) chainLongUptoCard

/-- THE SECOND FORM's CARD OF 'scriptorylaw22.ChainReads'. -/
def chainReadsUptoCard : Claim7 := { stood := { row := chainReadsUptoRow, standIns := [], harness := (true, "027030053040989ac2a5e137c5b5585119fc8fbcf2eaefc002e889effbb3fad5"), looks := true }, kinds := [], alts := [], laidByText := true, laidKinds := [.handle], laidTests := true, laidLooks := .later }
def ChainReadsUptoCardSaid : Prop := Claim7.holds Tryz.pinned (.plain (OpenSpec.upto chainReadsSpec)) chainReadsUptoCard

/-- THE SECOND FORM's CARD OF 'scriptorylaw22.ChainWrites'. -/
def chainWritesUptoCard : Claim7 := { stood := { row := chainWritesUptoRow, standIns := [], harness := (true, "027030053040989ac2a5e137c5b5585119fc8fbcf2eaefc002e889effbb3fad5"), looks := true }, kinds := [], alts := [], laidByText := true, laidKinds := [.handle], laidTests := true, laidLooks := .later }
def ChainWritesUptoCardSaid : Prop := Claim7.holds Tryz.pinned (.plain (OpenSpec.upto chainWritesSpec)) chainWritesUptoCard

/-- THE SECOND FORM's CARD OF 'scriptorylaw22.ChainFull'. -/
def chainFullUptoCard : Claim7 := { stood := { row := chainFullUptoRow, standIns := [], harness := (true, "027030053040989ac2a5e137c5b5585119fc8fbcf2eaefc002e889effbb3fad5"), looks := true }, kinds := [], alts := [], laidByText := true, laidKinds := [.handle], laidTests := true, laidLooks := .later }
def ChainFullUptoCardSaid : Prop := Claim7.holds Tryz.pinned (.plain (OpenSpec.upto chainFullSpec)) chainFullUptoCard

/-- THE SECOND FORM's CARD OF 'scriptorylaw22.ChainDrops'. -/
def chainDropsUptoCard : Claim7 := { stood := { row := chainDropsUptoRow, standIns := [], harness := (true, "027030053040989ac2a5e137c5b5585119fc8fbcf2eaefc002e889effbb3fad5"), looks := true }, kinds := [], alts := [], laidByText := true, laidKinds := [.handle], laidTests := true, laidLooks := .later }
def ChainDropsUptoCardSaid : Prop := Claim7.holds Tryz.pinned (.plain (OpenSpec.upto chainDropsSpec)) chainDropsUptoCard

/-- THE SECOND FORM's CARD OF 'scriptorylaw22.ChainKeeps'. -/
def chainKeepsUptoCard : Claim7 := { stood := { row := chainKeepsUptoRow, standIns := [], harness := (true, "027030053040989ac2a5e137c5b5585119fc8fbcf2eaefc002e889effbb3fad5"), looks := true }, kinds := [], alts := [], laidByText := true, laidKinds := [.handle], laidTests := true, laidLooks := .later }
def ChainKeepsUptoCardSaid : Prop := Claim7.holds Tryz.pinned (.plain (OpenSpec.upto chainKeepsSpec)) chainKeepsUptoCard

/-- THE SECOND FORM's CARD OF 'scriptorylaw20.SpaceAll'. -/
def spaceAllUptoCard : Claim7 := { stood := { row := spaceAllUptoRow, standIns := [], harness := (true, "027030053040989ac2a5e137c5b5585119fc8fbcf2eaefc002e889effbb3fad5"), looks := true }, kinds := [], alts := [], laidByText := true, laidKinds := [.handle], laidTests := true, laidLooks := .later }
def SpaceAllUptoCardSaid : Prop := Claim7.holds Tryz.pinned (.plain (OpenSpec.upto spaceAllSpec)) spaceAllUptoCard
end Rows
end Go.Proofs.YtphpegnfcelagaaGreatDoor
