/-
  DERIVED. GIVEN WITH THE SEED: THE CARDS: each row of YtlgciddnpinpbaaGreatDoorRows.lean that lists a variable, with what it lists TIED to the program's text (the seventh form; the later family's looks); each row that meets fmt, with fmt's text TOLD by the authors' own Lean function (tested against real Go, not proved from fmt's source: count such statements apart). THE CARD IS WHAT COUNTS. Prove the row's statement (the work); the ties are given (YtlgciddnpinpbaaGreatDoorTie.lean); close each card by the builder's one call (the guide's Derived/Test/ToyasCard.lean, 'card_holds'). Laid BY PROGRAM, IN A SANDBOX (cutbox-door.mjs). By AI agents, Wed Nov 11 2026. No macro, syntax, notation, axiom, sorry.
-/
import Derived.Test.YtlgciddnpinpbaaGreatDoorRows
import GoSem.ClaimSeven
namespace Go.Proofs.YtlgciddnpinpbaaGreatDoor
namespace Rows

/-- THE TIED CARD OF 'scriptorylaw19.TxnApart'. -/
def txnApartCard : Claim7 := { stood := { row := txnApartRow, standIns := [], harness := (true, "1f617a471f9732168f086880d8ea6ecb1dcaae35b53888d9c147f2da1a2957f3"), looks := true }, kinds := [], alts := [], laidByText := true, laidKinds := [.handle], laidTests := true, laidLooks := .later }
def TxnApartCardSaid : Prop := Claim7.holds Tryz.pinned (.plain (OpenSpec.ofChange txnApartSpec)) txnApartCard

/-- THE TIED CARD OF 'scriptorylaw19.TxnAll'. -/
def txnAllCard : Claim7 := { stood := { row := txnAllRow, standIns := [], harness := (true, "1f617a471f9732168f086880d8ea6ecb1dcaae35b53888d9c147f2da1a2957f3"), looks := true }, kinds := [], alts := [], laidByText := true, laidKinds := [.handle], laidTests := true, laidLooks := .later }
def TxnAllCardSaid : Prop := Claim7.holds Tryz.pinned (.plain (OpenSpec.ofChange txnAllSpec)) txnAllCard

/-- THE TIED CARD OF 'scriptorylaw22.ChainReads'. -/
def chainReadsCard : Claim7 := { stood := { row := chainReadsRow, standIns := [], harness := (true, "1f617a471f9732168f086880d8ea6ecb1dcaae35b53888d9c147f2da1a2957f3"), looks := true }, kinds := [], alts := [], laidByText := true, laidKinds := [.handle], laidTests := true, laidLooks := .later }
def ChainReadsCardSaid : Prop := Claim7.holds Tryz.pinned (.plain (OpenSpec.ofChange chainReadsSpec)) chainReadsCard

/-- THE TIED CARD OF 'scriptorylaw22.ChainKeeps'. -/
def chainKeepsCard : Claim7 := { stood := { row := chainKeepsRow, standIns := [], harness := (true, "1f617a471f9732168f086880d8ea6ecb1dcaae35b53888d9c147f2da1a2957f3"), looks := true }, kinds := [], alts := [], laidByText := true, laidKinds := [.handle], laidTests := true, laidLooks := .later }
def ChainKeepsCardSaid : Prop := Claim7.holds Tryz.pinned (.plain (OpenSpec.ofChange chainKeepsSpec)) chainKeepsCard

/-- THE TIED CARD OF 'scriptorylaw21.TreeDeep'. -/
def treeDeepCard : Claim7 := { stood := { row := treeDeepRow, standIns := [], harness := (true, "1f617a471f9732168f086880d8ea6ecb1dcaae35b53888d9c147f2da1a2957f3"), looks := true }, kinds := [], alts := [], laidByText := true, laidKinds := [.handle], laidTests := true, laidLooks := .later }
def TreeDeepCardSaid : Prop := Claim7.holds Tryz.pinned (.plain (OpenSpec.ofChange treeDeepSpec)) treeDeepCard

/-- THE TIED CARD OF 'scriptorylaw21.TreeOrder'. -/
def treeOrderCard : Claim7 := { stood := { row := treeOrderRow, standIns := [], harness := (true, "1f617a471f9732168f086880d8ea6ecb1dcaae35b53888d9c147f2da1a2957f3"), looks := true }, kinds := [], alts := [], laidByText := true, laidKinds := [.handle], laidTests := true, laidLooks := .later }
def TreeOrderCardSaid : Prop := Claim7.holds Tryz.pinned (.plain (OpenSpec.ofChange treeOrderSpec)) treeOrderCard

/-- THE TIED CARD OF 'scriptorylaw21.TreePieces'. -/
def treePiecesCard : Claim7 := { stood := { row := treePiecesRow, standIns := [], harness := (true, "1f617a471f9732168f086880d8ea6ecb1dcaae35b53888d9c147f2da1a2957f3"), looks := true }, kinds := [], alts := [], laidByText := true, laidKinds := [.handle], laidTests := true, laidLooks := .later }
def TreePiecesCardSaid : Prop := Claim7.holds Tryz.pinned (.plain (OpenSpec.ofChange treePiecesSpec)) treePiecesCard

/-- THE TIED CARD OF 'scriptorylaw21.TreeFull'. -/
def treeFullCard : Claim7 := { stood := { row := treeFullRow, standIns := [], harness := (true, "1f617a471f9732168f086880d8ea6ecb1dcaae35b53888d9c147f2da1a2957f3"), looks := true }, kinds := [], alts := [], laidByText := true, laidKinds := [.handle], laidTests := true, laidLooks := .later }
def TreeFullCardSaid : Prop := Claim7.holds Tryz.pinned (.plain (OpenSpec.ofChange treeFullSpec)) treeFullCard

/-- THE TIED CARD OF 'scriptorylaw21.TreeAll'. -/
def treeAllCard : Claim7 := { stood := { row := treeAllRow, standIns := [], harness := (true, "1f617a471f9732168f086880d8ea6ecb1dcaae35b53888d9c147f2da1a2957f3"), looks := true }, kinds := [], alts := [], laidByText := true, laidKinds := [.handle], laidTests := true, laidLooks := .later }
def TreeAllCardSaid : Prop := Claim7.holds Tryz.pinned (.plain (OpenSpec.ofChange treeAllSpec)) treeAllCard

/-- THE TIED CARD OF 'scriptorylaw21.TreeShape'. -/
def treeShapeCard : Claim7 := { stood := { row := treeShapeRow, standIns := [], harness := (true, "1f617a471f9732168f086880d8ea6ecb1dcaae35b53888d9c147f2da1a2957f3"), looks := true }, kinds := [], alts := [], laidByText := true, laidKinds := [.handle], laidTests := true, laidLooks := .later }
def TreeShapeCardSaid : Prop := Claim7.holds Tryz.pinned (.plain (OpenSpec.ofChange treeShapeSpec)) treeShapeCard

/-- THE TIED CARD OF 'scriptorylaw21.TreeLasts'. -/
def treeLastsCard : Claim7 := { stood := { row := treeLastsRow, standIns := [], harness := (true, "1f617a471f9732168f086880d8ea6ecb1dcaae35b53888d9c147f2da1a2957f3"), looks := true }, kinds := [], alts := [], laidByText := true, laidKinds := [.handle], laidTests := true, laidLooks := .later }
def TreeLastsCardSaid : Prop := Claim7.holds Tryz.pinned (.plain (OpenSpec.ofChange treeLastsSpec)) treeLastsCard

/-- THE SECOND FORM's CARD OF 'scriptorylaw19.TxnApart'. -/
def txnApartUptoCard : Claim7 := { stood := { row := txnApartUptoRow, standIns := [], harness := (true, "1f617a471f9732168f086880d8ea6ecb1dcaae35b53888d9c147f2da1a2957f3"), looks := true }, kinds := [], alts := [], laidByText := true, laidKinds := [.handle], laidTests := true, laidLooks := .later }
def TxnApartUptoCardSaid : Prop := Claim7.holds Tryz.pinned (.plain (OpenSpec.upto txnApartSpec)) txnApartUptoCard

/-- THE SECOND FORM's CARD OF 'scriptorylaw19.TxnAll'. -/
def txnAllUptoCard : Claim7 := { stood := { row := txnAllUptoRow, standIns := [], harness := (true, "1f617a471f9732168f086880d8ea6ecb1dcaae35b53888d9c147f2da1a2957f3"), looks := true }, kinds := [], alts := [], laidByText := true, laidKinds := [.handle], laidTests := true, laidLooks := .later }
def TxnAllUptoCardSaid : Prop := Claim7.holds Tryz.pinned (.plain (OpenSpec.upto txnAllSpec)) txnAllUptoCard

/-- THE SECOND FORM's CARD OF 'scriptorylaw22.ChainReads'. -/
def chainReadsUptoCard : Claim7 := { stood := { row := chainReadsUptoRow, standIns := [], harness := (true, "1f617a471f9732168f086880d8ea6ecb1dcaae35b53888d9c147f2da1a2957f3"), looks := true }, kinds := [], alts := [], laidByText := true, laidKinds := [.handle], laidTests := true, laidLooks := .later }
def ChainReadsUptoCardSaid : Prop := Claim7.holds Tryz.pinned (.plain (OpenSpec.upto chainReadsSpec)) chainReadsUptoCard

/-- THE SECOND FORM's CARD OF 'scriptorylaw22.ChainKeeps'. -/
def chainKeepsUptoCard : Claim7 := { stood := { row := chainKeepsUptoRow, standIns := [], harness := (true, "1f617a471f9732168f086880d8ea6ecb1dcaae35b53888d9c147f2da1a2957f3"), looks := true }, kinds := [], alts := [], laidByText := true, laidKinds := [.handle], laidTests := true, laidLooks := .later }
def ChainKeepsUptoCardSaid : Prop := Claim7.holds Tryz.pinned (.plain (OpenSpec.upto chainKeepsSpec)) chainKeepsUptoCard

/-- THE SECOND FORM's CARD OF 'scriptorylaw21.TreeDeep'. -/
def treeDeepUptoCard : Claim7 := { stood := { row := treeDeepUptoRow, standIns := [], harness := (true, "1f617a471f9732168f086880d8ea6ecb1dcaae35b53888d9c147f2da1a2957f3"), looks := true }, kinds := [], alts := [], laidByText := true, laidKinds := [.handle], laidTests := true, laidLooks := .later }
def TreeDeepUptoCardSaid : Prop := Claim7.holds Tryz.pinned (.plain (OpenSpec.upto treeDeepSpec)) treeDeepUptoCard

/-- THE SECOND FORM's CARD OF 'scriptorylaw21.TreeOrder'. -/
def treeOrderUptoCard : Claim7 := { stood := { row := treeOrderUptoRow, standIns := [], harness := (true, "1f617a471f9732168f086880d8ea6ecb1dcaae35b53888d9c147f2da1a2957f3"), looks := true }, kinds := [], alts := [], laidByText := true, laidKinds := [.handle], laidTests := true, laidLooks := .later }
def TreeOrderUptoCardSaid : Prop := Claim7.holds Tryz.pinned (.plain (OpenSpec.upto treeOrderSpec)) treeOrderUptoCard

/-- THE SECOND FORM's CARD OF 'scriptorylaw21.TreePieces'. -/
def treePiecesUptoCard : Claim7 := { stood := { row := treePiecesUptoRow, standIns := [], harness := (true, "1f617a471f9732168f086880d8ea6ecb1dcaae35b53888d9c147f2da1a2957f3"), looks := true }, kinds := [], alts := [], laidByText := true, laidKinds := [.handle], laidTests := true, laidLooks := .later }
def TreePiecesUptoCardSaid : Prop := Claim7.holds Tryz.pinned (.plain (OpenSpec.upto treePiecesSpec)) treePiecesUptoCard

/-- THE SECOND FORM's CARD OF 'scriptorylaw21.TreeFull'. -/
def treeFullUptoCard : Claim7 := { stood := { row := treeFullUptoRow, standIns := [], harness := (true, "1f617a471f9732168f086880d8ea6ecb1dcaae35b53888d9c147f2da1a2957f3"), looks := true }, kinds := [], alts := [], laidByText := true, laidKinds := [.handle], laidTests := true, laidLooks := .later }
def TreeFullUptoCardSaid : Prop := Claim7.holds Tryz.pinned (.plain (OpenSpec.upto treeFullSpec)) treeFullUptoCard

/-- THE SECOND FORM's CARD OF 'scriptorylaw21.TreeAll'. -/
def treeAllUptoCard : Claim7 := { stood := { row := treeAllUptoRow, standIns := [], harness := (true, "1f617a471f9732168f086880d8ea6ecb1dcaae35b53888d9c147f2da1a2957f3"), looks := true }, kinds := [], alts := [], laidByText := true, laidKinds := [.handle], laidTests := true, laidLooks := .later }
def TreeAllUptoCardSaid : Prop := Claim7.holds Tryz.pinned (.plain (OpenSpec.upto treeAllSpec)) treeAllUptoCard

/-- THE SECOND FORM's CARD OF 'scriptorylaw21.TreeShape'. -/
def treeShapeUptoCard : Claim7 := { stood := { row := treeShapeUptoRow, standIns := [], harness := (true, "1f617a471f9732168f086880d8ea6ecb1dcaae35b53888d9c147f2da1a2957f3"), looks := true }, kinds := [], alts := [], laidByText := true, laidKinds := [.handle], laidTests := true, laidLooks := .later }
def TreeShapeUptoCardSaid : Prop := Claim7.holds Tryz.pinned (.plain (OpenSpec.upto treeShapeSpec)) treeShapeUptoCard

/-- THE SECOND FORM's CARD OF 'scriptorylaw21.TreeLasts'. -/
def treeLastsUptoCard : Claim7 := { stood := { row := treeLastsUptoRow, standIns := [], harness := (true, "1f617a471f9732168f086880d8ea6ecb1dcaae35b53888d9c147f2da1a2957f3"), looks := true }, kinds := [], alts := [], laidByText := true, laidKinds := [.handle], laidTests := true, laidLooks := .later }
def TreeLastsUptoCardSaid : Prop := Claim7.holds Tryz.pinned (.plain (OpenSpec.upto treeLastsSpec)) treeLastsUptoCard
end Rows
end Go.Proofs.YtlgciddnpinpbaaGreatDoor
