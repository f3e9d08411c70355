/-
  DERIVED. GIVEN WITH THE SEED: THE CARDS: each row of YtajlhloapglafaaGreatDoorRows.lean that lists a variable, with what it lists TIED to the program's text (the seventh form; the later family's looks); each row that meets fmt, with fmt's text TOLD by the authors' own Lean function (tested against real Go, not proved from fmt's source: count such statements apart). THE CARD IS WHAT COUNTS. Prove the row's statement (the work); the ties are given (YtajlhloapglafaaGreatDoorTie.lean); close each card by the builder's one call (the guide's Derived/Test/ToyasCard.lean, 'card_holds'). Laid BY PROGRAM, IN A SANDBOX (cutbox-door.mjs). By AI agents, Wed Nov 11 2026. No macro, syntax, notation, axiom, sorry.
-/
import Derived.Test.YtajlhloapglafaaGreatDoorRows
import GoSem.ClaimSeven
namespace Go.Proofs.YtajlhloapglafaaGreatDoor
namespace Rows

/-- THE TIED CARD OF 'scriptorylaw18.LogRing'. -/
def logRingCard : Claim7 := { stood := { row := logRingRow, standIns := [], harness := (true, "474dd20a9dd3980636ec8a9a762606bcafacb8689d8e77932f274a119a133d31"), looks := true }, kinds := [], alts := [], laidByText := true, laidKinds := [.handle], laidTests := true, laidLooks := .later }
def LogRingCardSaid : Prop := Claim7.holds Tryz.pinned (.plain (OpenSpec.ofChange logRingSpec)) logRingCard

/-- THE TIED CARD OF 'scriptorylaw18.LogNone'. -/
def logNoneCard : Claim7 := { stood := { row := logNoneRow, standIns := [], harness := (true, "474dd20a9dd3980636ec8a9a762606bcafacb8689d8e77932f274a119a133d31"), looks := true }, kinds := [], alts := [], laidByText := true, laidKinds := [.handle], laidTests := true, laidLooks := .later }
def LogNoneCardSaid : Prop := Claim7.holds Tryz.pinned (.plain (OpenSpec.ofChange logNoneSpec)) logNoneCard

/-- THE TIED CARD OF 'scriptorylaw18.LogSpoilt'. -/
def logSpoiltCard : Claim7 := { stood := { row := logSpoiltRow, standIns := [], harness := (true, "474dd20a9dd3980636ec8a9a762606bcafacb8689d8e77932f274a119a133d31"), looks := true }, kinds := [], alts := [], laidByText := true, laidKinds := [.handle], laidTests := true, laidLooks := .later }
def LogSpoiltCardSaid : Prop := Claim7.holds Tryz.pinned (.plain (OpenSpec.ofChange logSpoiltSpec)) logSpoiltCard

/-- THE TIED CARD OF 'scriptorylaw18.LogDone'. -/
def logDoneCard : Claim7 := { stood := { row := logDoneRow, standIns := [], harness := (true, "474dd20a9dd3980636ec8a9a762606bcafacb8689d8e77932f274a119a133d31"), looks := true }, kinds := [], alts := [], laidByText := true, laidKinds := [.handle], laidTests := true, laidLooks := .later }
def LogDoneCardSaid : Prop := Claim7.holds Tryz.pinned (.plain (OpenSpec.ofChange logDoneSpec)) logDoneCard

/-- THE TIED CARD OF 'scriptorylaw18.LogFront'. -/
def logFrontCard : Claim7 := { stood := { row := logFrontRow, standIns := [], harness := (true, "474dd20a9dd3980636ec8a9a762606bcafacb8689d8e77932f274a119a133d31"), looks := true }, kinds := [], alts := [], laidByText := true, laidKinds := [.handle], laidTests := true, laidLooks := .later }
def LogFrontCardSaid : Prop := Claim7.holds Tryz.pinned (.plain (OpenSpec.ofChange logFrontSpec)) logFrontCard

/-- THE TIED CARD OF 'scriptorylaw18.LogAll'. -/
def logAllCard : Claim7 := { stood := { row := logAllRow, standIns := [], harness := (true, "474dd20a9dd3980636ec8a9a762606bcafacb8689d8e77932f274a119a133d31"), looks := true }, kinds := [], alts := [], laidByText := true, laidKinds := [.handle], laidTests := true, laidLooks := .later }
def LogAllCardSaid : Prop := Claim7.holds Tryz.pinned (.plain (OpenSpec.ofChange logAllSpec)) logAllCard

/-- THE TIED CARD OF 'scriptorylaw18.LogTwice'. -/
def logTwiceCard : Claim7 := { stood := { row := logTwiceRow, standIns := [], harness := (true, "474dd20a9dd3980636ec8a9a762606bcafacb8689d8e77932f274a119a133d31"), looks := true }, kinds := [], alts := [], laidByText := true, laidKinds := [.handle], laidTests := true, laidLooks := .later }
def LogTwiceCardSaid : Prop := Claim7.holds Tryz.pinned (.plain (OpenSpec.ofChange logTwiceSpec)) logTwiceCard

/-- THE SECOND FORM's CARD OF 'scriptorylaw18.LogRing'. -/
def logRingUptoCard : Claim7 := { stood := { row := logRingUptoRow, standIns := [], harness := (true, "474dd20a9dd3980636ec8a9a762606bcafacb8689d8e77932f274a119a133d31"), looks := true }, kinds := [], alts := [], laidByText := true, laidKinds := [.handle], laidTests := true, laidLooks := .later }
def LogRingUptoCardSaid : Prop := Claim7.holds Tryz.pinned (.plain (OpenSpec.upto logRingSpec)) logRingUptoCard

/-- THE SECOND FORM's CARD OF 'scriptorylaw18.LogNone'. -/
def logNoneUptoCard : Claim7 := { stood := { row := logNoneUptoRow, standIns := [], harness := (true, "474dd20a9dd3980636ec8a9a762606bcafacb8689d8e77932f274a119a133d31"), looks := true }, kinds := [], alts := [], laidByText := true, laidKinds := [.handle], laidTests := true, laidLooks := .later }
def LogNoneUptoCardSaid : Prop := Claim7.holds Tryz.pinned (.plain (OpenSpec.upto logNoneSpec)) logNoneUptoCard

/-- THE SECOND FORM's CARD OF 'scriptorylaw18.LogSpoilt'. -/
def logSpoiltUptoCard : Claim7 := { stood := { row := logSpoiltUptoRow, standIns := [], harness := (true, "474dd20a9dd3980636ec8a9a762606bcafacb8689d8e77932f274a119a133d31"), looks := true }, kinds := [], alts := [], laidByText := true, laidKinds := [.handle], laidTests := true, laidLooks := .later }
def LogSpoiltUptoCardSaid : Prop := Claim7.holds Tryz.pinned (.plain (OpenSpec.upto logSpoiltSpec)) logSpoiltUptoCard

/-- THE SECOND FORM's CARD OF 'scriptorylaw18.LogDone'. -/
def logDoneUptoCard : Claim7 := { stood := { row := logDoneUptoRow, standIns := [], harness := (true, "474dd20a9dd3980636ec8a9a762606bcafacb8689d8e77932f274a119a133d31"), looks := true }, kinds := [], alts := [], laidByText := true, laidKinds := [.handle], laidTests := true, laidLooks := .later }
def LogDoneUptoCardSaid : Prop := Claim7.holds Tryz.pinned (.plain (OpenSpec.upto logDoneSpec)) logDoneUptoCard

/-- THE SECOND FORM's CARD OF 'scriptorylaw18.LogFront'. -/
def logFrontUptoCard : Claim7 := { stood := { row := logFrontUptoRow, standIns := [], harness := (true, "474dd20a9dd3980636ec8a9a762606bcafacb8689d8e77932f274a119a133d31"), looks := true }, kinds := [], alts := [], laidByText := true, laidKinds := [.handle], laidTests := true, laidLooks := .later }
def LogFrontUptoCardSaid : Prop := Claim7.holds Tryz.pinned (.plain (OpenSpec.upto logFrontSpec)) logFrontUptoCard

/-- THE SECOND FORM's CARD OF 'scriptorylaw18.LogAll'. -/
def logAllUptoCard : Claim7 := { stood := { row := logAllUptoRow, standIns := [], harness := (true, "474dd20a9dd3980636ec8a9a762606bcafacb8689d8e77932f274a119a133d31"), looks := true }, kinds := [], alts := [], laidByText := true, laidKinds := [.handle], laidTests := true, laidLooks := .later }
def LogAllUptoCardSaid : Prop := Claim7.holds Tryz.pinned (.plain (OpenSpec.upto logAllSpec)) logAllUptoCard

/-- THE SECOND FORM's CARD OF 'scriptorylaw18.LogTwice'. -/
def logTwiceUptoCard : Claim7 := { stood := { row := logTwiceUptoRow, standIns := [], harness := (true, "474dd20a9dd3980636ec8a9a762606bcafacb8689d8e77932f274a119a133d31"), looks := true }, kinds := [], alts := [], laidByText := true, laidKinds := [.handle], laidTests := true, laidLooks := .later }
def LogTwiceUptoCardSaid : Prop := Claim7.holds Tryz.pinned (.plain (OpenSpec.upto logTwiceSpec)) logTwiceUptoCard
end Rows
end Go.Proofs.YtajlhloapglafaaGreatDoor
