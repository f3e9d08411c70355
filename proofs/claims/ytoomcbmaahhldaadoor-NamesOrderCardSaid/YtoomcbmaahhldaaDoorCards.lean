/-
  DERIVED. GIVEN WITH THE SEED: THE CARDS: each row of YtoomcbmaahhldaaDoorRows.lean that lists a variable, with what it lists TIED to the program's text (the seventh form; the later family's looks); each row that meets fmt, with fmt's text TOLD by the authors' own Lean function (tested against real Go, not proved from fmt's source: count such statements apart). THE CARD IS WHAT COUNTS. Prove the row's statement (the work); the ties are given (YtoomcbmaahhldaaDoorTie.lean); close each card by the builder's one call (the guide's Derived/Test/ToyasCard.lean, 'card_holds'). Laid BY PROGRAM, IN A SANDBOX (cutbox-door.mjs). By AI agents, Wed Nov 11 2026. No macro, syntax, notation, axiom, sorry.
-/
import Derived.Test.YtoomcbmaahhldaaDoorRows
import GoSem.ClaimSeven
namespace Go.Proofs.YtoomcbmaahhldaaDoor
namespace Rows

/-- THE TIED CARD OF 'scriptorylaw3.NamesAll'. -/
def namesAllCard : Claim7 := { stood := { row := namesAllRow, standIns := [], harness := (true, "32203f3f3715aa455ea2405b0c4d50bd6eab7af9639ffb41f881fd965578d015"), looks := false }, kinds := [], alts := [], laidByText := true, laidKinds := [.data, .pinned], laidTests := true, laidLooks := .later }
def NamesAllCardSaid : Prop := Claim7.holds Tryd.pinned (.plain (OpenSpec.ofChange namesAllSpec)) namesAllCard

/-- THE TIED CARD OF 'scriptorylaw3.NamesKeys'. -/
def namesKeysCard : Claim7 := { stood := { row := namesKeysRow, standIns := [], harness := (true, "32203f3f3715aa455ea2405b0c4d50bd6eab7af9639ffb41f881fd965578d015"), looks := false }, kinds := [], alts := [], laidByText := true, laidKinds := [.data, .pinned], laidTests := true, laidLooks := .later }
def NamesKeysCardSaid : Prop := Claim7.holds Tryd.pinned (.plain (OpenSpec.ofChange namesKeysSpec)) namesKeysCard

/-- THE TIED CARD OF 'scriptorylaw3.NamesOrder'. -/
def namesOrderCard : Claim7 := { stood := { row := namesOrderRow, standIns := [], harness := (true, "32203f3f3715aa455ea2405b0c4d50bd6eab7af9639ffb41f881fd965578d015"), looks := false }, kinds := [], alts := [], laidByText := true, laidKinds := [.data, .pinned], laidTests := true, laidLooks := .later }
def NamesOrderCardSaid : Prop := Claim7.holds Tryd.pinned (.plain (OpenSpec.ofChange namesOrderSpec)) namesOrderCard

/-- THE TIED CARD OF 'scriptorylaw3.NamesLine'. -/
def namesLineCard : Claim7 := { stood := { row := namesLineRow, standIns := [], harness := (true, "32203f3f3715aa455ea2405b0c4d50bd6eab7af9639ffb41f881fd965578d015"), looks := false }, kinds := [], alts := [], laidByText := true, laidKinds := [.data, .pinned], laidTests := true, laidLooks := .later }
def NamesLineCardSaid : Prop := Claim7.holds Tryd.pinned (.plain (OpenSpec.ofChange namesLineSpec)) namesLineCard

/-- THE TIED CARD OF 'scriptorylaw3.NamesSpoilt'. -/
def namesSpoiltCard : Claim7 := { stood := { row := namesSpoiltRow, standIns := [], harness := (true, "32203f3f3715aa455ea2405b0c4d50bd6eab7af9639ffb41f881fd965578d015"), looks := false }, kinds := [], alts := [], laidByText := true, laidKinds := [.data, .pinned], laidTests := true, laidLooks := .later }
def NamesSpoiltCardSaid : Prop := Claim7.holds Tryd.pinned (.plain (OpenSpec.ofChange namesSpoiltSpec)) namesSpoiltCard

/-- THE TIED CARD OF 'scriptorylaw3.NamesSigns'. -/
def namesSignsCard : Claim7 := { stood := { row := namesSignsRow, standIns := [], harness := (true, "32203f3f3715aa455ea2405b0c4d50bd6eab7af9639ffb41f881fd965578d015"), looks := false }, kinds := [], alts := [], laidByText := true, laidKinds := [.data, .pinned], laidTests := true, laidLooks := .later }
def NamesSignsCardSaid : Prop := Claim7.holds Tryd.pinned (.plain (OpenSpec.ofChange namesSignsSpec)) namesSignsCard

/-- THE SECOND FORM's CARD OF 'scriptorylaw3.NamesAll'. -/
def namesAllUptoCard : Claim7 := { stood := { row := namesAllUptoRow, standIns := [], harness := (true, "32203f3f3715aa455ea2405b0c4d50bd6eab7af9639ffb41f881fd965578d015"), looks := false }, kinds := [], alts := [], laidByText := true, laidKinds := [.data, .pinned], laidTests := true, laidLooks := .later }
def NamesAllUptoCardSaid : Prop := Claim7.holds Tryd.pinned (.plain (OpenSpec.upto namesAllSpec)) namesAllUptoCard

/-- THE SECOND FORM's CARD OF 'scriptorylaw3.NamesKeys'. -/
def namesKeysUptoCard : Claim7 := { stood := { row := namesKeysUptoRow, standIns := [], harness := (true, "32203f3f3715aa455ea2405b0c4d50bd6eab7af9639ffb41f881fd965578d015"), looks := false }, kinds := [], alts := [], laidByText := true, laidKinds := [.data, .pinned], laidTests := true, laidLooks := .later }
def NamesKeysUptoCardSaid : Prop := Claim7.holds Tryd.pinned (.plain (OpenSpec.upto namesKeysSpec)) namesKeysUptoCard

/-- THE SECOND FORM's CARD OF 'scriptorylaw3.NamesOrder'. -/
def namesOrderUptoCard : Claim7 := { stood := { row := namesOrderUptoRow, standIns := [], harness := (true, "32203f3f3715aa455ea2405b0c4d50bd6eab7af9639ffb41f881fd965578d015"), looks := false }, kinds := [], alts := [], laidByText := true, laidKinds := [.data, .pinned], laidTests := true, laidLooks := .later }
def NamesOrderUptoCardSaid : Prop := Claim7.holds Tryd.pinned (.plain (OpenSpec.upto namesOrderSpec)) namesOrderUptoCard

/-- THE SECOND FORM's CARD OF 'scriptorylaw3.NamesLine'. -/
def namesLineUptoCard : Claim7 := { stood := { row := namesLineUptoRow, standIns := [], harness := (true, "32203f3f3715aa455ea2405b0c4d50bd6eab7af9639ffb41f881fd965578d015"), looks := false }, kinds := [], alts := [], laidByText := true, laidKinds := [.data, .pinned], laidTests := true, laidLooks := .later }
def NamesLineUptoCardSaid : Prop := Claim7.holds Tryd.pinned (.plain (OpenSpec.upto namesLineSpec)) namesLineUptoCard

/-- THE SECOND FORM's CARD OF 'scriptorylaw3.NamesSpoilt'. -/
def namesSpoiltUptoCard : Claim7 := { stood := { row := namesSpoiltUptoRow, standIns := [], harness := (true, "32203f3f3715aa455ea2405b0c4d50bd6eab7af9639ffb41f881fd965578d015"), looks := false }, kinds := [], alts := [], laidByText := true, laidKinds := [.data, .pinned], laidTests := true, laidLooks := .later }
def NamesSpoiltUptoCardSaid : Prop := Claim7.holds Tryd.pinned (.plain (OpenSpec.upto namesSpoiltSpec)) namesSpoiltUptoCard

/-- THE SECOND FORM's CARD OF 'scriptorylaw3.NamesSigns'. -/
def namesSignsUptoCard : Claim7 := { stood := { row := namesSignsUptoRow, standIns := [], harness := (true, "32203f3f3715aa455ea2405b0c4d50bd6eab7af9639ffb41f881fd965578d015"), looks := false }, kinds := [], alts := [], laidByText := true, laidKinds := [.data, .pinned], laidTests := true, laidLooks := .later }
def NamesSignsUptoCardSaid : Prop := Claim7.holds Tryd.pinned (.plain (OpenSpec.upto namesSignsSpec)) namesSignsUptoCard
end Rows
end Go.Proofs.YtoomcbmaahhldaaDoor
