/-
  NARROWER THAN 'FOR EVERY INPUT', by the rows' own cells (each row's printed sentence says how): LogRing: laid · LogNone: laid · LogSpoilt: laid · LogDone: laid · LogFront: laid · LogAll: laid · LogTwice: laid.
  DERIVED. THE GIVEN ROWS OF THIS SEAT. 7 by the template 'for every input the law returns true; each argument reads behind the call as it read before'; 0 by the template 'total and deterministic' (their statements: YtajlhloapglafaaGreatDoorTotals.lean).
  GIVEN WITH THE SEED: the statements are not yours to turn. If you find one false, say at which input.
  Laid BY PROGRAM, IN A SANDBOX (cutbox-rows.mjs): the forced cells as the released guide's own fill.sh prints them over the translation eca6f6205eb47d81… (all of the seat's roots in one cut). By AI agents, Wed Nov 11 2026. No macro, syntax, notation, axiom, sorry.
-/
import Derived.Test.YtajlhloapglafaaGreatDoorChecked
import GoSem.Claim
import GoSem.ClaimJoined
import GoSem.ClaimMapViews
import Derived.JoinedTies
import Derived.KernelRfl
namespace Go.Proofs.YtajlhloapglafaaGreatDoor
/- THE CELL 'sum', in the pinned program and in every row, IS THE sha256 OF THE DUMP (.gsa) THAT YtajlhloapglafaaGreatDoorProg.lean LOADS. Nothing in Lean hashes anything: it is a label: what it is worth is what the hold of that sum in a sandbox is worth. -/
noncomputable def Tryz.pinned : Pinned := { name := "ytajlhloapglafaagreatdoor", sum := "eca6f6205eb47d8109a23efa1b30d4afe1a7681b8d169997e9f3e6da550ace1e", checked := Tryz.checked }
namespace Rows
def none {H : Type} : Left H := { results := [], args := [] }

/- WHAT THE LISTED PACKAGE-LEVEL VARIABLES READ AS WHEN THE CALL BEGINS. Each datum BY PROGRAM (the guide's laid-datum.mjs) off the statement by which the dump's own 'gosem.cut.vars' lays the variable. In a bare row this is a premise. The card (YtajlhloapglafaaGreatDoorCards.lean) ties it to the program's text. -/
def laid_errors_errorType {H : Type} : DataW H := .iface "internal/reflectlite.rtype" (.agg [.ptr (.lit (.string [101, 114, 114, 111, 114]))])

/-- 'scriptorylaw18.LogRing': WHATEVER THE INPUT: true; the input reads as it did. -/
def logRingSpec : ChangeSpec := { name := "logRing", fn := fun _ => fun
  | [d1, d2, d3] => { results := [.lit (.bool true)], args := [d1, d2, d3] }
  | _ => none }
def logRingRow : OpenClaim := { program := "ytajlhloapglafaagreatdoor", sum := "eca6f6205eb47d8109a23efa1b30d4afe1a7681b8d169997e9f3e6da550ace1e", func := "scriptory/scriptorylaw18.LogRing", spec := "logRing", inPlace := ["internal/reflectlite.ValueOf", "(internal/reflectlite.Value).Type", "(internal/reflectlite.Value).IsNil", "internal/reflectlite.TypeOf", "(internal/reflectlite.Value).Elem", "(internal/reflectlite.Value).Set"], unfollowed := true, recurses := true, named := ["errors.errorType"], apart := false, laid := [("errors.errorType", laid_errors_errorType)] }
def LogRingSaid : Prop := logRingRow.holds Tryz.pinned (OpenSpec.ofChange logRingSpec)

/-- ITS FALSE NEIGHBOUR: 'it returns false'. Refute it at one input. -/
def logRingWrong : ChangeSpec := { name := "logRing", fn := fun _ => fun
  | [d1, d2, d3] => { results := [.lit (.bool false)], args := [d1, d2, d3] }
  | _ => none }
def LogRingWrongFalsely : Prop := logRingRow.holds Tryz.pinned (OpenSpec.ofChange logRingWrong)

/-- 'scriptorylaw18.LogNone': WHATEVER THE INPUT: true; the input reads as it did. -/
def logNoneSpec : ChangeSpec := { name := "logNone", fn := fun _ => fun
  | [] => { results := [.lit (.bool true)], args := [] }
  | _ => none }
def logNoneRow : OpenClaim := { program := "ytajlhloapglafaagreatdoor", sum := "eca6f6205eb47d8109a23efa1b30d4afe1a7681b8d169997e9f3e6da550ace1e", func := "scriptory/scriptorylaw18.LogNone", spec := "logNone", inPlace := ["internal/reflectlite.ValueOf", "(internal/reflectlite.Value).Type", "(internal/reflectlite.Value).IsNil", "internal/reflectlite.TypeOf", "(internal/reflectlite.Value).Elem", "(internal/reflectlite.Value).Set"], unfollowed := true, recurses := true, named := ["errors.errorType"], apart := false, laid := [("errors.errorType", laid_errors_errorType)] }
def LogNoneSaid : Prop := logNoneRow.holds Tryz.pinned (OpenSpec.ofChange logNoneSpec)

/-- ITS FALSE NEIGHBOUR: 'it returns false'. Refute it at one input. -/
def logNoneWrong : ChangeSpec := { name := "logNone", fn := fun _ => fun
  | [] => { results := [.lit (.bool false)], args := [] }
  | _ => none }
def LogNoneWrongFalsely : Prop := logNoneRow.holds Tryz.pinned (OpenSpec.ofChange logNoneWrong)

/-- 'scriptorylaw18.LogSpoilt': WHATEVER THE INPUT: true; the input reads as it did. -/
def logSpoiltSpec : ChangeSpec := { name := "logSpoilt", fn := fun _ => fun
  | [d1, d2, d3] => { results := [.lit (.bool true)], args := [d1, d2, d3] }
  | _ => none }
def logSpoiltRow : OpenClaim := { program := "ytajlhloapglafaagreatdoor", sum := "eca6f6205eb47d8109a23efa1b30d4afe1a7681b8d169997e9f3e6da550ace1e", func := "scriptory/scriptorylaw18.LogSpoilt", spec := "logSpoilt", inPlace := ["internal/reflectlite.ValueOf", "(internal/reflectlite.Value).Type", "(internal/reflectlite.Value).IsNil", "internal/reflectlite.TypeOf", "(internal/reflectlite.Value).Elem", "(internal/reflectlite.Value).Set"], unfollowed := true, recurses := true, named := ["errors.errorType"], apart := false, laid := [("errors.errorType", laid_errors_errorType)] }
def LogSpoiltSaid : Prop := logSpoiltRow.holds Tryz.pinned (OpenSpec.ofChange logSpoiltSpec)

/-- ITS FALSE NEIGHBOUR: 'it returns false'. Refute it at one input. -/
def logSpoiltWrong : ChangeSpec := { name := "logSpoilt", fn := fun _ => fun
  | [d1, d2, d3] => { results := [.lit (.bool false)], args := [d1, d2, d3] }
  | _ => none }
def LogSpoiltWrongFalsely : Prop := logSpoiltRow.holds Tryz.pinned (OpenSpec.ofChange logSpoiltWrong)

/-- 'scriptorylaw18.LogDone': WHATEVER THE INPUT: true; the input reads as it did. -/
def logDoneSpec : ChangeSpec := { name := "logDone", fn := fun _ => fun
  | [d1, d2, d3] => { results := [.lit (.bool true)], args := [d1, d2, d3] }
  | _ => none }
def logDoneRow : OpenClaim := { program := "ytajlhloapglafaagreatdoor", sum := "eca6f6205eb47d8109a23efa1b30d4afe1a7681b8d169997e9f3e6da550ace1e", func := "scriptory/scriptorylaw18.LogDone", spec := "logDone", inPlace := ["internal/reflectlite.ValueOf", "(internal/reflectlite.Value).Type", "(internal/reflectlite.Value).IsNil", "internal/reflectlite.TypeOf", "(internal/reflectlite.Value).Elem", "(internal/reflectlite.Value).Set"], unfollowed := true, recurses := true, named := ["errors.errorType"], apart := false, laid := [("errors.errorType", laid_errors_errorType)] }
def LogDoneSaid : Prop := logDoneRow.holds Tryz.pinned (OpenSpec.ofChange logDoneSpec)

/-- ITS FALSE NEIGHBOUR: 'it returns false'. Refute it at one input. -/
def logDoneWrong : ChangeSpec := { name := "logDone", fn := fun _ => fun
  | [d1, d2, d3] => { results := [.lit (.bool false)], args := [d1, d2, d3] }
  | _ => none }
def LogDoneWrongFalsely : Prop := logDoneRow.holds Tryz.pinned (OpenSpec.ofChange logDoneWrong)

/-- 'scriptorylaw18.LogFront': WHATEVER THE INPUT: true; the input reads as it did. -/
def logFrontSpec : ChangeSpec := { name := "logFront", fn := fun _ => fun
  | [d1, d2, d3, d4, d5] => { results := [.lit (.bool true)], args := [d1, d2, d3, d4, d5] }
  | _ => none }
def logFrontRow : OpenClaim := { program := "ytajlhloapglafaagreatdoor", sum := "eca6f6205eb47d8109a23efa1b30d4afe1a7681b8d169997e9f3e6da550ace1e", func := "scriptory/scriptorylaw18.LogFront", spec := "logFront", inPlace := ["internal/reflectlite.ValueOf", "(internal/reflectlite.Value).Type", "(internal/reflectlite.Value).IsNil", "internal/reflectlite.TypeOf", "(internal/reflectlite.Value).Elem", "(internal/reflectlite.Value).Set"], unfollowed := true, recurses := true, named := ["errors.errorType"], apart := false, laid := [("errors.errorType", laid_errors_errorType)] }
def LogFrontSaid : Prop := logFrontRow.holds Tryz.pinned (OpenSpec.ofChange logFrontSpec)

/-- ITS FALSE NEIGHBOUR: 'it returns false'. Refute it at one input. -/
def logFrontWrong : ChangeSpec := { name := "logFront", fn := fun _ => fun
  | [d1, d2, d3, d4, d5] => { results := [.lit (.bool false)], args := [d1, d2, d3, d4, d5] }
  | _ => none }
def LogFrontWrongFalsely : Prop := logFrontRow.holds Tryz.pinned (OpenSpec.ofChange logFrontWrong)

/-- 'scriptorylaw18.LogAll': WHATEVER THE INPUT: true; the input reads as it did. -/
def logAllSpec : ChangeSpec := { name := "logAll", fn := fun _ => fun
  | [d1, d2, d3] => { results := [.lit (.bool true)], args := [d1, d2, d3] }
  | _ => none }
def logAllRow : OpenClaim := { program := "ytajlhloapglafaagreatdoor", sum := "eca6f6205eb47d8109a23efa1b30d4afe1a7681b8d169997e9f3e6da550ace1e", func := "scriptory/scriptorylaw18.LogAll", spec := "logAll", inPlace := ["internal/reflectlite.ValueOf", "(internal/reflectlite.Value).Type", "(internal/reflectlite.Value).IsNil", "internal/reflectlite.TypeOf", "(internal/reflectlite.Value).Elem", "(internal/reflectlite.Value).Set"], unfollowed := true, recurses := true, named := ["errors.errorType"], apart := false, laid := [("errors.errorType", laid_errors_errorType)] }
def LogAllSaid : Prop := logAllRow.holds Tryz.pinned (OpenSpec.ofChange logAllSpec)

/-- ITS FALSE NEIGHBOUR: 'it returns false'. Refute it at one input. -/
def logAllWrong : ChangeSpec := { name := "logAll", fn := fun _ => fun
  | [d1, d2, d3] => { results := [.lit (.bool false)], args := [d1, d2, d3] }
  | _ => none }
def LogAllWrongFalsely : Prop := logAllRow.holds Tryz.pinned (OpenSpec.ofChange logAllWrong)

/-- 'scriptorylaw18.LogTwice': WHATEVER THE INPUT: true; the input reads as it did. -/
def logTwiceSpec : ChangeSpec := { name := "logTwice", fn := fun _ => fun
  | [d1, d2, d3, d4] => { results := [.lit (.bool true)], args := [d1, d2, d3, d4] }
  | _ => none }
def logTwiceRow : OpenClaim := { program := "ytajlhloapglafaagreatdoor", sum := "eca6f6205eb47d8109a23efa1b30d4afe1a7681b8d169997e9f3e6da550ace1e", func := "scriptory/scriptorylaw18.LogTwice", spec := "logTwice", inPlace := ["internal/reflectlite.ValueOf", "(internal/reflectlite.Value).Type", "(internal/reflectlite.Value).IsNil", "internal/reflectlite.TypeOf", "(internal/reflectlite.Value).Elem", "(internal/reflectlite.Value).Set", "maps.clone"], unfollowed := true, recurses := true, named := ["errors.errorType"], apart := false, laid := [("errors.errorType", laid_errors_errorType)] }
def LogTwiceSaid : Prop := logTwiceRow.holds Tryz.pinned (OpenSpec.ofChange logTwiceSpec)

/-- ITS FALSE NEIGHBOUR: 'it returns false'. Refute it at one input. -/
def logTwiceWrong : ChangeSpec := { name := "logTwice", fn := fun _ => fun
  | [d1, d2, d3, d4] => { results := [.lit (.bool false)], args := [d1, d2, d3, d4] }
  | _ => none }
def LogTwiceWrongFalsely : Prop := logTwiceRow.holds Tryz.pinned (OpenSpec.ofChange logTwiceWrong)

/- THE SECOND FORM. 'bulk': how many values and letters a reading holds, each counted each time it is reached (what is shared counts as often as it is met; a slice's spare places count too). A statement '..UptoSaid' is the law's where the arguments, and the package variables that the reading takes, are together of bulk at most 1048576: NARROWER than '..Said'. Prove '..Said' where nothing that the law and all that it calls make is longer than what came in: it says more and counts as full. Else prove '..UptoSaid'. A law counts once. -/
mutual
def uptoBulk {H : Type} : DataW H → Nat
  | .lit (.string bytes) => bytes.length + 1
  | .lit _ => 1
  | .nil => 1
  | .ptr d => uptoBulk d + 1
  | .slice elems spare => uptoBulkAll elems + uptoBulkAll spare + 1
  | .agg parts => uptoBulkAll parts + 1
  | .iface _ d => uptoBulk d + 1
  | .map entries => uptoBulkEntries entries + 1
  | .held _ => 1
def uptoBulkAll {H : Type} : List (DataW H) → Nat
  | [] => 0
  | d :: r => uptoBulk d + uptoBulkAll r
def uptoBulkEntries {H : Type} : List (Lit × DataW H) → Nat
  | [] => 0
  | x :: r => uptoBulkEntry x + uptoBulkEntries r
def uptoBulkEntry {H : Type} : Lit × DataW H → Nat
  | (.string bytes, d) => bytes.length + uptoBulk d + 1
  | (_, d) => uptoBulk d + 1
 end
def uptoSmall : (H : Type) → List (DataW H) → Bool := fun _ ds => decide (uptoBulkAll ds ≤ 1048576)
def OpenSpec.upto (s : _root_.Go.ChangeSpec) : _root_.Go.OpenSpec := { _root_.Go.OpenSpec.ofChange s with cond := some uptoSmall }

/-- 'scriptorylaw18.LogRing', WHERE WHAT IT READS IS OF BULK AT MOST 1048576: true; the input reads as it did. -/
def logRingUptoRow : OpenClaim := { program := "ytajlhloapglafaagreatdoor", sum := "eca6f6205eb47d8109a23efa1b30d4afe1a7681b8d169997e9f3e6da550ace1e", func := "scriptory/scriptorylaw18.LogRing", spec := "logRing", inPlace := ["internal/reflectlite.ValueOf", "(internal/reflectlite.Value).Type", "(internal/reflectlite.Value).IsNil", "internal/reflectlite.TypeOf", "(internal/reflectlite.Value).Elem", "(internal/reflectlite.Value).Set"], unfollowed := true, recurses := true, named := ["errors.errorType"], apart := false, laid := [("errors.errorType", laid_errors_errorType)], narrowed := true }
def LogRingUptoSaid : Prop := logRingUptoRow.holds Tryz.pinned (OpenSpec.upto logRingSpec)

/-- 'scriptorylaw18.LogNone', WHERE WHAT IT READS IS OF BULK AT MOST 1048576: true; the input reads as it did. -/
def logNoneUptoRow : OpenClaim := { program := "ytajlhloapglafaagreatdoor", sum := "eca6f6205eb47d8109a23efa1b30d4afe1a7681b8d169997e9f3e6da550ace1e", func := "scriptory/scriptorylaw18.LogNone", spec := "logNone", inPlace := ["internal/reflectlite.ValueOf", "(internal/reflectlite.Value).Type", "(internal/reflectlite.Value).IsNil", "internal/reflectlite.TypeOf", "(internal/reflectlite.Value).Elem", "(internal/reflectlite.Value).Set"], unfollowed := true, recurses := true, named := ["errors.errorType"], apart := false, laid := [("errors.errorType", laid_errors_errorType)], narrowed := true }
def LogNoneUptoSaid : Prop := logNoneUptoRow.holds Tryz.pinned (OpenSpec.upto logNoneSpec)

/-- 'scriptorylaw18.LogSpoilt', WHERE WHAT IT READS IS OF BULK AT MOST 1048576: true; the input reads as it did. -/
def logSpoiltUptoRow : OpenClaim := { program := "ytajlhloapglafaagreatdoor", sum := "eca6f6205eb47d8109a23efa1b30d4afe1a7681b8d169997e9f3e6da550ace1e", func := "scriptory/scriptorylaw18.LogSpoilt", spec := "logSpoilt", inPlace := ["internal/reflectlite.ValueOf", "(internal/reflectlite.Value).Type", "(internal/reflectlite.Value).IsNil", "internal/reflectlite.TypeOf", "(internal/reflectlite.Value).Elem", "(internal/reflectlite.Value).Set"], unfollowed := true, recurses := true, named := ["errors.errorType"], apart := false, laid := [("errors.errorType", laid_errors_errorType)], narrowed := true }
def LogSpoiltUptoSaid : Prop := logSpoiltUptoRow.holds Tryz.pinned (OpenSpec.upto logSpoiltSpec)

/-- 'scriptorylaw18.LogDone', WHERE WHAT IT READS IS OF BULK AT MOST 1048576: true; the input reads as it did. -/
def logDoneUptoRow : OpenClaim := { program := "ytajlhloapglafaagreatdoor", sum := "eca6f6205eb47d8109a23efa1b30d4afe1a7681b8d169997e9f3e6da550ace1e", func := "scriptory/scriptorylaw18.LogDone", spec := "logDone", inPlace := ["internal/reflectlite.ValueOf", "(internal/reflectlite.Value).Type", "(internal/reflectlite.Value).IsNil", "internal/reflectlite.TypeOf", "(internal/reflectlite.Value).Elem", "(internal/reflectlite.Value).Set"], unfollowed := true, recurses := true, named := ["errors.errorType"], apart := false, laid := [("errors.errorType", laid_errors_errorType)], narrowed := true }
def LogDoneUptoSaid : Prop := logDoneUptoRow.holds Tryz.pinned (OpenSpec.upto logDoneSpec)

/-- 'scriptorylaw18.LogFront', WHERE WHAT IT READS IS OF BULK AT MOST 1048576: true; the input reads as it did. -/
def logFrontUptoRow : OpenClaim := { program := "ytajlhloapglafaagreatdoor", sum := "eca6f6205eb47d8109a23efa1b30d4afe1a7681b8d169997e9f3e6da550ace1e", func := "scriptory/scriptorylaw18.LogFront", spec := "logFront", inPlace := ["internal/reflectlite.ValueOf", "(internal/reflectlite.Value).Type", "(internal/reflectlite.Value).IsNil", "internal/reflectlite.TypeOf", "(internal/reflectlite.Value).Elem", "(internal/reflectlite.Value).Set"], unfollowed := true, recurses := true, named := ["errors.errorType"], apart := false, laid := [("errors.errorType", laid_errors_errorType)], narrowed := true }
def LogFrontUptoSaid : Prop := logFrontUptoRow.holds Tryz.pinned (OpenSpec.upto logFrontSpec)

/-- 'scriptorylaw18.LogAll', WHERE WHAT IT READS IS OF BULK AT MOST 1048576: true; the input reads as it did. -/
def logAllUptoRow : OpenClaim := { program := "ytajlhloapglafaagreatdoor", sum := "eca6f6205eb47d8109a23efa1b30d4afe1a7681b8d169997e9f3e6da550ace1e", func := "scriptory/scriptorylaw18.LogAll", spec := "logAll", inPlace := ["internal/reflectlite.ValueOf", "(internal/reflectlite.Value).Type", "(internal/reflectlite.Value).IsNil", "internal/reflectlite.TypeOf", "(internal/reflectlite.Value).Elem", "(internal/reflectlite.Value).Set"], unfollowed := true, recurses := true, named := ["errors.errorType"], apart := false, laid := [("errors.errorType", laid_errors_errorType)], narrowed := true }
def LogAllUptoSaid : Prop := logAllUptoRow.holds Tryz.pinned (OpenSpec.upto logAllSpec)

/-- 'scriptorylaw18.LogTwice', WHERE WHAT IT READS IS OF BULK AT MOST 1048576: true; the input reads as it did. -/
def logTwiceUptoRow : OpenClaim := { program := "ytajlhloapglafaagreatdoor", sum := "eca6f6205eb47d8109a23efa1b30d4afe1a7681b8d169997e9f3e6da550ace1e", func := "scriptory/scriptorylaw18.LogTwice", spec := "logTwice", inPlace := ["internal/reflectlite.ValueOf", "(internal/reflectlite.Value).Type", "(internal/reflectlite.Value).IsNil", "internal/reflectlite.TypeOf", "(internal/reflectlite.Value).Elem", "(internal/reflectlite.Value).Set", "maps.clone"], unfollowed := true, recurses := true, named := ["errors.errorType"], apart := false, laid := [("errors.errorType", laid_errors_errorType)], narrowed := true }
def LogTwiceUptoSaid : Prop := logTwiceUptoRow.holds Tryz.pinned (OpenSpec.upto logTwiceSpec)

end Rows
end Go.Proofs.YtajlhloapglafaaGreatDoor
