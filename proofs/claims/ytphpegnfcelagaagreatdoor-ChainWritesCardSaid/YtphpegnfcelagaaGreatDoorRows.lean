/-
  NARROWER THAN 'FOR EVERY INPUT', by the rows' own cells (each row's printed sentence says how): SpaceRoots: laid · SpaceGives: laid · TxnLong: laid · TxnApart: laid · TxnAll: laid · TxnNone: laid · ChainLong: laid · ChainReads: laid · ChainWrites: laid · ChainFull: laid · ChainDrops: laid · ChainKeeps: laid · SpaceAll: laid.
  DERIVED. THE GIVEN ROWS OF THIS SEAT. 13 by the template 'for every input the law returns true; each argument reads behind the call as it read before'; 0 by the template 'total and deterministic' (their statements: YtphpegnfcelagaaGreatDoorTotals.lean).
  GIVEN WITH THE SEED: the statements are not yours to turn. If you find one false, say at which input.
  Laid BY PROGRAM, IN A SANDBOX (cutbox-rows.mjs): the forced cells as the released guide's own fill.sh prints them over the translation 54e71262ca73bdcd… (all of the seat's roots in one cut). By AI agents, Wed Nov 11 2026. No macro, syntax, notation, axiom, sorry.
-/
import Derived.Test.YtphpegnfcelagaaGreatDoorChecked
import GoSem.Claim
import GoSem.ClaimJoined
import GoSem.ClaimMapViews
import Derived.JoinedTies
import Derived.KernelRfl
namespace Go.Proofs.YtphpegnfcelagaaGreatDoor
/- THE CELL 'sum', in the pinned program and in every row, IS THE sha256 OF THE DUMP (.gsa) THAT YtphpegnfcelagaaGreatDoorProg.lean LOADS. Nothing in Lean hashes anything: it is a label: what it is worth is what the hold of that sum in a sandbox is worth. -/
noncomputable def Tryz.pinned : Pinned := { name := "ytphpegnfcelagaagreatdoor", sum := "54e71262ca73bdcd1b144855fddc5b7c475c3900234abc2a842e1ae52c5fba52", checked := Tryz.checked }
namespace Rows
def none {H : Type} : Left H := { results := [], args := [] }

/- WHAT THE LISTED PACKAGE-LEVEL VARIABLES READ AS WHEN THE CALL BEGINS. Each datum BY PROGRAM (the guide's laid-datum.mjs) off the statement by which the dump's own 'gosem.cut.vars' lays the variable. In a bare row this is a premise. The card (YtphpegnfcelagaaGreatDoorCards.lean) ties it to the program's text. -/
def laid_errors_errorType {H : Type} : DataW H := .iface "internal/reflectlite.rtype" (.agg [.ptr (.lit (.string [101, 114, 114, 111, 114]))])

/-- 'scriptorylaw20.SpaceRoots': WHATEVER THE INPUT: true; the input reads as it did. -/
def spaceRootsSpec : ChangeSpec := { name := "spaceRoots", fn := fun _ => fun
  | [d1, d2] => { results := [.lit (.bool true)], args := [d1, d2] }
  | _ => none }
def spaceRootsRow : OpenClaim := { program := "ytphpegnfcelagaagreatdoor", sum := "54e71262ca73bdcd1b144855fddc5b7c475c3900234abc2a842e1ae52c5fba52", func := "scriptory/scriptorylaw20.SpaceRoots", spec := "spaceRoots", inPlace := ["internal/reflectlite.ValueOf", "(internal/reflectlite.Value).Type", "(internal/reflectlite.Value).IsNil", "internal/reflectlite.TypeOf", "(internal/reflectlite.Value).Elem", "(internal/reflectlite.Value).Set"], unfollowed := true, recurses := true, named := ["errors.errorType"], apart := false, laid := [("errors.errorType", laid_errors_errorType)] }
def SpaceRootsSaid : Prop := spaceRootsRow.holds Tryz.pinned (OpenSpec.ofChange spaceRootsSpec)

/-- ITS FALSE NEIGHBOUR: 'it returns false'. Refute it at one input. -/
def spaceRootsWrong : ChangeSpec := { name := "spaceRoots", fn := fun _ => fun
  | [d1, d2] => { results := [.lit (.bool false)], args := [d1, d2] }
  | _ => none }
def SpaceRootsWrongFalsely : Prop := spaceRootsRow.holds Tryz.pinned (OpenSpec.ofChange spaceRootsWrong)

/-- 'scriptorylaw20.SpaceGives': WHATEVER THE INPUT: true; the input reads as it did. -/
def spaceGivesSpec : ChangeSpec := { name := "spaceGives", fn := fun _ => fun
  | [d1, d2] => { results := [.lit (.bool true)], args := [d1, d2] }
  | _ => none }
def spaceGivesRow : OpenClaim := { program := "ytphpegnfcelagaagreatdoor", sum := "54e71262ca73bdcd1b144855fddc5b7c475c3900234abc2a842e1ae52c5fba52", func := "scriptory/scriptorylaw20.SpaceGives", spec := "spaceGives", inPlace := ["internal/reflectlite.ValueOf", "(internal/reflectlite.Value).Type", "(internal/reflectlite.Value).IsNil", "internal/reflectlite.TypeOf", "(internal/reflectlite.Value).Elem", "(internal/reflectlite.Value).Set"], unfollowed := true, recurses := true, named := ["errors.errorType"], apart := false, laid := [("errors.errorType", laid_errors_errorType)] }
def SpaceGivesSaid : Prop := spaceGivesRow.holds Tryz.pinned (OpenSpec.ofChange spaceGivesSpec)

/-- ITS FALSE NEIGHBOUR: 'it returns false'. Refute it at one input. -/
def spaceGivesWrong : ChangeSpec := { name := "spaceGives", fn := fun _ => fun
  | [d1, d2] => { results := [.lit (.bool false)], args := [d1, d2] }
  | _ => none }
def SpaceGivesWrongFalsely : Prop := spaceGivesRow.holds Tryz.pinned (OpenSpec.ofChange spaceGivesWrong)

/-- 'scriptorylaw19.TxnLong': WHATEVER THE INPUT: true; the input reads as it did. -/
def txnLongSpec : ChangeSpec := { name := "txnLong", fn := fun _ => fun
  | [d1, d2] => { results := [.lit (.bool true)], args := [d1, d2] }
  | _ => none }
def txnLongRow : OpenClaim := { program := "ytphpegnfcelagaagreatdoor", sum := "54e71262ca73bdcd1b144855fddc5b7c475c3900234abc2a842e1ae52c5fba52", func := "scriptory/scriptorylaw19.TxnLong", spec := "txnLong", inPlace := ["internal/reflectlite.ValueOf", "(internal/reflectlite.Value).Type", "(internal/reflectlite.Value).IsNil", "internal/reflectlite.TypeOf", "(internal/reflectlite.Value).Elem", "(internal/reflectlite.Value).Set"], unfollowed := true, recurses := true, named := ["errors.errorType"], apart := false, laid := [("errors.errorType", laid_errors_errorType)] }
def TxnLongSaid : Prop := txnLongRow.holds Tryz.pinned (OpenSpec.ofChange txnLongSpec)

/-- ITS FALSE NEIGHBOUR: 'it returns false'. Refute it at one input. -/
def txnLongWrong : ChangeSpec := { name := "txnLong", fn := fun _ => fun
  | [d1, d2] => { results := [.lit (.bool false)], args := [d1, d2] }
  | _ => none }
def TxnLongWrongFalsely : Prop := txnLongRow.holds Tryz.pinned (OpenSpec.ofChange txnLongWrong)

/-- 'scriptorylaw19.TxnApart': WHATEVER THE INPUT: true; the input reads as it did. -/
def txnApartSpec : ChangeSpec := { name := "txnApart", fn := fun _ => fun
  | [d1, d2, d3] => { results := [.lit (.bool true)], args := [d1, d2, d3] }
  | _ => none }
def txnApartRow : OpenClaim := { program := "ytphpegnfcelagaagreatdoor", sum := "54e71262ca73bdcd1b144855fddc5b7c475c3900234abc2a842e1ae52c5fba52", func := "scriptory/scriptorylaw19.TxnApart", spec := "txnApart", inPlace := ["internal/reflectlite.ValueOf", "(internal/reflectlite.Value).Type", "(internal/reflectlite.Value).IsNil", "internal/reflectlite.TypeOf", "(internal/reflectlite.Value).Elem", "(internal/reflectlite.Value).Set"], unfollowed := true, recurses := true, named := ["errors.errorType"], apart := false, laid := [("errors.errorType", laid_errors_errorType)] }
def TxnApartSaid : Prop := txnApartRow.holds Tryz.pinned (OpenSpec.ofChange txnApartSpec)

/-- ITS FALSE NEIGHBOUR: 'it returns false'. Refute it at one input. -/
def txnApartWrong : ChangeSpec := { name := "txnApart", fn := fun _ => fun
  | [d1, d2, d3] => { results := [.lit (.bool false)], args := [d1, d2, d3] }
  | _ => none }
def TxnApartWrongFalsely : Prop := txnApartRow.holds Tryz.pinned (OpenSpec.ofChange txnApartWrong)

/-- 'scriptorylaw19.TxnAll': WHATEVER THE INPUT: true; the input reads as it did. -/
def txnAllSpec : ChangeSpec := { name := "txnAll", fn := fun _ => fun
  | [d] => { results := [.lit (.bool true)], args := [d] }
  | _ => none }
def txnAllRow : OpenClaim := { program := "ytphpegnfcelagaagreatdoor", sum := "54e71262ca73bdcd1b144855fddc5b7c475c3900234abc2a842e1ae52c5fba52", func := "scriptory/scriptorylaw19.TxnAll", spec := "txnAll", inPlace := ["internal/reflectlite.ValueOf", "(internal/reflectlite.Value).Type", "(internal/reflectlite.Value).IsNil", "internal/reflectlite.TypeOf", "(internal/reflectlite.Value).Elem", "(internal/reflectlite.Value).Set"], unfollowed := true, recurses := true, named := ["errors.errorType"], apart := false, laid := [("errors.errorType", laid_errors_errorType)] }
def TxnAllSaid : Prop := txnAllRow.holds Tryz.pinned (OpenSpec.ofChange txnAllSpec)

/-- ITS FALSE NEIGHBOUR: 'it returns false'. Refute it at one input. -/
def txnAllWrong : ChangeSpec := { name := "txnAll", fn := fun _ => fun
  | [d] => { results := [.lit (.bool false)], args := [d] }
  | _ => none }
def TxnAllWrongFalsely : Prop := txnAllRow.holds Tryz.pinned (OpenSpec.ofChange txnAllWrong)

/-- 'scriptorylaw19.TxnNone': WHATEVER THE INPUT: true; the input reads as it did. -/
def txnNoneSpec : ChangeSpec := { name := "txnNone", fn := fun _ => fun
  | [] => { results := [.lit (.bool true)], args := [] }
  | _ => none }
def txnNoneRow : OpenClaim := { program := "ytphpegnfcelagaagreatdoor", sum := "54e71262ca73bdcd1b144855fddc5b7c475c3900234abc2a842e1ae52c5fba52", func := "scriptory/scriptorylaw19.TxnNone", spec := "txnNone", inPlace := ["internal/reflectlite.ValueOf", "(internal/reflectlite.Value).Type", "(internal/reflectlite.Value).IsNil", "internal/reflectlite.TypeOf", "(internal/reflectlite.Value).Elem", "(internal/reflectlite.Value).Set"], unfollowed := true, recurses := true, named := ["errors.errorType"], apart := false, laid := [("errors.errorType", laid_errors_errorType)] }
def TxnNoneSaid : Prop := txnNoneRow.holds Tryz.pinned (OpenSpec.ofChange txnNoneSpec)

/-- ITS FALSE NEIGHBOUR: 'it returns false'. Refute it at one input. -/
def txnNoneWrong : ChangeSpec := { name := "txnNone", fn := fun _ => fun
  | [] => { results := [.lit (.bool false)], args := [] }
  | _ => none }
def TxnNoneWrongFalsely : Prop := txnNoneRow.holds Tryz.pinned (OpenSpec.ofChange txnNoneWrong)

/-- 'scriptorylaw22.ChainLong': WHATEVER THE INPUT: true; the input reads as it did. -/
def chainLongSpec : ChangeSpec := { name := "chainLong", fn := fun _ => fun
  | [d] => { results := [.lit (.bool true)], args := [d] }
  | _ => none }
def chainLongRow : OpenClaim := { program := "ytphpegnfcelagaagreatdoor", sum := "54e71262ca73bdcd1b144855fddc5b7c475c3900234abc2a842e1ae52c5fba52", func := "scriptory/scriptorylaw22.ChainLong", spec := "chainLong", inPlace := ["internal/reflectlite.ValueOf", "(internal/reflectlite.Value).Type", "(internal/reflectlite.Value).IsNil", "internal/reflectlite.TypeOf", "(internal/reflectlite.Value).Elem", "(internal/reflectlite.Value).Set"], unfollowed := true, recurses := true, named := ["errors.errorType"], apart := false, laid := [("errors.errorType", laid_errors_errorType)] }
def ChainLongSaid : Prop := chainLongRow.holds Tryz.pinned (OpenSpec.ofChange chainLongSpec)

/-- ITS FALSE NEIGHBOUR: 'it returns false'. Refute it at one input. -/
def chainLongWrong : ChangeSpec := { name := "chainLong", fn := fun _ => fun
  | [d] => { results := [.lit (.bool false)], args := [d] }
  | _ => none }
def ChainLongWrongFalsely : Prop := chainLongRow.holds Tryz.pinned (OpenSpec.ofChange chainLongWrong)

/-- 'scriptorylaw22.ChainReads': WHATEVER THE INPUT: true; the input reads as it did. -/
def chainReadsSpec : ChangeSpec := { name := "chainReads", fn := fun _ => fun
  | [d1, d2, d3] => { results := [.lit (.bool true)], args := [d1, d2, d3] }
  | _ => none }
def chainReadsRow : OpenClaim := { program := "ytphpegnfcelagaagreatdoor", sum := "54e71262ca73bdcd1b144855fddc5b7c475c3900234abc2a842e1ae52c5fba52", func := "scriptory/scriptorylaw22.ChainReads", spec := "chainReads", inPlace := ["internal/reflectlite.ValueOf", "(internal/reflectlite.Value).Type", "(internal/reflectlite.Value).IsNil", "internal/reflectlite.TypeOf", "(internal/reflectlite.Value).Elem", "(internal/reflectlite.Value).Set"], unfollowed := true, recurses := true, named := ["errors.errorType"], apart := false, laid := [("errors.errorType", laid_errors_errorType)] }
def ChainReadsSaid : Prop := chainReadsRow.holds Tryz.pinned (OpenSpec.ofChange chainReadsSpec)

/-- ITS FALSE NEIGHBOUR: 'it returns false'. Refute it at one input. -/
def chainReadsWrong : ChangeSpec := { name := "chainReads", fn := fun _ => fun
  | [d1, d2, d3] => { results := [.lit (.bool false)], args := [d1, d2, d3] }
  | _ => none }
def ChainReadsWrongFalsely : Prop := chainReadsRow.holds Tryz.pinned (OpenSpec.ofChange chainReadsWrong)

/-- 'scriptorylaw22.ChainWrites': WHATEVER THE INPUT: true; the input reads as it did. -/
def chainWritesSpec : ChangeSpec := { name := "chainWrites", fn := fun _ => fun
  | [d1, d2] => { results := [.lit (.bool true)], args := [d1, d2] }
  | _ => none }
def chainWritesRow : OpenClaim := { program := "ytphpegnfcelagaagreatdoor", sum := "54e71262ca73bdcd1b144855fddc5b7c475c3900234abc2a842e1ae52c5fba52", func := "scriptory/scriptorylaw22.ChainWrites", spec := "chainWrites", inPlace := ["internal/reflectlite.ValueOf", "(internal/reflectlite.Value).Type", "(internal/reflectlite.Value).IsNil", "internal/reflectlite.TypeOf", "(internal/reflectlite.Value).Elem", "(internal/reflectlite.Value).Set"], unfollowed := true, recurses := true, named := ["errors.errorType"], apart := false, laid := [("errors.errorType", laid_errors_errorType)] }
def ChainWritesSaid : Prop := chainWritesRow.holds Tryz.pinned (OpenSpec.ofChange chainWritesSpec)

/-- ITS FALSE NEIGHBOUR: 'it returns false'. Refute it at one input. -/
def chainWritesWrong : ChangeSpec := { name := "chainWrites", fn := fun _ => fun
  | [d1, d2] => { results := [.lit (.bool false)], args := [d1, d2] }
  | _ => none }
def ChainWritesWrongFalsely : Prop := chainWritesRow.holds Tryz.pinned (OpenSpec.ofChange chainWritesWrong)

/-- 'scriptorylaw22.ChainFull': WHATEVER THE INPUT: true; the input reads as it did. -/
def chainFullSpec : ChangeSpec := { name := "chainFull", fn := fun _ => fun
  | [d1, d2] => { results := [.lit (.bool true)], args := [d1, d2] }
  | _ => none }
def chainFullRow : OpenClaim := { program := "ytphpegnfcelagaagreatdoor", sum := "54e71262ca73bdcd1b144855fddc5b7c475c3900234abc2a842e1ae52c5fba52", func := "scriptory/scriptorylaw22.ChainFull", spec := "chainFull", inPlace := ["internal/reflectlite.ValueOf", "(internal/reflectlite.Value).Type", "(internal/reflectlite.Value).IsNil", "internal/reflectlite.TypeOf", "(internal/reflectlite.Value).Elem", "(internal/reflectlite.Value).Set"], unfollowed := true, recurses := true, named := ["errors.errorType"], apart := false, laid := [("errors.errorType", laid_errors_errorType)] }
def ChainFullSaid : Prop := chainFullRow.holds Tryz.pinned (OpenSpec.ofChange chainFullSpec)

/-- ITS FALSE NEIGHBOUR: 'it returns false'. Refute it at one input. -/
def chainFullWrong : ChangeSpec := { name := "chainFull", fn := fun _ => fun
  | [d1, d2] => { results := [.lit (.bool false)], args := [d1, d2] }
  | _ => none }
def ChainFullWrongFalsely : Prop := chainFullRow.holds Tryz.pinned (OpenSpec.ofChange chainFullWrong)

/-- 'scriptorylaw22.ChainDrops': WHATEVER THE INPUT: true; the input reads as it did. -/
def chainDropsSpec : ChangeSpec := { name := "chainDrops", fn := fun _ => fun
  | [d1, d2] => { results := [.lit (.bool true)], args := [d1, d2] }
  | _ => none }
def chainDropsRow : OpenClaim := { program := "ytphpegnfcelagaagreatdoor", sum := "54e71262ca73bdcd1b144855fddc5b7c475c3900234abc2a842e1ae52c5fba52", func := "scriptory/scriptorylaw22.ChainDrops", spec := "chainDrops", inPlace := ["internal/reflectlite.ValueOf", "(internal/reflectlite.Value).Type", "(internal/reflectlite.Value).IsNil", "internal/reflectlite.TypeOf", "(internal/reflectlite.Value).Elem", "(internal/reflectlite.Value).Set"], unfollowed := true, recurses := true, named := ["errors.errorType"], apart := false, laid := [("errors.errorType", laid_errors_errorType)] }
def ChainDropsSaid : Prop := chainDropsRow.holds Tryz.pinned (OpenSpec.ofChange chainDropsSpec)

/-- ITS FALSE NEIGHBOUR: 'it returns false'. Refute it at one input. -/
def chainDropsWrong : ChangeSpec := { name := "chainDrops", fn := fun _ => fun
  | [d1, d2] => { results := [.lit (.bool false)], args := [d1, d2] }
  | _ => none }
def ChainDropsWrongFalsely : Prop := chainDropsRow.holds Tryz.pinned (OpenSpec.ofChange chainDropsWrong)

/-- 'scriptorylaw22.ChainKeeps': WHATEVER THE INPUT: true; the input reads as it did. -/
def chainKeepsSpec : ChangeSpec := { name := "chainKeeps", fn := fun _ => fun
  | [d1, d2, d3] => { results := [.lit (.bool true)], args := [d1, d2, d3] }
  | _ => none }
def chainKeepsRow : OpenClaim := { program := "ytphpegnfcelagaagreatdoor", sum := "54e71262ca73bdcd1b144855fddc5b7c475c3900234abc2a842e1ae52c5fba52", func := "scriptory/scriptorylaw22.ChainKeeps", spec := "chainKeeps", inPlace := ["internal/reflectlite.ValueOf", "(internal/reflectlite.Value).Type", "(internal/reflectlite.Value).IsNil", "internal/reflectlite.TypeOf", "(internal/reflectlite.Value).Elem", "(internal/reflectlite.Value).Set"], unfollowed := true, recurses := true, named := ["errors.errorType"], apart := false, laid := [("errors.errorType", laid_errors_errorType)] }
def ChainKeepsSaid : Prop := chainKeepsRow.holds Tryz.pinned (OpenSpec.ofChange chainKeepsSpec)

/-- ITS FALSE NEIGHBOUR: 'it returns false'. Refute it at one input. -/
def chainKeepsWrong : ChangeSpec := { name := "chainKeeps", fn := fun _ => fun
  | [d1, d2, d3] => { results := [.lit (.bool false)], args := [d1, d2, d3] }
  | _ => none }
def ChainKeepsWrongFalsely : Prop := chainKeepsRow.holds Tryz.pinned (OpenSpec.ofChange chainKeepsWrong)

/-- 'scriptorylaw20.SpaceAll': WHATEVER THE INPUT: true; the input reads as it did. -/
def spaceAllSpec : ChangeSpec := { name := "spaceAll", fn := fun _ => fun
  | [d1, d2] => { results := [.lit (.bool true)], args := [d1, d2] }
  | _ => none }
def spaceAllRow : OpenClaim := { program := "ytphpegnfcelagaagreatdoor", sum := "54e71262ca73bdcd1b144855fddc5b7c475c3900234abc2a842e1ae52c5fba52", func := "scriptory/scriptorylaw20.SpaceAll", spec := "spaceAll", inPlace := ["internal/reflectlite.ValueOf", "(internal/reflectlite.Value).Type", "(internal/reflectlite.Value).IsNil", "internal/reflectlite.TypeOf", "(internal/reflectlite.Value).Elem", "(internal/reflectlite.Value).Set"], unfollowed := true, recurses := true, named := ["errors.errorType"], apart := false, laid := [("errors.errorType", laid_errors_errorType)] }
def SpaceAllSaid : Prop := spaceAllRow.holds Tryz.pinned (OpenSpec.ofChange spaceAllSpec)

/-- ITS FALSE NEIGHBOUR: 'it returns false'. Refute it at one input. -/
def spaceAllWrong : ChangeSpec := { name := "spaceAll", fn := fun _ => fun
  | [d1, d2] => { results := [.lit (.bool false)], args := [d1, d2] }
  | _ => none }
def SpaceAllWrongFalsely : Prop := spaceAllRow.holds Tryz.pinned (OpenSpec.ofChange spaceAllWrong)

/- THE SECOND FORM. 'bulk': how many values and letters a reading holds, each counted each time it is reached (what is shared counts as often as it is met; a slice's spare places count too). A statement '..UptoSaid' is the law's where the arguments, and the package variables that the reading takes, are together of bulk at most 1048576: NARROWER than '..Said'. Prove '..Said' where nothing that the law and all that it calls make is longer than what came in: it says more and counts as full. Else prove '..UptoSaid'. A law counts once. -/
mutual
def uptoBulk {H : Type} : DataW H → Nat
  | .lit (.string bytes) => bytes.length + 1
  | .lit _ => 1
  | .nil => 1
  | .ptr d => uptoBulk d + 1
  | .slice elems spare => uptoBulkAll elems + uptoBulkAll spare + 1
  | .agg parts => uptoBulkAll parts + 1
  | .iface _ d => uptoBulk d + 1
  | .map entries => uptoBulkEntries entries + 1
  | .held _ => 1
def uptoBulkAll {H : Type} : List (DataW H) → Nat
  | [] => 0
  | d :: r => uptoBulk d + uptoBulkAll r
def uptoBulkEntries {H : Type} : List (Lit × DataW H) → Nat
  | [] => 0
  | x :: r => uptoBulkEntry x + uptoBulkEntries r
def uptoBulkEntry {H : Type} : Lit × DataW H → Nat
  | (.string bytes, d) => bytes.length + uptoBulk d + 1
  | (_, d) => uptoBulk d + 1
 end
def uptoSmall : (H : Type) → List (DataW H) → Bool := fun _ ds => decide (uptoBulkAll ds ≤ 1048576)
def OpenSpec.upto (s : _root_.Go.ChangeSpec) : _root_.Go.OpenSpec := { _root_.Go.OpenSpec.ofChange s with cond := some uptoSmall }

/-- 'scriptorylaw20.SpaceRoots', WHERE WHAT IT READS IS OF BULK AT MOST 1048576: true; the input reads as it did. -/
def spaceRootsUptoRow : OpenClaim := { program := "ytphpegnfcelagaagreatdoor", sum := "54e71262ca73bdcd1b144855fddc5b7c475c3900234abc2a842e1ae52c5fba52", func := "scriptory/scriptorylaw20.SpaceRoots", spec := "spaceRoots", inPlace := ["internal/reflectlite.ValueOf", "(internal/reflectlite.Value).Type", "(internal/reflectlite.Value).IsNil", "internal/reflectlite.TypeOf", "(internal/reflectlite.Value).Elem", "(internal/reflectlite.Value).Set"], unfollowed := true, recurses := true, named := ["errors.errorType"], apart := false, laid := [("errors.errorType", laid_errors_errorType)], narrowed := true }
def SpaceRootsUptoSaid : Prop := spaceRootsUptoRow.holds Tryz.pinned (OpenSpec.upto spaceRootsSpec)

/-- 'scriptorylaw20.SpaceGives', WHERE WHAT IT READS IS OF BULK AT MOST 1048576: true; the input reads as it did. -/
def spaceGivesUptoRow : OpenClaim := { program := "ytphpegnfcelagaagreatdoor", sum := "54e71262ca73bdcd1b144855fddc5b7c475c3900234abc2a842e1ae52c5fba52", func := "scriptory/scriptorylaw20.SpaceGives", spec := "spaceGives", inPlace := ["internal/reflectlite.ValueOf", "(internal/reflectlite.Value).Type", "(internal/reflectlite.Value).IsNil", "internal/reflectlite.TypeOf", "(internal/reflectlite.Value).Elem", "(internal/reflectlite.Value).Set"], unfollowed := true, recurses := true, named := ["errors.errorType"], apart := false, laid := [("errors.errorType", laid_errors_errorType)], narrowed := true }
def SpaceGivesUptoSaid : Prop := spaceGivesUptoRow.holds Tryz.pinned (OpenSpec.upto spaceGivesSpec)

/-- 'scriptorylaw19.TxnLong', WHERE WHAT IT READS IS OF BULK AT MOST 1048576: true; the input reads as it did. -/
def txnLongUptoRow : OpenClaim := { program := "ytphpegnfcelagaagreatdoor", sum := "54e71262ca73bdcd1b144855fddc5b7c475c3900234abc2a842e1ae52c5fba52", func := "scriptory/scriptorylaw19.TxnLong", spec := "txnLong", inPlace := ["internal/reflectlite.ValueOf", "(internal/reflectlite.Value).Type", "(internal/reflectlite.Value).IsNil", "internal/reflectlite.TypeOf", "(internal/reflectlite.Value).Elem", "(internal/reflectlite.Value).Set"], unfollowed := true, recurses := true, named := ["errors.errorType"], apart := false, laid := [("errors.errorType", laid_errors_errorType)], narrowed := true }
def TxnLongUptoSaid : Prop := txnLongUptoRow.holds Tryz.pinned (OpenSpec.upto txnLongSpec)

/-- 'scriptorylaw19.TxnApart', WHERE WHAT IT READS IS OF BULK AT MOST 1048576: true; the input reads as it did. -/
def txnApartUptoRow : OpenClaim := { program := "ytphpegnfcelagaagreatdoor", sum := "54e71262ca73bdcd1b144855fddc5b7c475c3900234abc2a842e1ae52c5fba52", func := "scriptory/scriptorylaw19.TxnApart", spec := "txnApart", inPlace := ["internal/reflectlite.ValueOf", "(internal/reflectlite.Value).Type", "(internal/reflectlite.Value).IsNil", "internal/reflectlite.TypeOf", "(internal/reflectlite.Value).Elem", "(internal/reflectlite.Value).Set"], unfollowed := true, recurses := true, named := ["errors.errorType"], apart := false, laid := [("errors.errorType", laid_errors_errorType)], narrowed := true }
def TxnApartUptoSaid : Prop := txnApartUptoRow.holds Tryz.pinned (OpenSpec.upto txnApartSpec)

/-- 'scriptorylaw19.TxnAll', WHERE WHAT IT READS IS OF BULK AT MOST 1048576: true; the input reads as it did. -/
def txnAllUptoRow : OpenClaim := { program := "ytphpegnfcelagaagreatdoor", sum := "54e71262ca73bdcd1b144855fddc5b7c475c3900234abc2a842e1ae52c5fba52", func := "scriptory/scriptorylaw19.TxnAll", spec := "txnAll", inPlace := ["internal/reflectlite.ValueOf", "(internal/reflectlite.Value).Type", "(internal/reflectlite.Value).IsNil", "internal/reflectlite.TypeOf", "(internal/reflectlite.Value).Elem", "(internal/reflectlite.Value).Set"], unfollowed := true, recurses := true, named := ["errors.errorType"], apart := false, laid := [("errors.errorType", laid_errors_errorType)], narrowed := true }
def TxnAllUptoSaid : Prop := txnAllUptoRow.holds Tryz.pinned (OpenSpec.upto txnAllSpec)

/-- 'scriptorylaw19.TxnNone', WHERE WHAT IT READS IS OF BULK AT MOST 1048576: true; the input reads as it did. -/
def txnNoneUptoRow : OpenClaim := { program := "ytphpegnfcelagaagreatdoor", sum := "54e71262ca73bdcd1b144855fddc5b7c475c3900234abc2a842e1ae52c5fba52", func := "scriptory/scriptorylaw19.TxnNone", spec := "txnNone", inPlace := ["internal/reflectlite.ValueOf", "(internal/reflectlite.Value).Type", "(internal/reflectlite.Value).IsNil", "internal/reflectlite.TypeOf", "(internal/reflectlite.Value).Elem", "(internal/reflectlite.Value).Set"], unfollowed := true, recurses := true, named := ["errors.errorType"], apart := false, laid := [("errors.errorType", laid_errors_errorType)], narrowed := true }
def TxnNoneUptoSaid : Prop := txnNoneUptoRow.holds Tryz.pinned (OpenSpec.upto txnNoneSpec)

/-- 'scriptorylaw22.ChainLong', WHERE WHAT IT READS IS OF BULK AT MOST 1048576: true; the input reads as it did. -/
def chainLongUptoRow : OpenClaim := { program := "ytphpegnfcelagaagreatdoor", sum := "54e71262ca73bdcd1b144855fddc5b7c475c3900234abc2a842e1ae52c5fba52", func := "scriptory/scriptorylaw22.ChainLong", spec := "chainLong", inPlace := ["internal/reflectlite.ValueOf", "(internal/reflectlite.Value).Type", "(internal/reflectlite.Value).IsNil", "internal/reflectlite.TypeOf", "(internal/reflectlite.Value).Elem", "(internal/reflectlite.Value).Set"], unfollowed := true, recurses := true, named := ["errors.errorType"], apart := false, laid := [("errors.errorType", laid_errors_errorType)], narrowed := true }
def ChainLongUptoSaid : Prop := chainLongUptoRow.holds Tryz.pinned (OpenSpec.upto chainLongSpec)

/-- 'scriptorylaw22.ChainReads', WHERE WHAT IT READS IS OF BULK AT MOST 1048576: true; the input reads as it did. -/
def chainReadsUptoRow : OpenClaim := { program := "ytphpegnfcelagaagreatdoor", sum := "54e71262ca73bdcd1b144855fddc5b7c475c3900234abc2a842e1ae52c5fba52", func := "scriptory/scriptorylaw22.ChainReads", spec := "chainReads", inPlace := ["internal/reflectlite.ValueOf", "(internal/reflectlite.Value).Type", "(internal/reflectlite.Value).IsNil", "internal/reflectlite.TypeOf", "(internal/reflectlite.Value).Elem", "(internal/reflectlite.Value).Set"], unfollowed := true, recurses := true, named := ["errors.errorType"], apart := false, laid := [("errors.errorType", laid_errors_errorType)], narrowed := true }
def ChainReadsUptoSaid : Prop := chainReadsUptoRow.holds Tryz.pinned (OpenSpec.upto chainReadsSpec)

/-- 'scriptorylaw22.ChainWrites', WHERE WHAT IT READS IS OF BULK AT MOST 1048576: true; the input reads as it did. -/
def chainWritesUptoRow : OpenClaim := { program := "ytphpegnfcelagaagreatdoor", sum := "54e71262ca73bdcd1b144855fddc5b7c475c3900234abc2a842e1ae52c5fba52", func := "scriptory/scriptorylaw22.ChainWrites", spec := "chainWrites", inPlace := ["internal/reflectlite.ValueOf", "(internal/reflectlite.Value).Type", "(internal/reflectlite.Value).IsNil", "internal/reflectlite.TypeOf", "(internal/reflectlite.Value).Elem", "(internal/reflectlite.Value).Set"], unfollowed := true, recurses := true, named := ["errors.errorType"], apart := false, laid := [("errors.errorType", laid_errors_errorType)], narrowed := true }
def ChainWritesUptoSaid : Prop := chainWritesUptoRow.holds Tryz.pinned (OpenSpec.upto chainWritesSpec)

/-- 'scriptorylaw22.ChainFull', WHERE WHAT IT READS IS OF BULK AT MOST 1048576: true; the input reads as it did. -/
def chainFullUptoRow : OpenClaim := { program := "ytphpegnfcelagaagreatdoor", sum := "54e71262ca73bdcd1b144855fddc5b7c475c3900234abc2a842e1ae52c5fba52", func := "scriptory/scriptorylaw22.ChainFull", spec := "chainFull", inPlace := ["internal/reflectlite.ValueOf", "(internal/reflectlite.Value).Type", "(internal/reflectlite.Value).IsNil", "internal/reflectlite.TypeOf", "(internal/reflectlite.Value).Elem", "(internal/reflectlite.Value).Set"], unfollowed := true, recurses := true, named := ["errors.errorType"], apart := false, laid := [("errors.errorType", laid_errors_errorType)], narrowed := true }
def ChainFullUptoSaid : Prop := chainFullUptoRow.holds Tryz.pinned (OpenSpec.upto chainFullSpec)

/-- 'scriptorylaw22.ChainDrops', WHERE WHAT IT READS IS OF BULK AT MOST 1048576: true; the input reads as it did. -/
def chainDropsUptoRow : OpenClaim := { program := "ytphpegnfcelagaagreatdoor", sum := "54e71262ca73bdcd1b144855fddc5b7c475c3900234abc2a842e1ae52c5fba52", func := "scriptory/scriptorylaw22.ChainDrops", spec := "chainDrops", inPlace := ["internal/reflectlite.ValueOf", "(internal/reflectlite.Value).Type", "(internal/reflectlite.Value).IsNil", "internal/reflectlite.TypeOf", "(internal/reflectlite.Value).Elem", "(internal/reflectlite.Value).Set"], unfollowed := true, recurses := true, named := ["errors.errorType"], apart := false, laid := [("errors.errorType", laid_errors_errorType)], narrowed := true }
def ChainDropsUptoSaid : Prop := chainDropsUptoRow.holds Tryz.pinned (OpenSpec.upto chainDropsSpec)

/-- 'scriptorylaw22.ChainKeeps', WHERE WHAT IT READS IS OF BULK AT MOST 1048576: true; the input reads as it did. -/
def chainKeepsUptoRow : OpenClaim := { program := "ytphpegnfcelagaagreatdoor", sum := "54e71262ca73bdcd1b144855fddc5b7c475c3900234abc2a842e1ae52c5fba52", func := "scriptory/scriptorylaw22.ChainKeeps", spec := "chainKeeps", inPlace := ["internal/reflectlite.ValueOf", "(internal/reflectlite.Value).Type", "(internal/reflectlite.Value).IsNil", "internal/reflectlite.TypeOf", "(internal/reflectlite.Value).Elem", "(internal/reflectlite.Value).Set"], unfollowed := true, recurses := true, named := ["errors.errorType"], apart := false, laid := [("errors.errorType", laid_errors_errorType)], narrowed := true }
def ChainKeepsUptoSaid : Prop := chainKeepsUptoRow.holds Tryz.pinned (OpenSpec.upto chainKeepsSpec)

/-- 'scriptorylaw20.SpaceAll', WHERE WHAT IT READS IS OF BULK AT MOST 1048576: true; the input reads as it did. -/
def spaceAllUptoRow : OpenClaim := { program := "ytphpegnfcelagaagreatdoor", sum := "54e71262ca73bdcd1b144855fddc5b7c475c3900234abc2a842e1ae52c5fba52", func := "scriptory/scriptorylaw20.SpaceAll", spec := "spaceAll", inPlace := ["internal/reflectlite.ValueOf", "(internal/reflectlite.Value).Type", "(internal/reflectlite.Value).IsNil", "internal/reflectlite.TypeOf", "(internal/reflectlite.Value).Elem", "(internal/reflectlite.Value).Set"], unfollowed := true, recurses := true, named := ["errors.errorType"], apart := false, laid := [("errors.errorType", laid_errors_errorType)], narrowed := true }
def SpaceAllUptoSaid : Prop := spaceAllUptoRow.holds Tryz.pinned (OpenSpec.upto spaceAllSpec)

end Rows
end Go.Proofs.YtphpegnfcelagaaGreatDoor
