/- What the row's condition says of errors.errorType; a world that meets it. (After the kit's worked example Toyas.) -/
import Derived.Test.YtajlhloapglafaaGreatDoorRows
import Derived.Test.YtajlhloapglafaaGreatDoorLgJ
import Derived.ChangeSame
import Derived.ChangeVars
import Derived.JoinedOf
import Derived.RowKit
import Derived.RowKitTokens
import Derived.LaidLaws
import Derived.LaidHandle
import Derived.Stop.Joined
namespace Go.Proofs.YtajlhloapglafaaGreatDoor
open Go.ChangeShapes Go.WideShapes Go.RowKit
set_option maxRecDepth 100000

theorem own : ownKnob Tryz.prog.godebug = none := by kernel_rfl
theorem laidOut : laidOutB Tryz.prog = true := by kernel_rfl
def errLaid : List (String × DataW Unit) := [("errors.errorType", Rows.laid_errors_errorType)]
theorem hd_et : Tryz.prog.globalNamed "errors.errorType" = some 0 := by kernel_rfl
theorem hd_rt : (Tryz.prog.cutTypes.find? (·.1 == "internal/reflectlite.rtype")).map (·.2) = some 153 := by kernel_rfl
theorem hd_one : ((List.range 217).filter fun t => Tryz.prog.rowNamed t [101, 114, 114, 111, 114]) = [86] := by kernel_rfl
theorem hd_size : Tryz.prog.types.size = 217 := by kernel_rfl

theorem handle_of_laid {W : World} (h : laidMetH Tryz.prog errLaid W) : errA.prop W := by
  have h' : laidMet Tryz.prog [] W ∧ handlesMet Tryz.prog errLaid W := h
  obtain ⟨name, u, ty, e1, e2, e3, e4, e5⟩ := h'.2 _ (List.mem_singleton.2 rfl)
  have en : name = [101, 114, 114, 111, 114] := (Option.some.inj e1).symm
  subst en
  obtain rfl := Option.some.inj (hd_rt.symm.trans e2)
  have hm : ty ∈ (List.range 217).filter fun t => Tryz.prog.rowNamed t [101, 114, 114, 111, 114] := List.mem_filter.2 ⟨List.mem_range.2 (by rw [← hd_size]; exact e3), e4⟩
  rw [hd_one] at hm
  obtain rfl := List.mem_singleton.1 hm
  have hh : typeHandle Tryz.prog 86 = .pointer (some ⟨1, 86, none⟩) := by kernel_rfl
  rw [hh] at e5
  have hc : W.cell? ⟨0, 0, none⟩ = some (.iface 153 (.agg #[.pointer (some ⟨1, 86, none⟩)])) := by simpa using World.var?_cell hd_et e5 0
  refine ⟨?_, hc⟩
  rcases Nat.eq_zero_or_pos W.heap.size with h0 | h
  · simp [World.cell?, h0] at hc
  · exact h

/-- A world that meets the condition. -/
noncomputable def laidWorld (os : Os) : World :=
  let w0 := World.holding Tryz.prog os ⟨#[], #[], []⟩
  { w0 with heap := w0.heap.modify 0 fun
      | .cells _ t frozen => .cells #[.iface 153 (.agg #[.pointer (some ⟨1, 86, none⟩)])] t frozen
      | o => o }
theorem laidWorld_met (os : Os) (args : Array Value) : laidMetH Tryz.prog errLaid ((laidWorld os).forCall (fun _ _ => 0) ⟨#[], args, []⟩).memory :=
  laidMetH_of_parts (laidMet_nil _ _) (by kernel_rfl)

end Go.Proofs.YtajlhloapglafaaGreatDoor
