/- Laws for regions that draw their order: what is taken first, by hand. No program. -/
import Derived.Test.YtajlhloapglafaaGreatDoorOp
import Derived.Deep.RegionHeld3
namespace Go.Proofs.YtajlhloapglafaaGreatDoor
open Go.RowKit

variable {P : Program} {ops : Array Oper} {o : Oper} {a : Act} {S : World → Prop}

/-- string(b) yields in every world in which the bytes lie there. -/
theorem yieldsIf_bytes_str (hw : Region.wanted o (yielded ops a.tmps) = true) (src dst : TypeId) (x : Operand) (ho : o.op = .convert src dst x) (g off n cap : Nat) (hx : a.eval x = .slice (some ⟨g, off, none⟩) n cap)
    (e : TypeId) (hs : P.underlying src = some (.slice e)) (he : P.underlying e = some (.int .u8)) (hd : P.underlying dst = some .string) (l : List UInt8) (hn : n = l.length) (hS : ∀ w, S w → BytesAt w g off l) :
    YieldsIf P ops S o (.string ⟨l.toArray⟩) a := by
  refine Or.inl ⟨hw, fun w h => ?_⟩
  have hrun := run_bytes_str (P := P) w src dst e hs he hd g off cap l (hS w h) n hn
  unfold execOp
  simp only [ho, hx, Sem.run_bind, hrun, Result.andThen_ok, Sem.run_pure]

/-- A load of one cell yields in every world in which the cell holds the value. -/
theorem yieldsIf_load1 (hw : Region.wanted o (yielded ops a.tmps) = true) (ty : TypeId) (x : Operand) (ho : o.op = .load ty x) (g off : Nat) (hx : a.eval x = .pointer (some ⟨g, off, none⟩))
    (d : TypeDesc) (hu : P.underlying ty = some d) (hd : (match d with | .struct _ | .array _ _ => true | _ => false) = false) (v : Value) (hS : ∀ w, S w → w.cell? ⟨g, off, none⟩ = some v) :
    YieldsIf P ops S o v a := by
  refine Or.inl ⟨hw, fun w h => ?_⟩
  have hc := hS w h
  have hagg : (isAgg ty).run P w = .ok false w := by
    unfold isAgg
    rw [Sem.run_bind, run_underlying hu w]
    cases d <;> simp_all
  have hl : (load ⟨g, off, none⟩).run P w = .ok v w := by simp [load, Sem.run, hc]
  unfold execOp
  simp only [ho, hx, Instr.loadAt, Instr.sureAddr, Sem.run_bind, Sem.run_pure, Result.andThen_ok, loadVar, hagg]
  simp [hl, Result.andThen]

/-- What is not wanted yields nothing. -/
theorem yieldsIf_un (hw : Region.wanted o (yielded ops a.tmps) = false) : YieldsIf P ops S o undef a := Or.inr ⟨hw, rfl⟩

/-- string(b), run. -/
theorem wp_bytes_str {Q : Exit → Act → World → Prop} {K : Act → World → Prop} {W : World} (src dst : TypeId) (x : Operand) (ho : o.op = .convert src dst x) (g off n cap : Nat) (hx : a.eval x = .slice (some ⟨g, off, none⟩) n cap)
    (e : TypeId) (hs : P.underlying src = some (.slice e)) (he : P.underlying e = some (.int .u8)) (hd : P.underlying dst = some .string) (l : List UInt8) (hb : BytesAt W g off l) (hn : n = l.length)
    (h : K (a.put o.dst (.string ⟨l.toArray⟩)) W) : o.wp P a W K Q := by
  have hrun := run_bytes_str (P := P) W src dst e hs he hd g off cap l hb n hn
  unfold Oper.wp execOp
  simp only [ho, hx, Sem.run_bind, hrun, Result.andThen_ok, Sem.run_pure]
  exact h

end Go.Proofs.YtajlhloapglafaaGreatDoor
