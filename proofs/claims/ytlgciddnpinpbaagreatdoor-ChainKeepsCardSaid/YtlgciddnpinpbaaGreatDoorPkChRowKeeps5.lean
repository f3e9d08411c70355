/- Texts of this proof, packed: errors.As of chain's fault, wrapped once. (After the kit's worked example Toyas.) and what follows it. -/
import Derived.Test.YtlgciddnpinpbaaGreatDoorPkBase4
import Derived.WalkKit
import Derived.LaidEql
import Derived.Stop.Asserts
import Derived.RowKitTokens
import Derived.Laws.ResultCell
import Derived.Laws.Rows
import Derived.BigQuiet
import Derived.Deep.QuietTactic

namespace Go.Proofs.YtlgciddnpinpbaaGreatDoor
open Go.RowKit Go.Extern.Stop Go.Stop Go.Extern
set_option linter.unusedSimpArgs false
set_option linter.unusedVariables false
set_option maxRecDepth 4000

theorem AsC.valueOf27 (t : Addr) (w : World) : (ReflectliteValue.unpack (.iface 171 (.pointer (some t)))).run Tryz.prog w
    = .ok (.agg #[.pointer (some ⟨2, 171, none⟩), .pointer (some ⟨w.heap.size, 0, none⟩), .int .u64 150]) (w.alloc (.cells #[.pointer (some t)] 171)) := by kernel_rfl
theorem AsC.type27 (a : Addr) (w : World) : (ReflectliteValue.methodAny (ReflectliteValue.valueError "reflectlite.Value.Type" 0) (fun t _ _ _ => ReflectliteType.toType t) #[.agg #[.pointer (some ⟨2, 171, none⟩), .pointer (some a), .int .u64 150]]).run Tryz.prog w
    = .ok (.iface 253 (.agg #[.pointer (some ⟨2, 171, none⟩)])) w := by kernel_rfl
theorem AsC.methodKind (h : Value) (w : World) : (Go.method 428 253 (.agg #[h]) "Kind").run Tryz.prog w = .ok (225, h) w := by kernel_rfl
theorem AsC.kind27 (w : World) : ((ReflectliteType.abiMethod fun t => (fun a : Nat => Value.int IntKind.u8 (a : Int)) <$> Rtype.kind t) #[.pointer (some ⟨2, 171, none⟩)]).run Tryz.prog w = .ok (.int .u8 22) w := by kernel_rfl
theorem AsC.kind25 (w : World) : ((ReflectliteType.abiMethod fun t => (fun a : Nat => Value.int IntKind.u8 (a : Int)) <$> Rtype.kind t) #[.pointer (some ⟨2, 170, none⟩)]).run Tryz.prog w = .ok (.int .u8 22) w := by kernel_rfl

theorem AsC.parts27 (a : Addr) (w : World) : (ReflectliteValue.parts (.agg #[.pointer (some ⟨2, 171, none⟩), .pointer (some a), .int .u64 150])).run Tryz.prog w = .ok (some (171, a, 150)) w := by kernel_rfl
theorem AsC.isNil27 (a p : Addr) (W : World) (ha : W.cell? a = some (.pointer (some p))) :
    (ReflectliteValue.method (ReflectliteValue.valueError "reflectlite.Value.IsNil" 0) ReflectliteValue.isNil #[.agg #[.pointer (some ⟨2, 171, none⟩), .pointer (some a), .int .u64 150]]).run Tryz.prog W = .ok (.bool false) W := by
  rw [rlm]
  simp only [Sem.run_bind, AsC.parts27, Result.andThen]
  simp [ReflectliteValue.isNil, loadVar, isAgg, underlying, Tryz.underlying171, ha, Result.andThen]

theorem AsC.methodElem (h : Value) (w : World) : (Go.method 428 253 (.agg #[h]) "Elem").run Tryz.prog w = .ok (246, .agg #[h]) w := by kernel_rfl
theorem AsC.methodImplements (h : Value) (w : World) : (Go.method 428 253 (.agg #[h]) "Implements").run Tryz.prog w = .ok (247, .agg #[h]) w := by kernel_rfl
theorem AsC.methodAssignableTo (h : Value) (w : World) : (Go.method 428 253 (.agg #[h]) "AssignableTo").run Tryz.prog w = .ok (244, .agg #[h]) w := by kernel_rfl
theorem AsC.elem27 (w : World) : (ReflectliteType.method ReflectliteType.elem #[.agg #[.pointer (some ⟨2, 171, none⟩)]]).run Tryz.prog w = .ok (.iface 253 (.agg #[.pointer (some ⟨2, 170, none⟩)])) w := by kernel_rfl
theorem AsC.implements25 (w : World) : (ReflectliteType.relation "Implements" ReflectliteType.implements_ #[.agg #[.pointer (some ⟨2, 170, none⟩)], .iface 253 (.agg #[.pointer (some ⟨2, 114, none⟩)])]).run Tryz.prog w = .ok (.bool true) w := by kernel_rfl
theorem AsC.typeOf25 (v : Value) (w : World) : (ReflectliteType.typeOf #[.iface 170 v]).run Tryz.prog w = .ok (.iface 253 (.agg #[.pointer (some ⟨2, 170, none⟩)])) w := by kernel_rfl
theorem AsC.assignable25 (w : World) : (ReflectliteType.relation "AssignableTo" ReflectliteType.assignableTo #[.agg #[.pointer (some ⟨2, 170, none⟩)], .iface 253 (.agg #[.pointer (some ⟨2, 170, none⟩)])]).run Tryz.prog w = .ok (.bool true) w := by kernel_rfl
theorem AsC.valueOf25 (e : Addr) (w : World) : (ReflectliteValue.unpack (.iface 170 (.pointer (some e)))).run Tryz.prog w
    = .ok (.agg #[.pointer (some ⟨2, 170, none⟩), .pointer (some ⟨w.heap.size, 0, none⟩), .int .u64 150]) (w.alloc (.cells #[.pointer (some e)] 170)) := by kernel_rfl

theorem AsC.elemOf27 (w : World) : (Rtype.elem? 171).run Tryz.prog w = .ok (some 170) w := by kernel_rfl
theorem AsC.mk25 (p : Addr) (w : World) : (ReflectliteValue.mk 170 p ReflectliteValue.flagAddr).run Tryz.prog w = .ok (.agg #[.pointer (some ⟨2, 170, none⟩), .pointer (some p), .int .u64 406]) w := by kernel_rfl
theorem AsC.elemV27 (a p : Addr) (W : World) (ha : W.cell? a = some (.pointer (some p))) :
    (ReflectliteValue.method (ReflectliteValue.valueError "reflectlite.Value.Elem" 0) ReflectliteValue.elem #[.agg #[.pointer (some ⟨2, 171, none⟩), .pointer (some a), .int .u64 150]]).run Tryz.prog W
      = .ok (.agg #[.pointer (some ⟨2, 170, none⟩), .pointer (some p), .int .u64 406]) W := by
  rw [rlm]
  simp only [Sem.run_bind, AsC.parts27, Result.andThen]
  simp [ReflectliteValue.elem, loadVar, isAgg, underlying, Tryz.underlying171, ha, Result.andThen, AsC.elemOf27, AsC.mk25]
theorem AsC.parts25a (a : Addr) (w : World) : (ReflectliteValue.parts (.agg #[.pointer (some ⟨2, 170, none⟩), .pointer (some a), .int .u64 406])).run Tryz.prog w = .ok (some (170, a, 406)) w := by kernel_rfl
theorem AsC.parts25 (a : Addr) (w : World) : (ReflectliteValue.parts (.agg #[.pointer (some ⟨2, 170, none⟩), .pointer (some a), .int .u64 150])).run Tryz.prog w = .ok (some (170, a, 150)) w := by kernel_rfl
theorem AsC.direct25 (w : World) : (Rtype.directlyAssignable 170 170).run Tryz.prog w = .ok true w := by kernel_rfl
theorem AsC.size25 (w : World) : (sizeOf 170).run Tryz.prog w = .ok 1 w := by kernel_rfl
theorem AsC.set25 (ta b e : Addr) (old : Value) (W : World) (hb : W.cell? b = some (.pointer (some e))) (ht : W.cell? ta = some old) (hf : W.frozen? ta = false) :
    (ReflectliteValue.set #[.agg #[.pointer (some ⟨2, 170, none⟩), .pointer (some ta), .int .u64 406], .agg #[.pointer (some ⟨2, 170, none⟩), .pointer (some b), .int .u64 150]]).run Tryz.prog W
      = .ok (.tuple #[]) (W.setCell ta (.pointer (some e))) := by
  rw [rls]
  simp only [Sem.run_bind, AsC.parts25a, AsC.parts25, Result.andThen]
  simp [ReflectliteValue.flagAddr, loadVar, isAgg, underlying, Tryz.underlying170, hb, Result.andThen, AsC.direct25, storeVar, Value.cells, storeCells, Addr.add]
  rw [run_store Tryz.prog W ta _ _ (by rfl)]
  simp [ht, hf]

theorem AsC.typeOfW (v : Value) (w : World) : (ReflectliteType.typeOf #[.iface 219 v]).run Tryz.prog w = .ok (.iface 253 (.agg #[.pointer (some ⟨2, 219, none⟩)])) w := by kernel_rfl
theorem AsC.assignW (w : World) : (ReflectliteType.relation "AssignableTo" ReflectliteType.assignableTo #[.agg #[.pointer (some ⟨2, 219, none⟩)], .iface 253 (.agg #[.pointer (some ⟨2, 170, none⟩)])]).run Tryz.prog w = .ok (.bool false) w := by kernel_rfl
theorem AsC.methodUnwrap (a : Value) (w : World) : (Go.method 428 219 a "Unwrap").run Tryz.prog w = .ok (241, a) w := by kernel_rfl

theorem AsC.noAs (v : Value) (xT : TypeId) (w : World) : (Instr.typeAssert (.iface 219 v) xT 258 true).run Tryz.prog w = .ok (.tuple #[.nilIface, .bool false]) w := run_typeAssert_lacksB Tryz.underlying258 (by kernel_rfl) (by kernel_rfl) v xT w
theorem AsC.hasUn (v : Value) (xT : TypeId) (w : World) : (Instr.typeAssert (.iface 219 v) xT 261 true).run Tryz.prog w = .ok (.tuple #[.iface 219 v, .bool true]) w := run_typeAssert_hasB Tryz.underlying261 (by kernel_rfl) v xT w

theorem unwrap_partC (a : Addr) (v : Value) (w : World) (h : w.cell? a = some v) : Calls Tryz.prog 241 #[.pointer (some a)] w fun e w' => e = .returned v ∧ w = w' := by
  go_enter Tryz.func241, Tryz.ntmps241
  go_wp2
  go_ret
  exact ⟨rfl, rfl⟩

set_option maxHeartbeats 4000000 in
theorem as_hitC (pp e t : Addr) (old : Value) (w : World) (hp : w.cell? pp = some (.iface 170 (.pointer (some e)))) (hg : w.cell? ⟨0, 0, none⟩ = some (.iface 253 (.agg #[.pointer (some ⟨2, 114, none⟩)]))) (ht0 : w.cell? t = some old) (hf0 : w.frozen? t = false) :
    Calls Tryz.prog 102 #[.iface 219 (.pointer (some pp)), .iface 171 (.pointer (some t))] w fun ev w' => ev = .returned (.bool true) ∧ w' = ((((w.alloc (.cells #[.pointer (some t)] 171)).alloc (.cells #[.pointer (some ⟨2, 171, none⟩), .pointer (some ⟨w.heap.size, 0, none⟩), .int .u64 150] 207)).alloc (.cells #[.pointer (some ⟨2, 171, none⟩), .pointer (some ⟨w.heap.size, 0, none⟩), .int .u64 150] 207)).alloc (.cells #[.pointer (some e)] 170)).setCell t (.pointer (some e)) := by
  have h6 := @run_callFunc_extern Tryz.prog 136 _ (fun args => ReflectliteValue.unpack (args.getD 0 (.tuple #[]))) Tryz.func136 (by kernel_rfl) (by kernel_rfl) (by kernel_rfl) (by kernel_rfl)
  have h7 := @run_callFunc_extern Tryz.prog 137 _ (ReflectliteValue.methodAny (ReflectliteValue.valueError "reflectlite.Value.Type" 0) (fun t _ _ _ => ReflectliteType.toType t)) Tryz.func137 (by kernel_rfl) (by kernel_rfl) (by kernel_rfl) (by kernel_rfl)
  have h8 := @run_callFunc_extern Tryz.prog 138 _ (ReflectliteValue.method (ReflectliteValue.valueError "reflectlite.Value.IsNil" 0) ReflectliteValue.isNil) Tryz.func138 (by kernel_rfl) (by kernel_rfl) (by kernel_rfl) (by kernel_rfl)
  have h27 := @run_callFunc_extern Tryz.prog 225 _ (ReflectliteType.abiMethod fun t => do pure (.int .u8 (← Rtype.kind t))) Tryz.func225 (by kernel_rfl) (by kernel_rfl) (by kernel_rfl) (by kernel_rfl)
  have h37 := @run_callFunc_extern Tryz.prog 246 _ (ReflectliteType.method ReflectliteType.elem) Tryz.func246 (by kernel_rfl) (by kernel_rfl) (by kernel_rfl) (by kernel_rfl)
  have h38 := @run_callFunc_extern Tryz.prog 247 _ (ReflectliteType.relation "Implements" ReflectliteType.implements_) Tryz.func247 (by kernel_rfl) (by kernel_rfl) (by kernel_rfl) (by kernel_rfl)
  have h10 := @run_callFunc_extern Tryz.prog 174 _ ReflectliteType.typeOf Tryz.func174 (by kernel_rfl) (by kernel_rfl) (by kernel_rfl) (by kernel_rfl)
  have h35 := @run_callFunc_extern Tryz.prog 244 _ (ReflectliteType.relation "AssignableTo" ReflectliteType.assignableTo) Tryz.func244 (by kernel_rfl) (by kernel_rfl) (by kernel_rfl) (by kernel_rfl)
  have h11 := @run_callFunc_extern Tryz.prog 175 _ (ReflectliteValue.method (ReflectliteValue.valueError "reflectlite.Value.Elem" 0) ReflectliteValue.elem) Tryz.func175 (by kernel_rfl) (by kernel_rfl) (by kernel_rfl) (by kernel_rfl)
  have h12 := @run_callFunc_extern Tryz.prog 176 _ ReflectliteValue.set Tryz.func176 (by kernel_rfl) (by kernel_rfl) (by kernel_rfl) (by kernel_rfl)
  have tO := AsC.typeOf25
  have tW := AsC.typeOfW
  have aW := AsC.assignW
  have mU := AsC.methodUnwrap
  have nA := AsC.noAs
  have hU := AsC.hasUn
  have mA := AsC.methodAssignableTo
  have a25 := AsC.assignable25
  have v25 := AsC.valueOf25
  have f6 := AsC.valueOf27
  have f7 := AsC.type27
  have mK := AsC.methodKind
  have mE := AsC.methodElem
  have mI := AsC.methodImplements
  have k27 := AsC.kind27
  have k25 := AsC.kind25
  have e27 := AsC.elem27
  have i25 := AsC.implements25
  have n8 := AsC.isNil27 ⟨w.heap.size, 0, none⟩ t ((w.alloc (.cells #[.pointer (some t)] 171)).alloc (.cells #[.pointer (some ⟨2, 171, none⟩), .pointer (some ⟨w.heap.size, 0, none⟩), .int .u64 150] 207)) (by simp)
  have hlt : 0 < w.heap.size := by
    rcases Nat.eq_zero_or_pos w.heap.size with h0 | h
    · simp [World.cell?, h0] at hg
    · exact h
  have hg2 : ((w.alloc (.cells #[.pointer (some t)] 171)).alloc (.cells #[.pointer (some ⟨2, 171, none⟩), .pointer (some ⟨w.heap.size, 0, none⟩), .int .u64 150] 207)).cell? ⟨0, 0, none⟩ = some (.iface 253 (.agg #[.pointer (some ⟨2, 114, none⟩)])) := by
    rw [World.cell?_alloc_lt _ _ ⟨0, 0, none⟩ (by simp), World.cell?_alloc_lt _ _ ⟨0, 0, none⟩ hlt]; exact hg
  have htl : t.block < w.heap.size := by
    rcases Nat.lt_or_ge t.block w.heap.size with h | h
    · exact h
    · simp [World.cell?, Array.getElem?_eq_none h] at ht0
  have el := AsC.elemV27 ⟨w.heap.size, 0, none⟩ t (((w.alloc (.cells #[.pointer (some t)] 171)).alloc (.cells #[.pointer (some ⟨2, 171, none⟩), .pointer (some ⟨w.heap.size, 0, none⟩), .int .u64 150] 207)).alloc (.cells #[.pointer (some ⟨2, 171, none⟩), .pointer (some ⟨w.heap.size, 0, none⟩), .int .u64 150] 207)) (by rw [World.cell?_alloc_lt _ _ ⟨w.heap.size, 0, none⟩ (by simp; omega)]; simp)
  have st := AsC.set25 t ⟨w.heap.size + 1 + 1 + 1, 0, none⟩ e old ((((w.alloc (.cells #[.pointer (some t)] 171)).alloc (.cells #[.pointer (some ⟨2, 171, none⟩), .pointer (some ⟨w.heap.size, 0, none⟩), .int .u64 150] 207)).alloc (.cells #[.pointer (some ⟨2, 171, none⟩), .pointer (some ⟨w.heap.size, 0, none⟩), .int .u64 150] 207)).alloc (.cells #[.pointer (some e)] 170))
    (by rw [World.cell?_alloc_at _ _ _ _ (by simp)]; rfl)
    (by rw [World.cell?_alloc_lt _ _ t (by simp; omega), World.cell?_alloc_lt _ _ t (by simp; omega), World.cell?_alloc_lt _ _ t (by simp; omega), World.cell?_alloc_lt _ _ t htl]; exact ht0)
    (by rw [World.frozen?_alloc_old _ _ t (by simp; omega), World.frozen?_alloc_old _ _ t (by simp; omega), World.frozen?_alloc_old _ _ t (by simp; omega), World.frozen?_alloc_old _ _ t (Nat.ne_of_lt htl)]; exact hf0)
  have hpl : pp.block < w.heap.size := World.block_lt_of_cell? w pp hp
  have hp3 : (((w.alloc (.cells #[.pointer (some t)] 171)).alloc (.cells #[.pointer (some ⟨2, 171, none⟩), .pointer (some ⟨w.heap.size, 0, none⟩), .int .u64 150] 207)).alloc (.cells #[.pointer (some ⟨2, 171, none⟩), .pointer (some ⟨w.heap.size, 0, none⟩), .int .u64 150] 207)).cell? pp = some (.iface 170 (.pointer (some e))) := by
    rw [World.cell?_alloc_lt _ _ pp (by simp; omega), World.cell?_alloc_lt _ _ pp (by simp; omega), World.cell?_alloc_lt _ _ pp hpl]; exact hp
  go_enter Tryz.func102, Tryz.ntmps102
  go_wp2
  refine wp_loop_rounds 2 ?_
  rw [rounds_succ]
  go_wp2
  rw [rounds_succ]
  go_wp2
  go_ret
  exact ⟨rfl, rfl⟩

theorem zero_faultC1 : (Tryz.prog.info? 170).bind (·.zero) = some (.pointer none) := by kernel_rfl

theorem code_nilC (w : World) : Calls Tryz.prog 74 #[.nilIface] w fun e w' => e = .returned (.int .i64 0) ∧ Below w.heap.size w w' := by
  have H := St.nil NoBlk NoBlk w
  go_enter Tryz.func74, Tryz.ntmps74
  go_wp2_with (first
    | (refine wpList_alloc_st H rfl 170 rfl _ zero_faultC1 ?_; clear H; intro W gf H)
    | (go_at_call 102; (with_reducible refine (as_nil _ _).mono ?_); rintro e W' ⟨rfl, rfl⟩))
  go_ret
  exact ⟨rfl, H.fix.below⟩

def partVC (g : Nat) : Value := .iface 219 (.pointer (some ⟨g, 0, none⟩))
def partOC (gf : Nat) : Obj := .cells #[.iface 170 (.pointer (some ⟨gf, 0, none⟩))] 221 (0, 0)
def codeOC (c : Int) : Obj := .cells #[.int .i64 c] 173 (0, 0)

/-- An error of a home, in memory. -/
def ErrC (W : World) (g : Nat) (c : Int) : Prop := ∃ gf, W.heap[g]? = some (partOC gf) ∧ W.heap[gf]? = some (codeOC c)

theorem ErrC.stay {W W' : World} {g : Nat} {c : Int} (h : ErrC W g c) (hb : Below W.heap.size W W') : ErrC W' g c := by
  obtain ⟨gf, h1, h2⟩ := h
  exact ⟨gf, (hb.block _ (Array.getElem?_eq_some_iff.1 h1).1).trans h1, (hb.block _ (Array.getElem?_eq_some_iff.1 h2).1).trans h2⟩

theorem bad_nilC (w : World) : Calls Tryz.prog 108 #[.int .i64 0] w fun e w' => e = .returned .nilIface ∧ w = w' := by
  go_enter Tryz.func108, Tryz.ntmps108
  go_wp2
  go_ret
  exact ⟨rfl, rfl⟩

theorem bad_noC (c : Int) (hc : (c == 0) = false) (w : World) : Calls Tryz.prog 108 #[.int .i64 c] w fun e w' => ∃ g, e = .returned (partVC g) ∧ ErrC w' g c ∧ Below w.heap.size w w' := by
  have H := St.nil NoBlk NoBlk w
  have hc2 : ¬ c = 0 := beq_eq_false_iff_ne.1 hc
  have tok : True := trivial
  go_enter Tryz.func108, Tryz.ntmps108
  go_wp2_with (first
    | (have _t := tok; clear _t; refine wpList_box_st H rfl 173 _ rfl (.agg #[.int .i64 c]) rfl ?_; clear H tok; intro W gf H; simp only [List.nil_append] at H)
    | (refine wpList_box_st H rfl 221 _ rfl (.agg #[.iface 170 (.pointer (some ⟨gf, 0, none⟩))]) rfl ?_; clear H; intro W g H))
  go_ret
  exact ⟨g, rfl, ⟨gf, H.at 1 rfl, H.at 0 rfl⟩, H.fix.below⟩

/-- errors.As of a part, into a variable of ours. -/
theorem as_partC {M0 R0 : Nat → Prop} {w0 W : World} {L : List Asrt} (H : St M0 R0 w0 W L) (i : Nat) {gt : Nat} {old : Value} (hi : L[i]? = some (blk gt (.cells #[old] 170 (0, 0)))) (hg : errA.prop W) (g gf : Nat) (hp : W.heap[g]? = some (partOC gf)) :
    Calls Tryz.prog 102 #[partVC g, .iface 171 (.pointer (some ⟨gt, 0, none⟩))] W fun ev w' => ev = .returned (.bool true) ∧ St M0 R0 w0 w' (L.set i (blk gt (.cells #[.pointer (some ⟨gf, 0, none⟩)] 170 (0, 0)))) := by
  have hb : W.heap[gt]? = some (.cells #[old] 170 (0, 0)) := H.at i hi
  have hc : W.cell? ⟨gt, 0, none⟩ = some old := by rw [cell_of_row W gt 0 _ _ _ hb]; rfl
  have hf : W.frozen? ⟨gt, 0, none⟩ = false := frozen_of_row W gt 0 _ _ hb
  have hpc : W.cell? ⟨g, 0, none⟩ = some (.iface 170 (.pointer (some ⟨gf, 0, none⟩))) := by rw [cell_of_row W g 0 _ _ _ hp]; rfl
  refine (as_hitC ⟨g, 0, none⟩ ⟨gf, 0, none⟩ ⟨gt, 0, none⟩ old W hpc hg.2 hc hf).mono ?_
  rintro ev w' ⟨rfl, rfl⟩
  refine ⟨rfl, ?_⟩
  have H1 := (((H.stay (Fix.alloc NoBlk _ (.cells #[.pointer (some ⟨gt, 0, none⟩)] 171))).stay (Fix.alloc NoBlk _ (.cells #[.pointer (some ⟨2, 171, none⟩), .pointer (some ⟨W.heap.size, 0, none⟩), .int .u64 150] 207))).stay (Fix.alloc NoBlk _ (.cells #[.pointer (some ⟨2, 171, none⟩), .pointer (some ⟨W.heap.size, 0, none⟩), .int .u64 150] 207))).stay (Fix.alloc NoBlk _ (.cells #[.pointer (some ⟨gf, 0, none⟩)] 170))
  exact H1.setCell i hi 0 _

theorem code_errC (g : Nat) (c : Int) (w : World) (hg : errA.prop w) (he : ErrC w g c) :
    Calls Tryz.prog 74 #[partVC g] w fun e w' => e = .returned (.int .i64 c) ∧ Below w.heap.size w w' := by
  obtain ⟨gf, h1, h2⟩ := he
  have H : St NoBlk (fun _ => True) w w [errA, imm g (partOC gf), imm gf (codeOC c)] := St.reads_only [errA, imm g (partOC gf), imm gf (codeOC c)] (by
    intro B hB
    simp only [List.mem_cons, List.not_mem_nil, or_false] at hB
    rcases hB with rfl | rfl | rfl
    · exact ⟨hg, fun _ h => h⟩
    · exact ⟨h1, fun _ h => h⟩
    · exact ⟨h2, fun _ h => h⟩)
  clear hg h1 h2
  unfold partVC
  go_enter Tryz.func74, Tryz.ntmps74
  go_wp2_with (first
    | (refine wpList_alloc_st H rfl 170 rfl _ zero_faultC1 ?_; clear H; intro W gv H; simp only [List.cons_append, List.nil_append] at H)
    | (go_at_call 102; go_loud ((refine (as_partC H 3 rfl (H.at 0 rfl) g gf (H.at 1 rfl)).mono ?_); rintro e W' ⟨rfl, H1⟩; clear H; have H := H1; clear H1; simp only [List.set_cons_zero, List.set_cons_succ] at H))
    | (refine wpList_load1_st rfl 170 _ rfl _ _ rfl _ _ _ (H.at 3 rfl) _ Tryz.underlying170 rfl _ rfl ?_)
    | (refine wpList_load1_st rfl 31 _ rfl _ _ rfl _ _ _ (H.at 2 rfl : _ = some (codeOC c)) _ Tryz.underlying31 rfl _ rfl ?_))
  go_ret
  exact ⟨rfl, H.fix.below⟩

end Go.Proofs.YtlgciddnpinpbaaGreatDoor

namespace Go.Proofs.YtlgciddnpinpbaaGreatDoor
open Go.RowKit
set_option linter.unusedSimpArgs false
set_option linter.unusedVariables false
set_option maxRecDepth 40000

def bitsV (g n cap : Nat) (r v : Int) : Value := .agg #[.slice (some ⟨g, 0, none⟩) n cap, .int .u32 r, .int .u64 v]
def bitV (bs : List Bool) : List Value := bs.map Value.bool
theorem bitV_len (bs : List Bool) : (bitV bs).length = bs.length := List.length_map _
theorem bitV_get (bs : List Bool) (i : Nat) (hi : i < bs.length) {b : Bool} (h : bs.getD i false = b) : (bitV bs)[i]? = some (.bool b) := by
  have := bool_at bs i hi h
  simpa [bitV] using this
theorem bitV_set (bs : List Bool) (i : Nat) (b : Bool) : (bitV bs).set i (.bool b) = bitV (bs.set i b) := by simp [bitV]
theorem bitV_one (bs : List Bool) : ∀ u ∈ bitV bs, u.oneCell' = true := by
  intro u hu
  obtain ⟨b, _, rfl⟩ := List.mem_map.1 hu
  rfl



theorem two_bits : ((bitV (List.replicate 34 false)).set 0 (.bool true)).set 1 (.bool true) = bitV (true :: true :: List.replicate 32 false) := rfl






end Go.Proofs.YtlgciddnpinpbaaGreatDoor

namespace Go.Proofs.YtlgciddnpinpbaaGreatDoor
open Go.RowKit
set_option linter.unusedSimpArgs false
set_option linter.unusedVariables false
set_option maxRecDepth 40000



/-- What the homes say, as bits. -/
structure BitsOf (f : Nat → List UInt8) (bs : List Bool) (r v : Nat) : Prop where
  len : bs.length = 34
  has : ∀ k, k < 34 → hasB (f 1) k = bs.getD k false
  root : le (f 0) 0 4 = r
  ver : le (f 0) 4 8 = v
  rlt : r < 4294967296
  vlt : v < 18446744073709551616

theorem bit_mod (b s : Nat) : (b / 2 ^ s % 2 == 1) = b.testBit s := by
  rw [Nat.testBit_eq_decide_div_mod_eq]
  by_cases h : b / 2 ^ s % 2 = 1
  · rw [h]; rfl
  · have h0 : b / 2 ^ s % 2 = 0 := by omega
    rw [h0]; rfl

end Go.Proofs.YtlgciddnpinpbaaGreatDoor

namespace Go.Proofs.YtlgciddnpinpbaaGreatDoor
open Go.RowKit
set_option linter.unusedSimpArgs false
set_option linter.unusedVariables false
set_option maxRecDepth 40000

theorem takes_over {w : World} {s : TX} {c : Nat} (hb : Bundle w (s.L ++ [errA])) (h : s.t.Ok c) (ho : s.x.over = true) :
    Calls Tryz.prog 147 #[.pointer (some ⟨s.g, 0, none⟩)] w fun e w' => ∃ ge, e = .returned (.tuple #[.int .i64 0, partVS ge]) ∧ ErrS w' ge 15 ∧ BunTo w (ownL (s.L ++ [errA])) (rdL (s.L ++ [errA])) (s.L ++ [errA]) w' := by
  have H := hb.open_
  obtain ⟨O, hO⟩ : ∃ O, ownL (s.L ++ [errA]) = O := ⟨_, rfl⟩
  obtain ⟨R, hR⟩ : ∃ R, rdL (s.L ++ [errA]) = R := ⟨_, rfl⟩
  rw [hO, hR] at H ⊢
  have HT := Lib.hid h
  have HX := Lib.hid ho
  clear hb h ho hO hR
  go_enter Tryz.func147, Tryz.ntmps147
  go_wp2_with (first
    | (go_at_call 19; go_loud ((refine (tread_over (t := s.t) (x := s.x) H.bundle HT.out HX.out _).mono ?_); rintro e W ⟨rfl, hto⟩; replace H := hto.front (R := []) (by rw [List.append_nil]; exact H); clear hto; rw [List.append_nil] at H))
    | (go_at_call 148; go_loud ((refine (bad_noS 15 rfl _).mono ?_); rintro e W ⟨ge, rfl, hge, hbl⟩; replace H := (H.stay (Fix.of_below hbl _)); unfold partVS)))
  refine bodyPost_ret (results_tmp2 rfl _ _ _) rfl ?_
  exact ⟨ge, rfl, hge, H.bunTo⟩

theorem Take_over {w : World} {s : TX} {c : Nat} (hb : Bundle w (s.L ++ [errA])) (h : s.t.Ok c) (ho : s.x.over = true) :
    Calls Tryz.prog 110 #[.pointer (some ⟨s.g, 0, none⟩)] w fun e w' => e = .returned (.tuple #[.int .i64 0, .int .i64 15]) ∧ BunTo w (ownL (s.L ++ [errA])) (rdL (s.L ++ [errA])) (s.L ++ [errA]) w' := by
  have H := hb.open_
  have HT := Lib.hid h
  have HX := Lib.hid ho
  clear hb h ho
  go_enter Tryz.func110, Tryz.ntmps110
  go_wp2_with (first
    | (go_at_call 147; go_loud ((refine (takes_over (s := s) H.bundle HT.out HX.out).mono ?_); rintro e W ⟨ge, rfl, hge, hto⟩; replace H := hto.front (R := []) (by rw [List.append_nil]; exact H); rw [List.append_nil] at H; clear hto; unfold partVS))
    | (go_at_call 112; go_loud ((refine (code_errS ge 15 _ (H.at 7 rfl) hge).mono ?_); rintro e W2 ⟨rfl, hbl⟩; replace H := H.stay (Fix.of_below hbl _); clear hbl)))
  refine bodyPost_ret (results_tmp2 rfl _ _ _) rfl ?_
  exact ⟨rfl, H.bunTo⟩

set_option maxHeartbeats 2000000 in
theorem SetRoot_over {w : World} {s : TX} {c : Nat} (hb : Bundle w (s.L ++ [errA])) (h : s.t.Ok c) (ho : s.x.over = true) (zr zv : Int) (r v : Nat) (hzr : (r : Int) = zr) (hzv : (v : Int) = zv) (hr : r < 4294967296) (hv : v < 18446744073709551616) :
    Calls Tryz.prog 87 #[.pointer (some ⟨s.g, 0, none⟩), .int .u32 zr, .int .u64 zv] w fun e w' => e = .returned (.int .i64 15) ∧ BunTo w (ownL (s.L ++ [errA])) (rdL (s.L ++ [errA])) (s.L ++ [errA]) w' := by
  subst hzr hzv
  have H := hb.open_
  obtain ⟨O, hO⟩ : ∃ O, ownL (s.L ++ [errA]) = O := ⟨_, rfl⟩
  obtain ⟨R, hR⟩ : ∃ R, rdL (s.L ++ [errA]) = R := ⟨_, rfl⟩
  rw [hO, hR] at H ⊢
  have HT := Lib.hid h
  have HX := Lib.hid ho
  have HR := Lib.hid hr
  have HV := Lib.hid hv
  have hri : (r : Int) < 4294967296 := by omega
  have hr0 : 0 ≤ (r : Int) := by omega
  have tok1 : True := trivial
  clear hb h ho hO hR hr hv
  go_enter Tryz.func87, Tryz.ntmps87
  go_wp2_with (first
    | (go_at_call 111; have _t := tok1; clear _t; go_loud ((refine (put_at _ [] _ _ r 4 4 _ (.inl ⟨rfl, rfl⟩) rfl rfl (by simp) (by simp) (by omega) (by omega) (by have := HR.out; omega)).mono ?_); rintro e W1 ⟨g1, cap1, junk1, rfl, hl1, hc1, hj1, hm1, hg1, hb1, hbl⟩; replace H := H.add (Fix.of_below hbl _) (blk g1 _) hb1 (fun k hk => by rw [show k = g1 from hk]; exact hg1) (fun k hk => hk.elim); clear hb1 hbl tok1; simp only [List.nil_append] at H hl1 hj1))
    | (go_at_call 111; go_loud ((refine (put_at _ (Lib.leBytes 4 r) _ _ v 8 12 _ (argS_front (H.at 8 rfl) hl1 hc1) rfl rfl (by rw [hl1]) (by rw [hl1]; omega) (by omega) (by omega) HV.out).mono ?_); rintro e W2 ⟨g2, cap2, junk2, rfl, hl2, hc2, hj2, hm2, hg2, hb2, hbl⟩; replace H := (H.take 8).add (Fix.of_below hbl _) (blk g2 _) hb2 (fun k hk => by rw [show k = g2 from hk]; exact hg2) (fun k hk => hk.elim); clear hb2 hbl))
    | (refine wpList_appz_st H 8 rfl _ _ 22 3 rfl _ Tryz.underlying22 _ Tryz.underlying3 _ _ info_u8 rfl rfl g2 12 cap2 rfl _ rfl hc2 hj2 hm2 _ 236 rfl (by omega) (by simp only [maxLen]; omega) (by omega) ?_; clear H; intro W g5 cap5 junk5 H hj5 hc5 hm5; replace H := H.take 8; replace H : St O R w _ (s.L ++ [errA]) := H)
    | (go_at_call 17; go_loud ((refine (twrite_over (t := s.t) (x := s.x) H.bundle HT.out HX.out _ _).mono ?_); rintro e W ⟨rfl, hto⟩; replace H := (hto.front (R := []) (by rw [List.append_nil]; exact H)).take 8; clear hto)))
  go_ret
  exact ⟨rfl, H.bunTo⟩

theorem Format_over {w : World} {s : TX} {c : Nat} (hb : Bundle w (s.L ++ [errA])) (h : s.t.Ok c) (ho : s.x.over = true) :
    Calls Tryz.prog 48 #[.pointer (some ⟨s.g, 0, none⟩)] w fun e w' => e = .returned (.int .i64 15) ∧ BunTo w (ownL (s.L ++ [errA])) (rdL (s.L ++ [errA])) (s.L ++ [errA]) w' := by
  have H := hb.open_
  have HT := Lib.hid h
  have HX := Lib.hid ho
  clear hb h ho
  go_enter Tryz.func48, Tryz.ntmps48
  go_wp2_with (first
    | (go_at_call 87; go_loud ((refine (SetRoot_over (s := s) H.bundle HT.out HX.out _ _ 0 1 rfl rfl (by omega) (by omega)).mono ?_); rintro e W ⟨rfl, hto⟩; replace H := hto.front (R := []) (by rw [List.append_nil]; exact H); clear hto; rw [List.append_nil] at H)))
  go_ret
  exact ⟨rfl, H.bunTo⟩

theorem Free_over {w : World} {s : TX} {c : Nat} (hb : Bundle w (s.L ++ [errA])) (h : s.t.Ok c) (ho : s.x.over = true) (z : Int) :
    Calls Tryz.prog 78 #[.pointer (some ⟨s.g, 0, none⟩), .int .i64 z] w fun e w' => e = .returned (.int .i64 15) ∧ BunTo w (ownL (s.L ++ [errA])) (rdL (s.L ++ [errA])) (s.L ++ [errA]) w' := by
  have H := hb.open_
  have HT := Lib.hid h
  have HX := Lib.hid ho
  clear hb h ho
  go_enter Tryz.func78, Tryz.ntmps78
  go_wp2_with (first
    | (go_at_call 19; go_loud ((refine (tread_over (t := s.t) (x := s.x) H.bundle HT.out HX.out _).mono ?_); rintro e W ⟨rfl, hto⟩; replace H := hto.front (R := []) (by rw [List.append_nil]; exact H); clear hto; rw [List.append_nil] at H)))
  go_ret
  exact ⟨rfl, H.bunTo⟩

/-- It wrote the first two homes at most. -/
def TX.Few (s : TX) : Prop := ∀ k, 2 ≤ k → k < s.n → (s.V k).2 = false

theorem filter_few (p : Nat → Bool) : ∀ n, (∀ k, 2 ≤ k → k < n → p k = false) → ((List.range n).filter p).length ≤ min n 2
  | 0, _ => by simp
  | n + 1, h => by
    have ih := filter_few p n (fun k a b => h k a (by omega))
    rw [List.range_succ, List.filter_append, List.length_append]
    rcases Nat.lt_or_ge n 2 with h2 | h2
    · have : ([n].filter p).length ≤ 1 := List.length_filter_le p [n]
      omega
    · have : [n].filter p = [] := by simp [h n h2 (by omega)]
      rw [this]; simp only [List.length_nil]; omega

theorem TX.Few.keys {s : TX} {c : Nat} (h : s.Few) (hc : s.Ok c) : (keysOf s.x.f s.x.n).length ≤ 2 := by
  have := filter_few (fun k => (s.x.f k).isSome) s.x.n (fun k a b => h k a (by rw [hc.n] at b; exact b))
  unfold keysOf
  omega

theorem TX.Few.to {s s' : TX} {c : Nat} {v' : Nat → List UInt8 × Bool} (h : s.Few) (hs : s.To s' c v') (hv : ∀ k, 2 ≤ k → v' k = s.V k) : s'.Few := fun k a b => by
  rw [hs.n] at b
  rw [hs.V k b, hv k a]
  exact h k a b

theorem updV_up (v : Nat → List UInt8 × Bool) (i : Nat) (l : List UInt8) (hi : i < 2) (k : Nat) (hk : 2 ≤ k) : updV v i l k = v k := by
  unfold updV
  rw [if_neg (by omega)]

theorem commit_TX {w : World} {s : TX} {c : Nat} (hb : Bundle w (s.L ++ [errA])) (h : s.Ok c) (hc : c < 400) (hk : (keysOf s.x.f s.x.n).length < 24) (hr : s.t.X.ring = 24) :
    Calls Tryz.prog 20 #[.pointer (some ⟨s.g, 0, none⟩)] w fun e w' => e = .returned (.int .i64 0) ∧ ∃ t' : LogT, t'.Ok (c + 1) ∧ t'.n = s.n ∧ t'.X.ring = 24 ∧ (∀ k, k < s.n → t'.hom k = s.v k) ∧
      BunTo w (ownL (s.L ++ [errA])) (rdL (s.L ++ [errA])) (t'.L s.x.gl ++ s.x.done.L s.g ++ [errA]) w' := by
  refine (tcommit_calls (t := s.t) (x := s.x) hb h.ok hc h.over h.n).mono ?_
  rintro e w' ⟨rfl, t', hco, hto⟩
  have hcond : (keysOf s.x.f s.x.n).length ≤ 119 ∧ (keysOf s.x.f s.x.n).length < s.t.X.ring := by rw [hr]; omega
  refine ⟨?_, t', hco.ok, hco.n, hco.ring.trans hr, fun k hk => ?_, hto⟩
  · unfold commitC; rw [if_pos hcond]
  · rw [hco.hom k hk, if_pos hcond]; rfl

theorem abort_TX {w : World} {s : TX} (hb : Bundle w s.L) :
    Calls Tryz.prog 21 #[.pointer (some ⟨s.g, 0, none⟩)] w fun e w' => e = .returned (.tuple #[]) ∧ BunTo w (ownL s.L) (rdL s.L) (s.t.L s.x.gl ++ s.x.done.L s.g) w' := by
  have H := hb.open_
  obtain ⟨O, hO⟩ : ∃ O, ownL s.L = O := ⟨_, rfl⟩
  obtain ⟨R, hR⟩ : ∃ R, rdL s.L = R := ⟨_, rfl⟩
  rw [hO, hR] at H ⊢
  have H1 := St.rotate (A := s.t.L s.x.gl) (B := s.x.L s.g) H
  refine (tabort_calls (x := s.x) (g := s.g) (H1.take 3).bundle).mono ?_
  rintro e w' ⟨rfl, hto⟩
  exact ⟨rfl, St.bunTo (St.rotate (hto.front (R := s.t.L s.x.gl) H1))⟩

/-- A transaction that is new, on a log that is fine. -/
theorem TX.begun_ok {t : LogT} {c n : Nat} (ht : t.Ok c) (hn : t.n = n) (hl : ∀ k, k < n → (t.hom k).length = 248) (gl gm g : Nat) : TX.Ok ⟨t, TxT.new gl gm n, g⟩ c ∧ (∀ k, TX.V ⟨t, TxT.new gl gm n, g⟩ k = (t.hom k, false)) :=
  ⟨⟨ht, rfl, hn.symm, fun k hk => hl k (by rw [← hn]; exact hk)⟩, fun k => rfl⟩

/-- The last one goes to i's place. -/
theorem St.moveTo {M0 R0 : Nat → Prop} {w0 W : World} {L : List Asrt} {A : Asrt} (H : St M0 R0 w0 W (L ++ [A])) (i : Nat) (hi : i < L.length) : St M0 R0 w0 W (L.set i A) := by
  refine H.pick (fun m => if m = i then L.length else m) ?_ ?_
  · intro m C hm
    show (L ++ [A])[if m = i then L.length else m]? = some C
    rw [List.getElem?_set] at hm
    by_cases e : i = m
    · subst e
      rw [if_pos rfl, if_pos hi] at hm
      rw [if_pos rfl]
      simp only [List.getElem?_append_right (Nat.le_refl _), Nat.sub_self]
      exact hm
    · rw [if_neg e] at hm
      rw [if_neg (fun x => e x.symm), List.getElem?_append_left (List.getElem?_eq_some_iff.1 hm).1]
      exact hm
  · intro m l hm hl
    rw [List.length_set] at hm hl
    show (if m = i then L.length else m) = (if l = i then L.length else l) → m = l
    split <;> split <;> omega

end Go.Proofs.YtlgciddnpinpbaaGreatDoor

namespace Go.Proofs.YtlgciddnpinpbaaGreatDoor
open Go.RowKit
set_option linter.unusedSimpArgs false
set_option linter.unusedVariables false
set_option maxRecDepth 40000

/-- How many homes n bytes need. -/
def longC (n : Nat) : Nat := max (n / 242 + min (n % 242) 1) 1

theorem Long_calls (z : Int) (n : Nat) (hz : max z 0 = (n : Int)) (h2 : -9223372036854775808 ≤ z) (hn : n ≤ 1099511627776) (w : World) : Calls Tryz.prog 72 #[.int .i64 z] w fun e w' => e = .returned (.int .i64 (longC n : Int)) ∧ w = w' := by
  obtain ⟨a, ha⟩ : ∃ a, n / 242 = a := ⟨_, rfl⟩
  obtain ⟨b, hb⟩ : ∃ b, n % 242 = b := ⟨_, rfl⟩
  obtain ⟨c, hc⟩ : ∃ c, min b 1 = c := ⟨_, rfl⟩
  obtain ⟨d, hd⟩ : ∃ d, max (a + c) 1 = d := ⟨_, rfl⟩
  have he : longC n = d := by unfold longC; rw [ha, hb, hc, hd]
  rw [he]
  have f1 : ((n : Int)).tdiv 242 = (a : Int) := by rw [Int.tdiv_eq_ediv_of_nonneg (by omega)]; omega
  have f2 : ((n : Int)).tmod 242 = (b : Int) := by rw [Int.tmod_eq_emod_of_nonneg (by omega)]; omega
  have f3 : min (b : Int) 1 = (c : Int) := by omega
  have f4 : max ((a : Int) + (c : Int)) 1 = (d : Int) := by omega
  have f5 : (a : Int) ≤ 1099511627776 := by omega
  have f6 : 0 ≤ (a : Int) := by omega
  have f7 : (c : Int) ≤ 1 := by omega
  have f8 : 0 ≤ (c : Int) := by omega
  have f9 : 0 ≤ (n : Int) := by omega
  clear ha hb hc hd he hn
  go_enter Tryz.func72, Tryz.ntmps72
  go_wp2
  go_ret
  exact ⟨rfl, rfl⟩

theorem refLong_calls (z : Int) (n : Nat) (hz : max z 0 = (n : Int)) (h2 : -9223372036854775808 ≤ z) (hn : n ≤ 1099511627776) (w : World) : Calls Tryz.prog 37 #[.int .i64 z] w fun e w' => e = .returned (.int .i64 (longC n : Int)) ∧ w = w' := by
  obtain ⟨d, hd⟩ : ∃ d, longC n = d := ⟨_, rfl⟩
  obtain ⟨a, ha⟩ : ∃ a : Int, (n : Int) + 242 - 1 = a := ⟨_, rfl⟩
  obtain ⟨q, hq⟩ : ∃ q : Int, a.tdiv 242 = q := ⟨_, rfl⟩
  have f4 : max q 1 = (d : Int) := by
    have : q = a / 242 := by rw [← hq, Int.tdiv_eq_ediv_of_nonneg (by omega)]
    unfold longC at hd
    omega
  have f5 : 0 ≤ q ∧ q ≤ 1099511627776 := by
    have : q = a / 242 := by rw [← hq, Int.tdiv_eq_ediv_of_nonneg (by omega)]
    omega
  have f6 := f5.1
  have f7 := f5.2
  rw [hd]
  have f9 : 0 ≤ (n : Int) := by omega
  have f10 : (n : Int) ≤ 1099511627776 := by omega
  clear hd hn f5
  go_enter Tryz.func37, Tryz.ntmps37
  go_wp2
  go_ret
  exact ⟨rfl, rfl⟩

/-- A chain, read from home next on: its homes, its bytes. -/
def walkC (v : Nat → List UInt8) (n : Nat) : Nat → Nat → List Nat → List UInt8 → Option (List Nat × List UInt8)
  | 0, next, hs, bs => if next = 0 then some (hs, bs) else none
  | fuel + 1, next, hs, bs => if next = 0 then some (hs, bs) else if next < 2 ∨ n ≤ next then none else
      if 242 < le (v next) 4 2 ∨ (le (v next) 0 4 ≠ 0 ∧ le (v next) 4 2 < 242) then none else walkC v n fuel (le (v next) 0 4) (hs ++ [next]) (bs ++ ((v next).drop 6).take (le (v next) 4 2))

theorem walkC_zero (v : Nat → List UInt8) (n fuel : Nat) (hs : List Nat) (bs : List UInt8) : walkC v n fuel 0 hs bs = some (hs, bs) := by cases fuel <;> simp [walkC]
theorem walkC_off {v : Nat → List UInt8} {n fuel next : Nat} {hs : List Nat} {bs : List UInt8} (h0 : next ≠ 0) (h : next < 2 ∨ n ≤ next ∨ fuel = 0) : walkC v n fuel next hs bs = none := by
  cases fuel with
  | zero => simp [walkC, h0]
  | succ f =>
    rw [walkC, if_neg h0, if_pos]
    rcases h with h | h | h
    · exact .inl h
    · exact .inr h
    · omega

section
variable {rest : List Oper} {ops : Array Oper} {o : Oper} {a : Act} {Q : Exit → Act → World → Prop} {M0 R0 : Nat → Prop} {w0 W : World} {L : List Asrt} {P : Program}
/-- []T{..} (in a region). -/
theorem wp_buildslice_st {K : Act → World → Prop} (H : St M0 R0 w0 W L) (T e : TypeId) (len : Nat) (parts : Array (Nat × Operand)) (ho : o.op = .buildSlice T len parts)
    (hu : P.underlying T = some (.slice e)) (s : Nat) (hs : (P.info? e).map (·.size) = some s) (z : Value) (hz : (P.info? e).bind (·.zero) = some z) (hle : len * s ≤ 16777216) (h0 : ¬ len * s = 0)
    (vs : List (Nat × Value)) (hv : (parts.map fun (i, x) => (i, a.eval x)).toList = vs) (cells : Array Value)
    (hf : Instr.fill (fun i => some (i * s, s)) ((Array.range (len * s)).map (z.cells[· % z.cells.size]!)) vs = some cells)
    (h : ∀ W' g, St M0 R0 w0 W' (L ++ [blk g (.cells cells e)]) → K (a.put o.dst (.slice (some ⟨g, 0, none⟩) len len)) W') : o.wp P a W K Q := by
  have h' := h _ _ (H.alloc (.cells cells e))
  cases hq : P.info? e with
  | none => simp [hq] at hs
  | some j =>
    have hj : j.size = s := by simpa [hq] using hs
    have hjz : j.zero = some z := by simpa [hq] using hz
    have hrun : (Instr.buildSlice T len (parts.map fun (i, x) => (i, a.eval x))).run P W = .ok (.slice (some ⟨W.heap.size, 0, none⟩) len len) (W.alloc (.cells cells e)) := by
      unfold Instr.buildSlice
      simp only [Sem.run_bind, run_underlying hu W, Result.andThen_ok, sizeOf, typeInfo, hq, run_program, Sem.run_pure, hj]
      rw [if_neg (by omega)]
      simp only [Sem.run_pure, Result.andThen_ok, if_neg h0, Sem.run_bind, zeroValue, typeInfo, hq, run_program, hjz, hv, hf]
      simp [newRow, Result.andThen]
    unfold Oper.wp execOp
    simp only [ho, Sem.run_bind, hrun, Result.andThen_ok, Sem.run_pure]
    exact h'

/-- append of a slice of no elements: nothing is turned. -/
theorem wp_append_zero {K : Act → World → Prop} (s x : Operand) (T : TypeId) (ho : o.op = .call { callee := .builtin .append, args := #[s, x], argTypes := #[T, T] }) (e : TypeId) (ht : P.underlying T = some (.slice e)) (hsz : (P.info? e).map (·.size) = some 1)
    (p : Option Addr) (n cap : Nat) (hs : a.eval s = .slice p n cap) (hn : n ≤ cap) (q : Option Addr) (c : Nat) (hx : a.eval x = .slice q 0 c) (h : K (a.put o.dst (.slice p n cap)) W) : o.wp P a W K Q := by
  cases hq : P.info? e with
  | none => simp [hq] at hsz
  | some i =>
    have hrun : (Builtin.append_ #[T, T] o.type #[.slice p n cap, .slice q 0 c]).run P W = .ok (.slice p n cap) W := by
      cases q with
      | none => cases p <;> simp [Builtin.append_, run_underlying ht, sizeOf, typeInfo, hq, Builtin.lenOf, Builtin.firstCells, hn, storeCells]
      | some ad =>
        have hl := run_loadCells_list (P := P) W ad [] (fun j v hj => by simp at hj)
        simp only [List.length_nil] at hl
        cases p <;> simp [Builtin.append_, run_underlying ht, sizeOf, typeInfo, hq, Builtin.lenOf, Builtin.firstCells, hn, storeCells, hl, Result.andThen]
    unfold Oper.wp execOp
    simp only [ho, resolve, invoke, builtin, Sem.run_bind, Sem.run_pure, Result.andThen_ok, List.map_toArray, List.map_cons, List.map_nil, hs, hx, hrun]
    exact h
end

/-- How long a slice is. -/
def lenV : Value → Nat
  | .slice _ n _ => n
  | _ => 0

theorem le_lt4 (l : List UInt8) (h : l.length = 248) : le l 0 4 < 4294967296 := by
  unfold le
  have := leNat_lt' ((l.drop 0).take 4)
  rw [List.length_take, List.length_drop, h] at this
  simpa using this
theorem le_lt2 (l : List UInt8) (h : l.length = 248) : le l 4 2 < 65536 := by
  unfold le
  have := leNat_lt' ((l.drop 4).take 2)
  rw [List.length_take, List.length_drop, h] at this
  simpa using this

theorem info_int : (Tryz.prog.info? 3).map (fun i => (i.zero, i.size, i.bytes)) = some (some (.int .i64 0), 1, 8) := by kernel_rfl
theorem zero_i64 : (Tryz.prog.info? 3).bind (·.zero) = some (.int .i64 0) := by kernel_rfl
theorem size_int : (Tryz.prog.info? 3).map (·.size) = some 1 := by kernel_rfl
theorem fill_int (n : Int) : Instr.fill (fun i => some (i * 1, 1)) ((Array.range (1 * 1)).map ((Value.int .i64 0).cells[· % (Value.int .i64 0).cells.size]!)) [(0, .int .i64 n)] = some #[.int .i64 n] := by kernel_rfl

end Go.Proofs.YtlgciddnpinpbaaGreatDoor

namespace Go.Proofs.YtlgciddnpinpbaaGreatDoor
open Go.RowKit
set_option linter.unusedSimpArgs false
set_option linter.unusedVariables false
set_option maxRecDepth 100000

def intsV (hs : List Nat) : List Value := hs.map fun k : Nat => Value.int .i64 (k : Int)

/-- What gets answers. -/
def GetsPost (s : TX) (w : World) (own rd : Nat → Prop) (R : Option (List Nat × List UInt8)) (e : Ending) (w' : World) : Prop :=
  (∃ hs bs p1 c1 p2 c2, R = some (hs, bs) ∧ e = .returned (.tuple #[.slice p1 hs.length c1, .slice p2 bs.length c2, .nilIface]) ∧
    BunTo w own rd (s.L ++ [ownS 3 1 p1 hs.length c1 (intsV hs), ownS 5 1 p2 bs.length c2 (byteV bs)]) w') ∨
  (R = none ∧ ∃ ge, e = .returned (.tuple #[.slice none 0 0, .slice none 0 0, partVC ge]) ∧ ErrC w' ge 16 ∧ BunTo w own rd s.L w')

theorem gets_arg {w : World} {s : TX} {c : Nat} (hb : Bundle w s.L) (h : s.Ok c) (z : Int) (first : Nat) (hz : (first : Int) = z) (hlt : first < 4294967296) (hf : first < 2 ∨ s.n ≤ first) :
    Calls Tryz.prog 73 #[.pointer (some ⟨s.g, 0, none⟩), .int .u32 z] w fun e w' => ∃ ge, e = .returned (.tuple #[.slice none 0 0, .slice none 0 0, partVC ge]) ∧ ErrC w' ge 1 ∧ BunTo w (ownL s.L) (rdL s.L) s.L w' := by
  subst hz
  have H := hb.open_
  obtain ⟨O, hO⟩ : ∃ O, ownL s.L = O := ⟨_, rfl⟩
  obtain ⟨R0, hR0⟩ : ∃ R, rdL s.L = R := ⟨_, rfl⟩
  rw [hO, hR0] at H ⊢
  have HO := Lib.hid h
  have H0 := Lib.hid (show 0 < s.n by have := h.nn; omega)
  have hf0 : 0 ≤ (first : Int) := by omega
  have hf9 : (first : Int) < 4294967296 := by omega
  clear hb h hO hR0 hlt
  by_cases h2 : first < 2
  · have f1 : decide ((first : Int) < 2) = true := decide_eq_true (by omega)
    clear hf h2
    go_enter Tryz.func73, Tryz.ntmps73
    go_wp2_with (first
      | (go_at_call 19; go_loud ((refine (rd_TX (s := s) H.bundle HO.out _ 0 rfl H0.out).mono ?_); rintro e W ⟨gc0, off0, cap0, rfl, _, _, _, hto⟩; replace H := (hto.front (R := []) (by rw [List.append_nil]; exact H)).take 7; clear hto; replace H : St O R0 w _ s.L := H))
      | (go_at_call 108; go_loud ((refine (bad_noC 1 rfl _).mono ?_); rintro e W ⟨ge, rfl, hge, hbl⟩; replace H := H.stay (Fix.of_below hbl _); unfold partVC)))
    go_ret3
    exact ⟨ge, rfl, hge, H.bunTo⟩
  · have f1 : decide ((first : Int) < 2) = false := decide_eq_false (by omega)
    have f2 : s.n ≤ first := by omega
    have f3 : (s.n : Int) ≤ (first : Int) := by omega
    clear hf h2
    go_enter Tryz.func73, Tryz.ntmps73
    go_wp2_with (first
      | (go_at_call 19; go_loud ((refine (rd_TX (s := s) H.bundle HO.out _ 0 rfl H0.out).mono ?_); rintro e W ⟨gc0, off0, cap0, rfl, _, _, _, hto⟩; replace H := (hto.front (R := []) (by rw [List.append_nil]; exact H)).take 7; clear hto; replace H : St O R0 w _ s.L := H))
      | (go_at_call 27; go_loud ((refine (homes_TX (s := s) H.bundle HO.out rfl).mono ?_); rintro e W ⟨rfl, hto⟩; replace H := hto.front (R := []) (by rw [List.append_nil]; exact H); rw [List.append_nil] at H; clear hto))
      | (go_at_call 108; go_loud ((refine (bad_noC 1 rfl _).mono ?_); rintro e W ⟨ge, rfl, hge, hbl⟩; replace H := H.stay (Fix.of_below hbl _); unfold partVC)))
    go_ret3
    exact ⟨ge, rfl, hge, H.bunTo⟩

theorem drop_cell {W : World} {g off : Nat} {l : List UInt8} (h : BytesAt W g off l) (d k : Nat) {j : Nat} {u : Value} (hu : (byteV ((l.drop d).take k))[j]? = some u) : W.cell? ⟨g, off + d + j, none⟩ = some u := by
  rw [byteV_get, List.getElem?_take] at hu
  split at hu
  · rw [List.getElem?_drop] at hu
    cases hx : l[d + j]? with
    | none => rw [hx] at hu; cases hu
    | some b =>
      rw [hx] at hu
      cases hu
      rw [Nat.add_assoc]
      exact h.cellv hx
  · cases hu

theorem ownS_cap {W : World} {e : TypeId} {s : Nat} {p : Option Addr} {n cap : Nat} {xs : List Value} (h : (ownS e s p n cap xs).prop W) : n ≤ cap := by
  rcases h.2 with ⟨e1, h0⟩ | ⟨g, cap', cur, e1, hb, hg, h3, h4, h5, h6⟩
  · omega
  · cases e1; omega

set_option maxHeartbeats 16000000 in
theorem gets_in {w : World} {s : TX} {c : Nat} (hb : Bundle w s.L) (h : s.Ok c) (z : Int) (first : Nat) (hz : (first : Int) = z) (hlt : first < 4294967296) (h2 : 2 ≤ first) (hn : first < s.n) (R : Option (List Nat × List UInt8)) (hR : walkC s.v s.n 40 first [] [] = R) :
    Calls Tryz.prog 73 #[.pointer (some ⟨s.g, 0, none⟩), .int .u32 z] w (GetsPost s w (ownL s.L) (rdL s.L) R) := by
  subst hz
  have H := hb.open_
  obtain ⟨O, hO⟩ : ∃ O, ownL s.L = O := ⟨_, rfl⟩
  obtain ⟨R0, hR0⟩ : ∃ R, rdL s.L = R := ⟨_, rfl⟩
  rw [hO, hR0] at H ⊢
  have HO := Lib.hid h
  have H0 := Lib.hid (show 0 < s.n by omega)
  have HR := Lib.hid hR
  have HNN := Lib.hid h.nn
  have HF9 := Lib.hid hlt
  have hf0 : 0 ≤ (first : Int) := by omega
  have hf9 : (first : Int) < 4294967296 := by omega
  have f1 : decide ((first : Int) < 2) = false := decide_eq_false (by omega)
  have f2 : ¬ s.n ≤ first := by omega
  have f3 : ¬ (s.n : Int) ≤ (first : Int) := by omega
  clear hb h hO hR0 hlt h2 hn hR
  go_enter Tryz.func73, Tryz.ntmps73
  go_upto_region 7 with (first
    | (go_at_call 19; go_loud ((refine (rd_TX (s := s) H.bundle HO.out _ 0 rfl H0.out).mono ?_); rintro e W ⟨gc0, off0, cap0, rfl, _, _, _, hto⟩; replace H := (hto.front (R := []) (by rw [List.append_nil]; exact H)).take 7; clear hto; replace H : St O R0 w _ s.L := H))
    | (go_at_call 27; go_loud ((refine (homes_TX (s := s) H.bundle HO.out rfl).mono ?_); rintro e W ⟨rfl, hto⟩; replace H := hto.front (R := []) (by rw [List.append_nil]; exact H); rw [List.append_nil] at H; clear hto)))
  replace H := (H.addNil 3 1).addNil 5 1
  replace H : St O R0 w _ (s.L ++ [ownS 3 1 none 0 0 [], ownS 5 1 none 0 0 []]) := H
  clear f1 f2 f3 hf9
  go_loopw [4, 5, 9] (fun hv bv u wr => ∃ (fuel next : Nat) (hs : List Nat) (bs : List UInt8) (p1 p2 : Option Addr) (c1 c2 : Nat), hv = .slice p1 hs.length c1 ∧ bv = .slice p2 bs.length c2 ∧ u = .int .i64 (next : Int) ∧ hs.length + fuel = 40 ∧ bs.length ≤ 242 * hs.length ∧ next < 4294967296 ∧ walkC s.v s.n fuel next hs bs = R ∧ St O R0 w wr (s.L ++ [ownS 3 1 p1 hs.length c1 (intsV hs), ownS 5 1 p2 bs.length c2 (byteV bs)])) (fun hv _ _ _ => 41 - lenV hv)
  case atStart => exact ⟨40, first, [], [], none, none, 0, 0, rfl, rfl, rfl, rfl, Nat.zero_le _, HF9.out, HR.out, H⟩
  case round =>
    clear H
    obtain ⟨fuel, next, hs, bs, p1, p2, c1, c2, rfl, rfl, rfl, hfu, hbl, hnx9, hwk, H⟩ := hrel
    have HFU := Lib.hid hfu
    have HBL := Lib.hid hbl
    have HLN := Lib.hid (show hs.length ≤ 40 by omega)
    have HNX9 := Lib.hid hnx9
    have hn0 : 0 ≤ (next : Int) := by omega
    have tok1 : True := trivial
    rcases Nat.eq_zero_or_pos next with hz | hz
    · subst hz
      have HW := Lib.hid ((walkC_zero s.v s.n fuel hs bs).symm.trans hwk)
      clear hwk hfu hbl hnx9
      go_wp2
      go_ret3
      exact .inl ⟨hs, bs, p1, c1, p2, c2, HW.out.symm, rfl, H.bunTo⟩
    · have hne : ¬ (next : Int) = 0 := by omega
      have hne2 : ((next : Int) == 0) = false := beq_eq_false_iff_ne.2 hne
      have hne3 : next ≠ 0 := by omega
      by_cases hoff : next < 2 ∨ s.n ≤ next ∨ fuel = 0
      · have HW := Lib.hid ((walkC_off hne3 hoff).symm.trans hwk)
        clear hwk hbl hnx9
        by_cases h2 : next < 2
        · have f1 : decide ((next : Int) < 2) = true := decide_eq_true (by omega)
          clear hoff h2 hfu
          go_wp2_with (first
            | (go_at_call 108; go_loud ((refine (bad_noC 16 rfl _).mono ?_); rintro e W ⟨ge, rfl, hge, hbl⟩; replace H := H.stay (Fix.of_below hbl _); unfold partVC)))
          go_ret3
          exact .inr ⟨HW.out.symm, ge, rfl, hge, (H.take 7).bunTo⟩
        · have f1 : decide ((next : Int) < 2) = false := decide_eq_false (by omega)
          by_cases h3 : s.n ≤ next
          · have f3 : (s.n : Int) ≤ (next : Int) := by omega
            clear hoff h2 hfu
            go_wp2_with (first
              | (go_at_call 27; go_loud ((refine (homes_TX (s := s) (H.take 7).bundle HO.out rfl).mono ?_); rintro e W ⟨rfl, hto⟩; replace H := hto.front (R := [ownS 3 1 p1 hs.length c1 (intsV hs), ownS 5 1 p2 bs.length c2 (byteV bs)]) H; clear hto))
              | (go_at_call 108; go_loud ((refine (bad_noC 16 rfl _).mono ?_); rintro e W ⟨ge, rfl, hge, hbl⟩; replace H := H.stay (Fix.of_below hbl _); unfold partVC)))
            go_ret3
            exact .inr ⟨HW.out.symm, ge, rfl, hge, (H.take 7).bunTo⟩
          · have f3 : ¬ (s.n : Int) ≤ (next : Int) := by omega
            have f4 : hs.length = 40 := by omega
            have HH := Lib.hid f4
            clear hoff h2 hfu
            rw [f4] at H ⊢
            clear f4
            go_wp2_with (first
              | (go_at_call 27; go_loud ((refine (homes_TX (s := s) (H.take 7).bundle HO.out rfl).mono ?_); rintro e W ⟨rfl, hto⟩; replace H := hto.front (R := [ownS 3 1 p1 40 c1 (intsV hs), ownS 5 1 p2 bs.length c2 (byteV bs)]) H; clear hto))
              | (go_at_call 108; go_loud ((refine (bad_noC 16 rfl _).mono ?_); rintro e W ⟨ge, rfl, hge, hbl⟩; replace H := H.stay (Fix.of_below hbl _); unfold partVC)))
            go_ret3
            exact .inr ⟨HW.out.symm, ge, rfl, hge, (H.take 7).bunTo⟩
      · obtain ⟨f, rfl⟩ : ∃ f, fuel = f + 1 := ⟨fuel - 1, by omega⟩
        have f1 : decide ((next : Int) < 2) = false := decide_eq_false (by omega)
        have f2 : ¬ s.n ≤ next := by omega
        have f3 : ¬ (s.n : Int) ≤ (next : Int) := by omega
        have f4 : ((hs.length : Int) == 40) = false := beq_eq_false_iff_ne.2 (by omega)
        have f5 : ¬ (hs.length = 40) := by omega
        have f6 : ¬ ((hs.length : Int) = 40) := by omega
        have HNX := Lib.hid (show next < s.n by omega)
        obtain ⟨l, hl⟩ : ∃ l, s.v next = l := ⟨_, rfl⟩
        have HL := Lib.hid hl
        have hll : l.length = 248 := by rw [← hl]; exact HO.out.lens next HNX.out
        have HLL := Lib.hid hll
        obtain ⟨nx, hto⟩ : ∃ nx, le l 0 4 = nx := ⟨_, rfl⟩
        obtain ⟨k, hk⟩ : ∃ k, le l 4 2 = k := ⟨_, rfl⟩
        have HTO := Lib.hid hto
        have HKK := Lib.hid hk
        have HTO9 := Lib.hid (show nx < 4294967296 by rw [← hto]; exact le_lt4 l hll)
        have hto0 : 0 ≤ (nx : Int) := by omega
        have HK9 := Lib.hid (show k < 65536 by rw [← hk]; exact le_lt2 l hll)
        have hk0 : 0 ≤ (k : Int) := by omega
        have hwk2 : (if 242 < k ∨ (nx ≠ 0 ∧ k < 242) then none else walkC s.v s.n f nx (hs ++ [next]) (bs ++ (l.drop 6).take k)) = R := by
          rw [walkC, if_neg hne3, if_neg (by omega), hl, hto, hk] at hwk
          exact hwk
        clear hwk hoff hl hll hto hk hfu hbl hnx9
        by_cases hk242 : 242 < k
        · rw [if_pos (.inl hk242)] at hwk2
          have HW := Lib.hid hwk2
          have g1 : decide (242 < (k : Int)) = true := decide_eq_true (by omega)
          clear hwk2 hk242
          go_wp2_with (first
            | (go_at_call 27; go_loud ((refine (homes_TX (s := s) (H.take 7).bundle HO.out rfl).mono ?_); rintro e W ⟨rfl, hto⟩; replace H := hto.front (R := [ownS 3 1 p1 hs.length c1 (intsV hs), ownS 5 1 p2 bs.length c2 (byteV bs)]) H; clear hto))
            | (go_at_call 19; go_loud ((refine (rd_TX (s := s) (H.take 7).bundle HO.out _ next rfl HNX.out).mono ?_); rintro e W ⟨gc, off, cap, rfl, _, hcap, hgc, hto⟩; replace H := hto.front2 (R := [ownS 3 1 p1 hs.length c1 (intsV hs), ownS 5 1 p2 bs.length c2 (byteV bs)]) H; clear hto; rw [HL.out] at H; have HT4 := Lib.hid (take4 gc off cap l 0 _ (ownB_bytes (H.at 9 rfl)) (by rw [HLL.out]; omega) (by rw [HLL.out]; exact hcap) (by rw [HLL.out]; omega)); have HT2 := Lib.hid (take2 gc off cap l 4 _ (ownB_bytes (H.at 9 rfl)) (by rw [HLL.out]; omega) (by rw [HLL.out]; exact hcap) (by rw [HLL.out]; omega)); rw [HLL.out] at HT4 HT2))
                        | (go_at_call 109; have _t := tok1; clear _t; go_loud ((refine HT4.out.mono ?_); rintro e W' ⟨rfl, rfl⟩; clear tok1; rw [show Lib.leNat ((l.drop 0).take 4) = nx from HTO.out]))
                        | (go_at_call 109; go_loud ((refine HT2.out.mono ?_); rintro e W' ⟨rfl, rfl⟩; rw [show Lib.leNat ((l.drop 4).take 2) = k from HKK.out]))
            | (go_at_call 108; go_loud ((refine (bad_noC 16 rfl _).mono ?_); rintro e W ⟨ge, rfl, hge, hbl⟩; replace H := H.stay (Fix.of_below hbl _); unfold partVC)))
          go_ret3
          exact .inr ⟨HW.out.symm, ge, rfl, hge, (H.take 7).bunTo⟩
        · have g1 : decide (242 < (k : Int)) = false := decide_eq_false (by omega)
          have HK242 := Lib.hid (show k ≤ 242 by omega)
          by_cases hbad : nx ≠ 0 ∧ k < 242
          · rw [if_pos (.inr hbad)] at hwk2
            have HW := Lib.hid hwk2
            have g2 : ¬ (nx : Int) = 0 := by omega
            have g3 : ((nx : Int) == 0) = false := beq_eq_false_iff_ne.2 g2
            have g4 : decide ((k : Int) < 242) = true := decide_eq_true (by omega)
            clear hwk2 hk242 hbad
            go_wp2_with (first
              | (go_at_call 27; go_loud ((refine (homes_TX (s := s) (H.take 7).bundle HO.out rfl).mono ?_); rintro e W ⟨rfl, hto⟩; replace H := hto.front (R := [ownS 3 1 p1 hs.length c1 (intsV hs), ownS 5 1 p2 bs.length c2 (byteV bs)]) H; clear hto))
              | (go_at_call 19; go_loud ((refine (rd_TX (s := s) (H.take 7).bundle HO.out _ next rfl HNX.out).mono ?_); rintro e W ⟨gc, off, cap, rfl, _, hcap, hgc, hto⟩; replace H := hto.front2 (R := [ownS 3 1 p1 hs.length c1 (intsV hs), ownS 5 1 p2 bs.length c2 (byteV bs)]) H; clear hto; rw [HL.out] at H; have HT4 := Lib.hid (take4 gc off cap l 0 _ (ownB_bytes (H.at 9 rfl)) (by rw [HLL.out]; omega) (by rw [HLL.out]; exact hcap) (by rw [HLL.out]; omega)); have HT2 := Lib.hid (take2 gc off cap l 4 _ (ownB_bytes (H.at 9 rfl)) (by rw [HLL.out]; omega) (by rw [HLL.out]; exact hcap) (by rw [HLL.out]; omega)); rw [HLL.out] at HT4 HT2))
                        | (go_at_call 109; have _t := tok1; clear _t; go_loud ((refine HT4.out.mono ?_); rintro e W' ⟨rfl, rfl⟩; clear tok1; rw [show Lib.leNat ((l.drop 0).take 4) = nx from HTO.out]))
                        | (go_at_call 109; go_loud ((refine HT2.out.mono ?_); rintro e W' ⟨rfl, rfl⟩; rw [show Lib.leNat ((l.drop 4).take 2) = k from HKK.out]))
              | (go_at_call 108; go_loud ((refine (bad_noC 16 rfl _).mono ?_); rintro e W ⟨ge, rfl, hge, hbl⟩; replace H := H.stay (Fix.of_below hbl _); unfold partVC)))
            go_ret3
            exact .inr ⟨HW.out.symm, ge, rfl, hge, (H.take 7).bunTo⟩
          · rw [if_neg (by omega)] at hwk2
            have HWK := Lib.hid hwk2
            have hg : ((nx : Int) = 0 ∧ ((nx : Int) == 0) = true) ∨ (¬ (nx : Int) = 0 ∧ ((nx : Int) == 0) = false ∧ decide ((k : Int) < 242) = false) := by
              by_cases ht : nx = 0
              · exact .inl ⟨by omega, by rw [ht]; rfl⟩
              · exact .inr ⟨by omega, beq_eq_false_iff_ne.2 (by omega), decide_eq_false (by omega)⟩
            have hk6 : (k : Int) ≤ 242 := by omega
            have HKL2 := Lib.hid (show ((l.drop 6).take k).length ≤ 242 by rw [List.length_take]; omega)
            clear hwk2 hk242 hbad
            rcases Nat.eq_zero_or_pos k with hk00 | hk00
            · have HKL := Lib.hid (show (l.drop 6).take k = [] by rw [hk00]; rfl)
              have HK00 := Lib.hid hk00
              clear hk00
              rcases hg with ⟨g2, g3⟩ | ⟨g2, g3, g4⟩
              all_goals
                go_upto_region 17 with (first
                  | (go_at_call 27; go_loud ((refine (homes_TX (s := s) (H.take 7).bundle HO.out rfl).mono ?_); rintro e W ⟨rfl, hto⟩; replace H := hto.front (R := [ownS 3 1 p1 hs.length c1 (intsV hs), ownS 5 1 p2 bs.length c2 (byteV bs)]) H; clear hto))
                  | (go_at_call 19; go_loud ((refine (rd_TX (s := s) (H.take 7).bundle HO.out _ next rfl HNX.out).mono ?_); rintro e W ⟨gc, off, cap, rfl, _, hcap, hgc, hto⟩; replace H := hto.front2 (R := [ownS 3 1 p1 hs.length c1 (intsV hs), ownS 5 1 p2 bs.length c2 (byteV bs)]) H; clear hto; rw [HL.out] at H; have HT4 := Lib.hid (take4 gc off cap l 0 _ (ownB_bytes (H.at 9 rfl)) (by rw [HLL.out]; omega) (by rw [HLL.out]; exact hcap) (by rw [HLL.out]; omega)); have HT2 := Lib.hid (take2 gc off cap l 4 _ (ownB_bytes (H.at 9 rfl)) (by rw [HLL.out]; omega) (by rw [HLL.out]; exact hcap) (by rw [HLL.out]; omega)); rw [HLL.out] at HT4 HT2))
                        | (go_at_call 109; have _t := tok1; clear _t; go_loud ((refine HT4.out.mono ?_); rintro e W' ⟨rfl, rfl⟩; clear tok1; rw [show Lib.leNat ((l.drop 0).take 4) = nx from HTO.out]))
                        | (go_at_call 109; go_loud ((refine HT2.out.mono ?_); rintro e W' ⟨rfl, rfl⟩; rw [show Lib.leNat ((l.drop 4).take 2) = k from HKK.out])))
                clear HT4 HT2
                have hw1 : IntKind.i64.wrap (k : Int) = (k : Int) := by have := HK9.out; rw [IntKind.wrap_i64]; omega
                have hw2 : IntKind.i64.wrap (6 + (k : Int)) = 6 + (k : Int) := by have := HK9.out; rw [IntKind.wrap_i64]; omega
                have hs1 : 6 + (k : Int) ≤ (cap : Int) := by omega
                have hs2 : (6 + (k : Int)).toNat = 6 + k := by omega
                replace H := H.drew
                refine wp_region_held_drew (S := fun _ => True) (by kernel_rfl) trivial (fun hHeld => ?_)
                (refine wpAnyH_take (i := 0) (v := ?_) rfl (by kernel_rfl) (by kernel_rfl) (by kernel_rfl) (fun _ _ _ h => h) (Or.inl ⟨by rfl, ?_⟩) (by assumption) ?_; rotate_left; focus (intro w hSw; (try dsimp only at hSw); go_simp; all_goals (with_reducible rfl))); (try simp only [Act.put, List.setIfInBounds_toArray, List.set_cons_zero, List.set_cons_succ, List.getElem_toArray, List.getElem_cons_succ, List.getElem_cons_zero])
                (refine wpAnyH_take (i := 1) (v := ?_) rfl (by kernel_rfl) (by kernel_rfl) (by kernel_rfl) (fun _ _ _ h => h) (Or.inl ⟨by rfl, ?_⟩) (by assumption) ?_; rotate_left; focus (intro w hSw; (try dsimp only at hSw); go_simp; all_goals (with_reducible rfl))); (try simp only [Act.put, List.setIfInBounds_toArray, List.set_cons_zero, List.set_cons_succ, List.getElem_toArray, List.getElem_cons_succ, List.getElem_cons_zero])
                (refine wpAnyH_take (i := 4) (v := ?_) rfl (by kernel_rfl) (by kernel_rfl) (by kernel_rfl) (fun _ _ _ h => h) (Or.inl ⟨by rfl, ?_⟩) (by assumption) ?_; rotate_left; focus (intro w hSw; (try dsimp only at hSw); go_simp; all_goals (with_reducible rfl))); (try simp only [Act.put, List.setIfInBounds_toArray, List.set_cons_zero, List.set_cons_succ, List.getElem_toArray, List.getElem_cons_succ, List.getElem_cons_zero])
                (refine wpAnyH_take (i := 5) (v := ?_) rfl (by kernel_rfl) (by kernel_rfl) (by kernel_rfl) (fun _ _ _ h => h) (Or.inl ⟨by rfl, ?_⟩) (by assumption) ?_; rotate_left; focus (intro w hSw; (try dsimp only at hSw); go_simp; all_goals (with_reducible rfl))); (try simp only [Act.put, List.setIfInBounds_toArray, List.set_cons_zero, List.set_cons_succ, List.getElem_toArray, List.getElem_cons_succ, List.getElem_cons_zero])
                (refine wpAnyH_take (i := 6) (v := ?_) rfl (by kernel_rfl) (by kernel_rfl) (by kernel_rfl) (fun _ _ _ h => h) (Or.inl ⟨by rfl, ?_⟩) (by assumption) ?_; rotate_left; focus (intro w hSw; (try dsimp only at hSw); go_simp; all_goals (with_reducible rfl))); (try simp only [Act.put, List.setIfInBounds_toArray, List.set_cons_zero, List.set_cons_succ, List.getElem_toArray, List.getElem_cons_succ, List.getElem_cons_zero])
                (refine wpAnyH_take (i := 7) (v := ?_) rfl (by kernel_rfl) (by kernel_rfl) (by kernel_rfl) (fun _ _ _ h => h) (Or.inl ⟨by rfl, ?_⟩) (by assumption) ?_; rotate_left; focus (intro w hSw; (try dsimp only at hSw); go_simp; all_goals (with_reducible rfl))); (try simp only [Act.put, List.setIfInBounds_toArray, List.set_cons_zero, List.set_cons_succ, List.getElem_toArray, List.getElem_cons_succ, List.getElem_cons_zero])
                (refine wpAnyH_take (i := 8) (v := ?_) rfl (by kernel_rfl) (by kernel_rfl) (by kernel_rfl) (fun _ _ _ h => h) (Or.inl ⟨by rfl, ?_⟩) (by assumption) ?_; rotate_left; focus (intro w hSw; (try dsimp only at hSw); go_simp; all_goals (with_reducible rfl))); (try simp only [Act.put, List.setIfInBounds_toArray, List.set_cons_zero, List.set_cons_succ, List.getElem_toArray, List.getElem_cons_succ, List.getElem_cons_zero])
                refine wpAnyH_take (i := 9) (v := .slice (some ⟨gc, off + 6, none⟩) k (cap - 6)) rfl (by kernel_rfl) (by kernel_rfl) (by kernel_rfl) (fun _ _ _ h => h) (Or.inl ⟨by rfl, fun w hSw => by go_simp; rw [if_pos (by omega), if_pos (by omega), if_neg (show ¬ cap = 6 by omega)]⟩) (by assumption) ?_
                (try simp only [Act.put, List.setIfInBounds_toArray, List.set_cons_zero, List.set_cons_succ, List.getElem_toArray, List.getElem_cons_succ, List.getElem_cons_zero])
                (refine wpAnyH_ready (rs := [2]) (by kernel_rfl) (by simp) (AllReadyH.cons rfl (fun K hK => ?_) AllReadyH.nil)); (rw [if_pos (by rfl)]); (refine wp_buildslice_st H 72 3 _ _ rfl Tryz.underlying72 _ size_int _ zero_i64 (by decide) (by decide) [(0, .int .i64 (next : Int))] (by simp [Act.eval]) _ (fill_int _) ?_; intro W2 gs H2; refine hK.out _ _ trivial (fun hHeld2 => ?_); clear hK K)
                (try simp only [Act.put, List.setIfInBounds_toArray, List.set_cons_zero, List.set_cons_succ, List.getElem_toArray, List.getElem_cons_succ, List.getElem_cons_zero])
                (refine wpAnyH_ready (rs := [3]) (by kernel_rfl) (by simp) (AllReadyH.cons rfl (fun K hK => ?_) AllReadyH.nil)); (rw [if_pos (by rfl)]); (refine wp_append_ownS H2 7 _ _ 72 rfl _ Tryz.underlying72 _ 1 8 info_int rfl (by omega) p1 hs.length c1 (by rfl) _ rfl _ 1 _ (by rfl) [.int .i64 (next : Int)] rfl (news_of_row (H2.at 10 rfl)) (by simp [Value.oneCell']) (by omega) (by have := HLN.out; simp only [maxLen]; omega) (by have := HLN.out; omega) ?_; intro W3 gq1 d1 H3; refine hK.out _ _ trivial (fun hHeld3 => ?_); clear hK K)
                (try simp only [Act.put, List.setIfInBounds_toArray, List.set_cons_zero, List.set_cons_succ, List.getElem_toArray, List.getElem_cons_succ, List.getElem_cons_zero])
                (refine wpAnyH_ready (rs := [10]) (by kernel_rfl) (by simp) (AllReadyH.cons rfl (fun K hK => ?_) AllReadyH.nil)); (rw [if_pos (by rfl)]); (refine wp_append_zero _ _ 22 rfl _ Tryz.underlying22 size_u8 p2 bs.length c2 (by rfl) (ownS_cap (H3.at 8 rfl)) (some ⟨gc, off + 6, none⟩) (cap - 6) (by rw [HK00.out]; rfl) ?_; have H4 := H3; clear H3; refine hK.out _ _ trivial (fun hHeld4 => ?_); clear hK K)
                (try simp only [Act.put, List.setIfInBounds_toArray, List.set_cons_zero, List.set_cons_succ, List.getElem_toArray, List.getElem_cons_succ, List.getElem_cons_zero])
                (refine wpAnyH_take (i := 11) (v := ?_) rfl (by kernel_rfl) (by kernel_rfl) (by kernel_rfl) (fun _ _ _ h => h) (Or.inl ⟨by rfl, ?_⟩) (by assumption) ?_; rotate_left; focus (intro w hSw; (try dsimp only at hSw); go_simp; all_goals (with_reducible rfl))); (try simp only [Act.put, List.setIfInBounds_toArray, List.set_cons_zero, List.set_cons_succ, List.getElem_toArray, List.getElem_cons_succ, List.getElem_cons_zero])
                (refine wpAnyH_take (i := 12) (v := ?_) rfl (by kernel_rfl) (by kernel_rfl) (by kernel_rfl) (fun _ _ _ h => h) (Or.inl ⟨by rfl, ?_⟩) (by assumption) ?_; rotate_left; focus (intro w hSw; (try dsimp only at hSw); go_simp; all_goals (with_reducible rfl))); (try simp only [Act.put, List.setIfInBounds_toArray, List.set_cons_zero, List.set_cons_succ, List.getElem_toArray, List.getElem_cons_succ, List.getElem_cons_zero])
                (refine wpAnyH_done (by kernel_rfl) ?_ _)
                clear hHeld hHeld2 hHeld3 hHeld4 hw1 hw2 hs1 hs2 H H2
                replace H4 : St O R0 w _ (s.L ++ [ownS 3 1 (some ⟨gq1, 0, none⟩) (hs.length + 1) d1 (intsV hs ++ [.int .i64 (next : Int)]), ownS 5 1 p2 bs.length c2 (byteV bs)]) := H4.take 9
                have hto9 : (nx : Int) < 4294967296 := by have := HTO9.out; omega
                go_wp2
                go_roundw
                case rel => exact ⟨f, nx, hs ++ [next], bs ++ (l.drop 6).take k, some ⟨gq1, 0, none⟩, p2, d1, c2, by rw [List.length_append]; rfl, by rw [HKL.out, List.append_nil], (by first | rfl | rw [g2]), by rw [List.length_append]; simp only [List.length_cons, List.length_nil]; have := HFU.out; omega, by have := HBL.out; have := HKL2.out; simp only [List.length_append, List.length_cons, List.length_nil]; omega, HTO9.out, HWK.out, by rw [HKL.out, List.append_nil, List.length_append, intsV, List.map_append]; exact H4⟩
                case measure => simp [lenV]; have := HLN.out; omega
            · have HKL := Lib.hid (show ((l.drop 6).take k).length = k by rw [List.length_take, List.length_drop, HLL.out]; have := HK242.out; omega)
              have HK0 := Lib.hid hk00
              clear hk00
              rcases hg with ⟨g2, g3⟩ | ⟨g2, g3, g4⟩
              all_goals
                go_upto_region 17 with (first
                  | (go_at_call 27; go_loud ((refine (homes_TX (s := s) (H.take 7).bundle HO.out rfl).mono ?_); rintro e W ⟨rfl, hto⟩; replace H := hto.front (R := [ownS 3 1 p1 hs.length c1 (intsV hs), ownS 5 1 p2 bs.length c2 (byteV bs)]) H; clear hto))
                  | (go_at_call 19; go_loud ((refine (rd_TX (s := s) (H.take 7).bundle HO.out _ next rfl HNX.out).mono ?_); rintro e W ⟨gc, off, cap, rfl, _, hcap, hgc, hto⟩; replace H := hto.front2 (R := [ownS 3 1 p1 hs.length c1 (intsV hs), ownS 5 1 p2 bs.length c2 (byteV bs)]) H; clear hto; rw [HL.out] at H; have HT4 := Lib.hid (take4 gc off cap l 0 _ (ownB_bytes (H.at 9 rfl)) (by rw [HLL.out]; omega) (by rw [HLL.out]; exact hcap) (by rw [HLL.out]; omega)); have HT2 := Lib.hid (take2 gc off cap l 4 _ (ownB_bytes (H.at 9 rfl)) (by rw [HLL.out]; omega) (by rw [HLL.out]; exact hcap) (by rw [HLL.out]; omega)); rw [HLL.out] at HT4 HT2))
                        | (go_at_call 109; have _t := tok1; clear _t; go_loud ((refine HT4.out.mono ?_); rintro e W' ⟨rfl, rfl⟩; clear tok1; rw [show Lib.leNat ((l.drop 0).take 4) = nx from HTO.out]))
                        | (go_at_call 109; go_loud ((refine HT2.out.mono ?_); rintro e W' ⟨rfl, rfl⟩; rw [show Lib.leNat ((l.drop 4).take 2) = k from HKK.out])))
                clear HT4 HT2
                have hw1 : IntKind.i64.wrap (k : Int) = (k : Int) := by have := HK9.out; rw [IntKind.wrap_i64]; omega
                have hw2 : IntKind.i64.wrap (6 + (k : Int)) = 6 + (k : Int) := by have := HK9.out; rw [IntKind.wrap_i64]; omega
                have hs1 : 6 + (k : Int) ≤ (cap : Int) := by omega
                have hs2 : (6 + (k : Int)).toNat = 6 + k := by omega
                replace H := H.drew
                refine wp_region_held_drew (S := fun _ => True) (by kernel_rfl) trivial (fun hHeld => ?_)
                (refine wpAnyH_take (i := 0) (v := ?_) rfl (by kernel_rfl) (by kernel_rfl) (by kernel_rfl) (fun _ _ _ h => h) (Or.inl ⟨by rfl, ?_⟩) (by assumption) ?_; rotate_left; focus (intro w hSw; (try dsimp only at hSw); go_simp; all_goals (with_reducible rfl))); (try simp only [Act.put, List.setIfInBounds_toArray, List.set_cons_zero, List.set_cons_succ, List.getElem_toArray, List.getElem_cons_succ, List.getElem_cons_zero])
                (refine wpAnyH_take (i := 1) (v := ?_) rfl (by kernel_rfl) (by kernel_rfl) (by kernel_rfl) (fun _ _ _ h => h) (Or.inl ⟨by rfl, ?_⟩) (by assumption) ?_; rotate_left; focus (intro w hSw; (try dsimp only at hSw); go_simp; all_goals (with_reducible rfl))); (try simp only [Act.put, List.setIfInBounds_toArray, List.set_cons_zero, List.set_cons_succ, List.getElem_toArray, List.getElem_cons_succ, List.getElem_cons_zero])
                (refine wpAnyH_take (i := 4) (v := ?_) rfl (by kernel_rfl) (by kernel_rfl) (by kernel_rfl) (fun _ _ _ h => h) (Or.inl ⟨by rfl, ?_⟩) (by assumption) ?_; rotate_left; focus (intro w hSw; (try dsimp only at hSw); go_simp; all_goals (with_reducible rfl))); (try simp only [Act.put, List.setIfInBounds_toArray, List.set_cons_zero, List.set_cons_succ, List.getElem_toArray, List.getElem_cons_succ, List.getElem_cons_zero])
                (refine wpAnyH_take (i := 5) (v := ?_) rfl (by kernel_rfl) (by kernel_rfl) (by kernel_rfl) (fun _ _ _ h => h) (Or.inl ⟨by rfl, ?_⟩) (by assumption) ?_; rotate_left; focus (intro w hSw; (try dsimp only at hSw); go_simp; all_goals (with_reducible rfl))); (try simp only [Act.put, List.setIfInBounds_toArray, List.set_cons_zero, List.set_cons_succ, List.getElem_toArray, List.getElem_cons_succ, List.getElem_cons_zero])
                (refine wpAnyH_take (i := 6) (v := ?_) rfl (by kernel_rfl) (by kernel_rfl) (by kernel_rfl) (fun _ _ _ h => h) (Or.inl ⟨by rfl, ?_⟩) (by assumption) ?_; rotate_left; focus (intro w hSw; (try dsimp only at hSw); go_simp; all_goals (with_reducible rfl))); (try simp only [Act.put, List.setIfInBounds_toArray, List.set_cons_zero, List.set_cons_succ, List.getElem_toArray, List.getElem_cons_succ, List.getElem_cons_zero])
                (refine wpAnyH_take (i := 7) (v := ?_) rfl (by kernel_rfl) (by kernel_rfl) (by kernel_rfl) (fun _ _ _ h => h) (Or.inl ⟨by rfl, ?_⟩) (by assumption) ?_; rotate_left; focus (intro w hSw; (try dsimp only at hSw); go_simp; all_goals (with_reducible rfl))); (try simp only [Act.put, List.setIfInBounds_toArray, List.set_cons_zero, List.set_cons_succ, List.getElem_toArray, List.getElem_cons_succ, List.getElem_cons_zero])
                (refine wpAnyH_take (i := 8) (v := ?_) rfl (by kernel_rfl) (by kernel_rfl) (by kernel_rfl) (fun _ _ _ h => h) (Or.inl ⟨by rfl, ?_⟩) (by assumption) ?_; rotate_left; focus (intro w hSw; (try dsimp only at hSw); go_simp; all_goals (with_reducible rfl))); (try simp only [Act.put, List.setIfInBounds_toArray, List.set_cons_zero, List.set_cons_succ, List.getElem_toArray, List.getElem_cons_succ, List.getElem_cons_zero])
                refine wpAnyH_take (i := 9) (v := .slice (some ⟨gc, off + 6, none⟩) k (cap - 6)) rfl (by kernel_rfl) (by kernel_rfl) (by kernel_rfl) (fun _ _ _ h => h) (Or.inl ⟨by rfl, fun w hSw => by go_simp; rw [if_pos (by omega), if_pos (by omega), if_neg (show ¬ cap = 6 by omega)]⟩) (by assumption) ?_
                (try simp only [Act.put, List.setIfInBounds_toArray, List.set_cons_zero, List.set_cons_succ, List.getElem_toArray, List.getElem_cons_succ, List.getElem_cons_zero])
                (refine wpAnyH_ready (rs := [2]) (by kernel_rfl) (by simp) (AllReadyH.cons rfl (fun K hK => ?_) AllReadyH.nil)); (rw [if_pos (by rfl)]); (refine wp_buildslice_st H 72 3 _ _ rfl Tryz.underlying72 _ size_int _ zero_i64 (by decide) (by decide) [(0, .int .i64 (next : Int))] (by simp [Act.eval]) _ (fill_int _) ?_; intro W2 gs H2; refine hK.out _ _ trivial (fun hHeld2 => ?_); clear hK K)
                (try simp only [Act.put, List.setIfInBounds_toArray, List.set_cons_zero, List.set_cons_succ, List.getElem_toArray, List.getElem_cons_succ, List.getElem_cons_zero])
                (refine wpAnyH_ready (rs := [3]) (by kernel_rfl) (by simp) (AllReadyH.cons rfl (fun K hK => ?_) AllReadyH.nil)); (rw [if_pos (by rfl)]); (refine wp_append_ownS H2 7 _ _ 72 rfl _ Tryz.underlying72 _ 1 8 info_int rfl (by omega) p1 hs.length c1 (by rfl) _ rfl _ 1 _ (by rfl) [.int .i64 (next : Int)] rfl (news_of_row (H2.at 10 rfl)) (by simp [Value.oneCell']) (by omega) (by have := HLN.out; simp only [maxLen]; omega) (by have := HLN.out; omega) ?_; intro W3 gq1 d1 H3; refine hK.out _ _ trivial (fun hHeld3 => ?_); clear hK K)
                (try simp only [Act.put, List.setIfInBounds_toArray, List.set_cons_zero, List.set_cons_succ, List.getElem_toArray, List.getElem_cons_succ, List.getElem_cons_zero])
                (refine wpAnyH_ready (rs := [10]) (by kernel_rfl) (by simp) (AllReadyH.cons rfl (fun K hK => ?_) AllReadyH.nil)); (rw [if_pos (by rfl)]); (refine wp_append_ownS H3 8 _ _ 22 rfl _ Tryz.underlying22 _ 1 1 info_u8 rfl (by omega) p2 bs.length c2 (by rfl) _ rfl ⟨gc, off + 6, none⟩ k (cap - 6) (by rfl) (byteV ((l.drop 6).take k)) (by rw [byteV_length, HKL.out, Nat.mul_one]) (fun j u hu => by rw [Addr.add_lit]; exact drop_cell (ownB_bytes (H3.at 9 rfl)) 6 k hu) (byteV_one _) HK0.out (by have := HBL.out; have := HLN.out; have := HK242.out; simp only [maxLen]; omega) (by have := HBL.out; have := HLN.out; have := HK242.out; omega) ?_; intro W4 gq2 d2 H4; clear H3; refine hK.out _ _ trivial (fun hHeld4 => ?_); clear hK K)
                (try simp only [Act.put, List.setIfInBounds_toArray, List.set_cons_zero, List.set_cons_succ, List.getElem_toArray, List.getElem_cons_succ, List.getElem_cons_zero])
                (refine wpAnyH_take (i := 11) (v := ?_) rfl (by kernel_rfl) (by kernel_rfl) (by kernel_rfl) (fun _ _ _ h => h) (Or.inl ⟨by rfl, ?_⟩) (by assumption) ?_; rotate_left; focus (intro w hSw; (try dsimp only at hSw); go_simp; all_goals (with_reducible rfl))); (try simp only [Act.put, List.setIfInBounds_toArray, List.set_cons_zero, List.set_cons_succ, List.getElem_toArray, List.getElem_cons_succ, List.getElem_cons_zero])
                (refine wpAnyH_take (i := 12) (v := ?_) rfl (by kernel_rfl) (by kernel_rfl) (by kernel_rfl) (fun _ _ _ h => h) (Or.inl ⟨by rfl, ?_⟩) (by assumption) ?_; rotate_left; focus (intro w hSw; (try dsimp only at hSw); go_simp; all_goals (with_reducible rfl))); (try simp only [Act.put, List.setIfInBounds_toArray, List.set_cons_zero, List.set_cons_succ, List.getElem_toArray, List.getElem_cons_succ, List.getElem_cons_zero])
                (refine wpAnyH_done (by kernel_rfl) ?_ _)
                clear hHeld hHeld2 hHeld3 hHeld4 hw1 hw2 hs1 hs2 H H2
                replace H4 : St O R0 w _ (s.L ++ [ownS 3 1 (some ⟨gq1, 0, none⟩) (hs.length + 1) d1 (intsV hs ++ [.int .i64 (next : Int)]), ownS 5 1 (some ⟨gq2, 0, none⟩) (bs.length + k) d2 (byteV bs ++ byteV ((l.drop 6).take k))]) := H4.take 9
                have hto9 : (nx : Int) < 4294967296 := by have := HTO9.out; omega
                go_wp2
                go_roundw
                case rel => exact ⟨f, nx, hs ++ [next], bs ++ (l.drop 6).take k, some ⟨gq1, 0, none⟩, some ⟨gq2, 0, none⟩, d1, d2, by rw [List.length_append]; rfl, by rw [List.length_append, HKL.out], (by first | rfl | rw [g2]), by rw [List.length_append]; simp only [List.length_cons, List.length_nil]; have := HFU.out; omega, by have := HBL.out; have := HKL2.out; simp only [List.length_append, List.length_cons, List.length_nil]; omega, HTO9.out, HWK.out, by rw [List.length_append, List.length_append, HKL.out, intsV, List.map_append, show byteV (bs ++ (l.drop 6).take k) = byteV bs ++ byteV ((l.drop 6).take k) by simp [byteV]]; exact H4⟩
                case measure => simp [lenV]; have := HLN.out; omega

end Go.Proofs.YtlgciddnpinpbaaGreatDoor

namespace Go.Proofs.YtlgciddnpinpbaaGreatDoor
open Go.RowKit
set_option linter.unusedSimpArgs false
set_option linter.unusedVariables false
set_option maxRecDepth 40000

/-- The homes that are free, rising. -/
def freeL (l : List UInt8) (n : Nat) : List Nat := (List.range n).filter fun i => !hasB l i
theorem leftOf_free (l : List UInt8) (n : Nat) : leftOf l n = (freeL l n).length := rfl
def turnsB (l : List UInt8) (hs : List Nat) : List UInt8 := hs.foldl turnB l
theorem turnsB_len (hs : List Nat) : ∀ l, (turnsB l hs).length = l.length := by
  induction hs with
  | nil => intro l; rfl
  | cons h hs ih => intro l; show (turnsB (turnB l h) hs).length = _; rw [ih, turnB_len]
theorem turnsB_snoc (l : List UInt8) (hs : List Nat) (h : Nat) : turnsB l (hs ++ [h]) = turnB (turnsB l hs) h := by simp [turnsB]

theorem freeL_lt {l : List UInt8} {n k : Nat} (h : k ∈ freeL l n) : 2 ≤ k ∧ k < n ∧ hasB l k = false := by
  obtain ⟨h1, h2⟩ := List.mem_filter.1 h
  have hk := List.mem_range.1 h1
  have hf : hasB l k = false := by simpa using h2
  refine ⟨?_, hk, hf⟩
  rcases Nat.lt_or_ge k 2 with h3 | h3
  · simp [hasB, h3] at hf
  · exact h3
theorem freeL_mem {l : List UInt8} {n k : Nat} (hk : k < n) (h : hasB l k = false) : k ∈ freeL l n := List.mem_filter.2 ⟨List.mem_range.2 hk, by simp [h]⟩

theorem range_sorted : ∀ n, (List.range n).Pairwise (· < ·) := fun n => List.pairwise_lt_range
theorem freeL_sorted (l : List UInt8) (n : Nat) : (freeL l n).Pairwise (· < ·) := (range_sorted n).filter _

theorem sorted_take_mem {L : List Nat} (hs : L.Pairwise (· < ·)) : ∀ (j : Nat) (h : j < L.length) (k : Nat), k ∈ L → k < L[j] → k ∈ L.take j := by
  intro j h k hk hlt
  obtain ⟨q, hq, rfl⟩ := List.mem_iff_getElem.1 hk
  have hqj : q < j := by
    rcases Nat.lt_or_ge q j with h1 | h1
    · exact h1
    · rcases Nat.eq_or_lt_of_le h1 with h2 | h2
      · subst h2; omega
      · have := List.pairwise_iff_getElem.1 hs j q h hq h2
        omega
  exact List.mem_iff_getElem.2 ⟨q, by rw [List.length_take]; omega, by rw [List.getElem_take]⟩

/-- Which are taken behind j of them. -/
theorem hasB_turns {l : List UInt8} (hl : l.length = 248) : ∀ (hs : List Nat), hs.Nodup → (∀ h ∈ hs, h < 1984 ∧ hasB l h = false) → ∀ k, 2 ≤ k → hasB (turnsB l hs) k = (hasB l k || decide (k ∈ hs)) := by
  intro hs
  induction hs generalizing l with
  | nil => intro _ _ k _; simp [turnsB]
  | cons h hs ih =>
    intro hnd hall k hk
    have hh := hall h List.mem_cons_self
    have hnd' := List.nodup_cons.1 hnd
    have h2 : 2 ≤ h := by
      rcases Nat.lt_or_ge h 2 with h3 | h3
      · have := hh.2; simp [hasB, h3] at this
      · exact h3
    show hasB (turnsB (turnB l h) hs) k = _
    rw [ih (by rw [turnB_len]; exact hl) hnd'.2 (fun q hq => by
      have hq2 := hall q (List.mem_cons_of_mem _ hq)
      have hqg : 2 ≤ q := by
        rcases Nat.lt_or_ge q 2 with h3 | h3
        · have := hq2.2; simp [hasB, h3] at this
        · exact h3
      refine ⟨hq2.1, ?_⟩
      rw [hasB_turn hl hh.1 hqg, if_neg (fun e : q = h => hnd'.1 (e ▸ hq))]
      exact hq2.2) k hk]
    rw [hasB_turn hl hh.1 hk]
    by_cases e : k = h
    · subst e
      rw [if_pos rfl, hh.2]
      simp
    · rw [if_neg e]
      simp [e]

theorem nodup_of_sorted {L : List Nat} (h : L.Pairwise (· < ·)) : L.Nodup := h.imp (fun h => Nat.ne_of_lt h)

/-- One home of a chain. -/
def linkB (next : Nat) (c : List UInt8) : List UInt8 := ((Lib.leBytes 4 next ++ Lib.leBytes 2 c.length) ++ c) ++ List.replicate (242 - c.length) 0
def chunkC (bs : List UInt8) (k : Nat) : List UInt8 := (bs.drop (k * 242)).take 242
theorem linkB_len (next : Nat) (c : List UInt8) (h : c.length ≤ 242) : (linkB next c).length = 248 := by
  simp [linkB, Lib.leBytes_length]; omega
theorem chunkC_le (bs : List UInt8) (k : Nat) : (chunkC bs k).length ≤ 242 := by simp [chunkC, List.length_take]; omega

theorem link_next (next : Nat) (c : List UInt8) (hn : next < 4294967296) : le (linkB next c) 0 4 = next := by
  have := le_at [] (Lib.leBytes 4 next) (Lib.leBytes 2 c.length ++ (c ++ List.replicate (242 - c.length) 0)) 0 4 next rfl rfl (by omega)
  simpa [linkB, List.append_assoc] using this
theorem link_size (next : Nat) (c : List UInt8) (hc : c.length ≤ 242) : le (linkB next c) 4 2 = c.length := by
  have := le_at (Lib.leBytes 4 next) (Lib.leBytes 2 c.length) (c ++ List.replicate (242 - c.length) 0) 4 2 c.length (Lib.leBytes_length 4 next) rfl (by omega)
  simpa [linkB, List.append_assoc] using this
theorem link_bytes (next : Nat) (c : List UInt8) : ((linkB next c).drop 6).take c.length = c := by
  have e : linkB next c = (Lib.leBytes 4 next ++ Lib.leBytes 2 c.length) ++ (c ++ List.replicate (242 - c.length) 0) := by simp [linkB, List.append_assoc]
  rw [e, List.drop_append_of_le_length (by simp [Lib.leBytes_length]), List.drop_of_length_le (by simp [Lib.leBytes_length]), List.nil_append, List.take_append_of_le_length (Nat.le_refl _), List.take_length]

/-- The homes behind j takes. -/
def takV (V : Nat → List UInt8 × Bool) (hs : List Nat) (j : Nat) (k : Nat) : List UInt8 × Bool := if k = 1 then (turnsB (V 1).1 (hs.take j), (V 1).2 || decide (0 < j)) else V k
theorem takV_zero (V : Nat → List UInt8 × Bool) (hs : List Nat) (k : Nat) : takV V hs 0 k = V k := by
  unfold takV
  split
  · rename_i e; subst e; simp [turnsB]
  · rfl
theorem takV_step (V : Nat → List UInt8 × Bool) (hs : List Nat) (j : Nat) (h : j < hs.length) (k : Nat) : updV (takV V hs j) 1 (turnB (takV V hs j 1).1 hs[j]) k = takV V hs (j + 1) k := by
  unfold updV
  by_cases e : k = 1
  · subst e
    rw [if_pos rfl]
    unfold takV
    rw [if_pos rfl, if_pos rfl, List.take_succ_eq_append_getElem h, turnsB_snoc]
    simp
  · rw [if_neg e]; unfold takV; rw [if_neg e, if_neg e]

/-- The homes behind j links. -/
def linksV (V : Nat → List UInt8 × Bool) (hs : List Nat) (bs : List UInt8) (j k : Nat) : List UInt8 × Bool :=
  if hs.idxOf k < j ∧ k ∈ hs then (linkB (hs.getD (hs.idxOf k + 1) 0) (chunkC bs (hs.idxOf k)), true) else V k
theorem linksV_zero (V : Nat → List UInt8 × Bool) (hs : List Nat) (bs : List UInt8) (k : Nat) : linksV V hs bs 0 k = V k := by
  unfold linksV; rw [if_neg (by omega)]
theorem linksV_step (V : Nat → List UInt8 × Bool) (hs : List Nat) (bs : List UInt8) (hnd : hs.Nodup) (j : Nat) (h : j < hs.length) (k : Nat) :
    updV (linksV V hs bs j) hs[j] (linkB (hs.getD (j + 1) 0) (chunkC bs j)) k = linksV V hs bs (j + 1) k := by
  unfold updV
  by_cases e : k = hs[j]
  · subst e
    rw [if_pos rfl]
    unfold linksV
    rw [hnd.idxOf_getElem j h, if_pos ⟨by omega, List.getElem_mem h⟩]
  · rw [if_neg e]
    unfold linksV
    by_cases hm : k ∈ hs
    · have hne : hs.idxOf k ≠ j := fun h1 => e (by
        have := List.getElem_idxOf (List.idxOf_lt_length_of_mem hm)
        subst h1
        exact this.symm)
      by_cases h2 : hs.idxOf k < j
      · rw [if_pos ⟨h2, hm⟩, if_pos ⟨by omega, hm⟩]
      · rw [if_neg (fun x => h2 x.1), if_neg (fun x => by have := x.1; omega)]
    · rw [if_neg (fun x => hm x.2), if_neg (fun x => hm x.2)]

end Go.Proofs.YtlgciddnpinpbaaGreatDoor

namespace Go.Proofs.YtlgciddnpinpbaaGreatDoor
open Go.RowKit
set_option linter.unusedSimpArgs false
set_option linter.unusedVariables false
set_option maxRecDepth 100000

theorem longC_pos (n : Nat) : 1 ≤ longC n := by unfold longC; omega
theorem longC_le (n : Nat) (h : n ≤ 9680) : longC n ≤ 40 := by unfold longC; omega
theorem longC_lt (n j : Nat) (h : j < longC n) (hn : 0 < n) : j * 242 < n := by unfold longC at h; omega

/-- What puts answers. -/
def PutsPost (s : TX) (c : Nat) (B : Asrt) (bs : List UInt8) (w : World) (own rd : Nat → Prop) (e : Ending) (w' : World) : Prop :=
  (longC bs.length ≤ (freeL (s.v 1) s.n).length ∧ ∃ hs, hs = (freeL (s.v 1) s.n).take (longC bs.length) ∧ e = .returned (.tuple #[.int .i64 ((hs.getD 0 0 : Nat) : Int), .nilIface]) ∧
    ∃ s', s.To s' c (linksV (takV s.V hs (longC bs.length)) hs bs (longC bs.length)) ∧ BunTo w own rd (s'.L ++ [B, errA]) w') ∨
  ((freeL (s.v 1) s.n).length < longC bs.length ∧ ∃ ge, e = .returned (.tuple #[.int .i64 0, partVC ge]) ∧ ErrC w' ge 9 ∧ ∃ s' v', s.To s' c v' ∧ (∀ k, k ≠ 1 → v' k = s.V k) ∧ BunTo w own rd (s'.L ++ [B, errA]) w')

theorem puts_long {w : World} {s : TX} {B : Asrt} {pb : Option Addr} {cb : Nat} {bs : List UInt8} (hl : 9680 < bs.length) (hl2 : bs.length ≤ 1099511627776) :
    Calls Tryz.prog 77 #[.pointer (some ⟨s.g, 0, none⟩), .slice pb bs.length cb] w fun e w' => ∃ ge, e = .returned (.tuple #[.int .i64 0, partVC ge]) ∧ ErrC w' ge 4 ∧ Below w.heap.size w w' := by
  have H := St.nil NoBlk NoBlk w
  have h1 : 9680 < (bs.length : Int) := by omega
  clear hl hl2
  go_enter Tryz.func77, Tryz.ntmps77
  go_wp2_with (first
    | (go_at_call 108; go_loud ((refine (bad_noC 4 rfl _).mono ?_); rintro e W ⟨ge, rfl, hge, hbl⟩; replace H := H.stay (Fix.of_below hbl _); unfold partVC)))
  refine bodyPost_ret (results_tmp2 rfl _ _ _) rfl ?_
  exact ⟨ge, rfl, hge, H.fix.below⟩

section
variable {rest : List Oper} {ops : Array Oper} {o : Oper} {a : Act} {Q : Exit → Act → World → Prop} {W : World} {P : Program}
theorem wpList_append_zero (hwt : Region.wanted o (yielded ops a.tmps) = true) (s x : Operand) (T : TypeId) (ho : o.op = .call { callee := .builtin .append, args := #[s, x], argTypes := #[T, T] }) (e : TypeId) (ht : P.underlying T = some (.slice e)) (hsz : (P.info? e).map (·.size) = some 1)
    (p : Option Addr) (n cap : Nat) (hs : a.eval s = .slice p n cap) (hn : n ≤ cap) (q : Option Addr) (c : Nat) (hx : a.eval x = .slice q 0 c) (h : wpList P ops Q rest (a.put o.dst (.slice p n cap)) W) : wpList P ops Q (o :: rest) a W :=
  wpList_want hwt fun _ hK => wp_append_zero s x T ho e ht hsz p n cap hs hn q c hx (hK _ _ h)
end

theorem chunk_get (bs : List UInt8) (q j : Nat) {u : Value} (h : (byteV (chunkC bs q))[j]? = some u) : (byteV bs)[q * 242 + j]? = some u := by
  rw [byteV_get] at h ⊢
  unfold chunkC at h
  rw [List.getElem?_take] at h
  split at h
  · rwa [List.getElem?_drop] at h
  · cases h

theorem take_two (a b junk : List Value) (n m : Nat) (ha : a.length = n) (hb : b.length = m) : (a ++ b ++ junk).take (n + m) = a ++ b := by
  rw [List.take_append_of_le_length (by rw [List.length_append]; omega), List.take_of_length_le (by rw [List.length_append]; omega)]

theorem link_cells (nx : Nat) (ch : List UInt8) (d : Nat) (hd : 242 - ch.length = d) : byteV (Lib.leBytes 4 nx ++ Lib.leBytes 2 ch.length) ++ byteV ch ++ List.replicate d (Value.int .u8 0) = byteV (linkB nx ch) := by
  subst hd
  simp [linkB, byteV]

set_option maxHeartbeats 16000000 in
theorem puts_calls {w : World} {s : TX} {c : Nat} {B : Asrt} (hb : Bundle w (s.L ++ [B, errA])) (h : s.Ok c) {pb : Option Addr} {cb : Nat} {bs : List UInt8} (hB : ∀ W, B.prop W → (rdA pb (byteV bs)).prop W) (hc : bs.length ≤ cb) (hl : bs.length ≤ 9680) :
    Calls Tryz.prog 77 #[.pointer (some ⟨s.g, 0, none⟩), .slice pb bs.length cb] w (PutsPost s c B bs w (ownL (s.L ++ [B, errA])) (rdL (s.L ++ [B, errA]))) := by
  have H := hb.open_
  obtain ⟨O, hO⟩ : ∃ O, ownL (s.L ++ [B, errA]) = O := ⟨_, rfl⟩
  obtain ⟨R0, hR0⟩ : ∃ R, rdL (s.L ++ [B, errA]) = R := ⟨_, rfl⟩
  rw [hO, hR0] at H ⊢
  have HO := Lib.hid h
  have HBB := Lib.hid hB
  have HNN := Lib.hid h.nn
  obtain ⟨l, hl1⟩ : ∃ l, s.v 1 = l := ⟨_, rfl⟩
  have HL1 := Lib.hid hl1
  have HLL := Lib.hid (show l.length = 248 by rw [← hl1]; exact h.lens 1 (by have := h.nn; omega))
  obtain ⟨F, hF⟩ : ∃ F, freeL l s.n = F := ⟨_, rfl⟩
  have HF := Lib.hid hF
  have HFS := Lib.hid (show F.Pairwise (· < ·) by rw [← hF]; exact freeL_sorted l s.n)
  have HFM := Lib.hid (show ∀ k, k ∈ F → 2 ≤ k ∧ k < s.n ∧ hasB l k = false by rw [← hF]; exact fun k hk => freeL_lt hk)
  have HFI := Lib.hid (show ∀ k, k < s.n → hasB l k = false → k ∈ F by rw [← hF]; exact fun k hk h2 => freeL_mem hk h2)
  obtain ⟨m, hm⟩ : ∃ m, longC bs.length = m := ⟨_, rfl⟩
  have HM := Lib.hid hm
  have HM1 := Lib.hid (show 1 ≤ m ∧ m ≤ 40 by rw [← hm]; exact ⟨longC_pos _, longC_le _ hl⟩)
  have hmi : (m : Int) ≤ 40 := by have := HM1.out; omega
  have hm0 : 1 ≤ (m : Int) := by have := HM1.out; omega
  have HBL := Lib.hid hl
  have HCB := Lib.hid hc
  have hbl : (bs.length : Int) ≤ 9680 := by omega
  have hbl2 : ¬ (9680 < (bs.length : Int)) := by omega
  clear hb h hO hR0 hB hl1 hF hm hl hc
  go_enter Tryz.func77, Tryz.ntmps77
  go_upto_region 5 with (first
    | (go_at_call 72; go_loud ((refine (Long_calls _ bs.length (by omega) (by omega) (by have := HBL.out; omega) _).mono ?_); rintro e W' ⟨rfl, rfl⟩; rw [HM.out])))
  replace H := H.addNil 3 1
  replace H : St O R0 w _ (s.L ++ [B, errA, ownS 3 1 none 0 0 (intsV (F.take 0))]) := H
  go_loopw [6, 22] (fun hv u wr => ∃ (j : Nat) (s1 : TX) (p : Option Addr) (cp : Nat), u = .int .i64 (j : Int) ∧ hv = .slice p j cp ∧ j ≤ m ∧ j ≤ F.length ∧ s.To s1 c (takV s.V F j) ∧ St O R0 w wr (s1.L ++ [B, errA, ownS 3 1 p j cp (intsV (F.take j))])) (fun _ u _ => m - (intOf u).toNat)
  case atStart => exact ⟨0, s, none, 0, rfl, rfl, Nat.zero_le _, Nat.zero_le _, ⟨HO.out, rfl, rfl, rfl, fun k _ => (takV_zero s.V F k).symm⟩, H⟩
  case round =>
    clear H
    obtain ⟨j, s1, p, cp, rfl, rfl, hjm, hjF, hto1, H⟩ := hrel
    have HT := Lib.hid hto1
    have hj0 : 0 ≤ (j : Int) := by omega
    have HG := Lib.hid hto1.g
    have HN := Lib.hid hto1.n
    have HV1 := Lib.hid (show s1.v 1 = turnsB l (F.take j) by
      rw [hto1.v 1 (by have := HNN.out; omega)]
      unfold takV
      rw [if_pos rfl]
      show turnsB (s.v 1) _ = _
      rw [HL1.out])
    have HHAS := Lib.hid (show ∀ k, 2 ≤ k → hasB (turnsB l (F.take j)) k = (hasB l k || decide (k ∈ F.take j)) from
      hasB_turns HLL.out (F.take j) ((nodup_of_sorted HFS.out).sublist (List.take_sublist _ _)) (fun q hq => by
        have hq3 := HFM.out q (List.mem_of_mem_take hq)
        have := HNN.out
        exact ⟨by omega, hq3.2.2⟩))
    clear hto1
    rcases Nat.lt_or_ge j m with hlt | hge
    · have hji : (j : Int) < (m : Int) := by omega
      have HJ := Lib.hid hlt
      clear hlt hjm
      rcases Nat.lt_or_ge j F.length with hjf | hjf
      · obtain ⟨x, hx⟩ : ∃ x, F[j]? = some x := ⟨_, List.getElem?_eq_getElem hjf⟩
        have hxm := List.mem_of_getElem? hx
        have hx3 := HFM.out x hxm
        obtain ⟨hxl, hxe⟩ := List.getElem?_eq_some_iff.1 hx
        have HX2 := Lib.hid (show 2 ≤ x from hx3.1)
        have HX3 := Lib.hid (show x < s1.n by rw [HN.out]; exact hx3.2.1)
        have HX4 := Lib.hid (show hasB (s1.v 1) x = false by
          rw [HV1.out, HHAS.out x hx3.1, hx3.2.2, Bool.false_or, decide_eq_false]
          intro hmem
          obtain ⟨q, hq, e⟩ := List.mem_iff_getElem.1 hmem
          rw [List.length_take] at hq
          rw [List.getElem_take] at e
          have := List.pairwise_iff_getElem.1 HFS.out q j (by omega) hxl (by omega)
          omega)
        have HX5 := Lib.hid (show ∀ k, 2 ≤ k → k < x → hasB (s1.v 1) k = true from fun k h2 hkx => by
          rw [HV1.out, HHAS.out k h2]
          cases hk : hasB l k with
          | true => rfl
          | false =>
            rw [Bool.false_or, decide_eq_true]
            exact sorted_take_mem HFS.out j hxl k (HFI.out k (by have := hx3.2.1; omega) hk) (by rw [hxe]; exact hkx))
        have HSTEP := Lib.hid (show ∀ s2 : TX, s1.To s2 c (updV s1.V 1 (turnB (s1.v 1) x)) → s.To s2 c (takV s.V F (j + 1)) from fun s2 h2 => HT.out.then 1 _ h2 (fun k hk => by
          rw [← takV_step s.V F j hxl k, hxe]
          have : (takV s.V F j 1).1 = s1.v 1 := (HT.out.v 1 (by have := HNN.out; omega)).symm
          rw [this]))
        have HTK := Lib.hid (show intsV (F.take j) ++ [.int .i64 (x : Int)] = intsV (F.take (j + 1)) by
          rw [List.take_succ_eq_append_getElem hxl, hxe]; simp [intsV])
        have HJF := Lib.hid (show j + 1 ≤ F.length by omega)
        have hx9 : (x : Int) < 1900 := by have := HNN.out; have := hx3.2.1; omega
        have hx0 : 0 ≤ (x : Int) := by omega
        clear hx hxm hx3 hxe hjf hjF hxl
        go_wp2_with (first
          | (go_at_call 110; rw [← HG.out]; go_loud ((refine (Take_ok (s := s1) (H.take 7).bundle HT.out.ok x HX2.out HX3.out HX4.out HX5.out).mono ?_); rintro e W ⟨rfl, s2, hs2, hto⟩; replace H := hto.front (R := [B, errA, ownS 3 1 p j cp (intsV (F.take j))]) H; clear hto))
          | (refine wpList_buildslice_st H rfl 72 3 _ _ rfl Tryz.underlying72 _ size_int _ zero_i64 (by decide) (by decide) [(0, .int .i64 (x : Int))] (by simp [Act.eval]) _ (fill_int _) ?_; clear H; intro W gs H)
          | (refine wpList_append_ownS H 9 rfl _ _ 72 rfl _ Tryz.underlying72 _ 1 8 info_int rfl (by omega) p j cp rfl _ rfl _ 1 _ rfl [.int .i64 (x : Int)] rfl (news_of_row (H.at 10 rfl)) (by simp [Value.oneCell']) (by omega) (by have := HJ.out; have := HM1.out; simp only [maxLen]; omega) (by have := HJ.out; have := HM1.out; omega) ?_; clear H; intro W gp capp H))
        replace H : St O R0 w _ (s2.L ++ [B, errA, ownS 3 1 (some ⟨gp, 0, none⟩) (j + 1) capp (intsV (F.take j) ++ [.int .i64 (x : Int)])]) := H.take 10
        rw [HTK.out] at H
        simp only [HG.out]
        go_roundw
        case rel => exact ⟨j + 1, s2, _, _, congrArg _ (by omega), rfl, HJ.out, HJF.out, HSTEP.out s2 hs2, H⟩
        case measure => have := HJ.out; simp [intOf]; omega
      · have HFULL := Lib.hid (show ∀ k, 2 ≤ k → k < s1.n → hasB (s1.v 1) k = true from fun k h2 hk => by
          rw [HV1.out, HHAS.out k h2]
          cases hk2 : hasB l k with
          | true => rfl
          | false =>
            rw [Bool.false_or, decide_eq_true]
            have := HFI.out k (by rw [← HN.out]; exact hk) hk2
            rwa [List.take_of_length_le hjf])
        have HLE := Lib.hid (show F.length < m by have := HJ.out; omega)
        clear hjf hjF
        go_wp2_with (first
          | (go_at_call 110; rw [← HG.out]; go_loud (replace H : St O R0 w _ ((s1.L ++ [errA, ownS 3 1 p j cp (intsV (F.take j))]) ++ [B]) := St.swap (A := s1.L) (E := [B]) (R := [errA, ownS 3 1 p j cp (intsV (F.take j))]) H; (refine (Take_full (s := s1) (H.take 8).bundle HT.out.ok HFULL.out).mono ?_); rintro e W ⟨rfl, hto⟩; replace H := hto.front (R := [ownS 3 1 p j cp (intsV (F.take j)), B]) H; clear hto))
          | (go_at_call 108; go_loud ((refine (bad_noC 9 rfl _).mono ?_); rintro e W ⟨ge, rfl, hge, hbl⟩; replace H := H.stay (Fix.of_below hbl _); unfold partVC)))
        refine bodyPost_ret (results_tmp2 rfl _ _ _) rfl ?_
        replace H : St O R0 w _ ((s1.L ++ [B]) ++ [errA, ownS 3 1 p j cp (intsV (F.take j))]) := St.swap (A := s1.L) (E := [errA, ownS 3 1 p j cp (intsV (F.take j))]) (R := [B]) H
        refine .inr ⟨by rw [HL1.out, HF.out, HM.out]; exact HLE.out, ge, rfl, hge, s1, _, HT.out, fun k hk => by unfold takV; rw [if_neg hk], ?_⟩
        exact St.bunTo (H.take 9)
    · obtain rfl : j = m := by omega
      have hji : ¬ ((j : Int) < (j : Int)) := by omega
      obtain ⟨hs, hhs⟩ : ∃ hs, F.take j = hs := ⟨_, rfl⟩
      have HHS := Lib.hid hhs
      have hsl : hs.length = j := by rw [← hhs, List.length_take]; omega
      have HSL := Lib.hid hsl
      have HND := Lib.hid (show hs.Nodup by rw [← hhs]; exact (nodup_of_sorted HFS.out).sublist (List.take_sublist _ _))
      have HSM := Lib.hid (show ∀ k, k ∈ hs → 2 ≤ k ∧ k < s.n from fun k hk => by have := HFM.out k (List.mem_of_mem_take (by rw [hhs]; exact hk)); omega)
      have HTT := Lib.hid (show s.To s1 c (takV s.V hs j) from ⟨HT.out.ok, HT.out.t, HT.out.g, HT.out.gl, fun k hk => by
        rw [HT.out.V k hk]
        unfold takV
        rw [← hhs, List.take_take, Nat.min_self]⟩)
      have HFL := Lib.hid (show j ≤ F.length from hjF)
      rw [hhs] at H
      clear hhs hsl hjF hjm hge HV1 HHAS
      obtain ⟨x0, hx0⟩ : ∃ x, hs[0]? = some x := ⟨_, List.getElem?_eq_getElem (by rw [HSL.out]; have := HM1.out; omega)⟩
      obtain ⟨gq, oq, rfl, _⟩ := rdA_at (ownS_rd (H.at 9 rfl)) (i := 0) (x := .int .i64 (x0 : Int)) (by simp [intsV, hx0])
      have HX0 := Lib.hid hx0
      clear hx0
      go_upto_region 12 with fail
      go_loopw [40] (fun u wr => ∃ (q : Nat) (s2 : TX), u = .int .i64 (q : Int) ∧ q ≤ j ∧ s.To s2 c (linksV (takV s.V hs j) hs bs q) ∧ St O R0 w wr (s2.L ++ [B, errA, ownS 3 1 (some ⟨gq, oq, none⟩) j cp (intsV hs)])) (fun u _ => j - (intOf u).toNat)
      case atStart => exact ⟨0, s1, rfl, Nat.zero_le _, ⟨HTT.out.ok, HTT.out.t, HTT.out.g, HTT.out.gl, fun k hk => by rw [linksV_zero]; exact HTT.out.V k hk⟩, H⟩
      case round =>
        clear H HT
        obtain ⟨q, s2, rfl, hq, hto2, H⟩ := hrel
        have HT := Lib.hid hto2
        have HG2 := Lib.hid hto2.g
        clear hto2
        have hq0 : 0 ≤ (q : Int) := by omega
        rcases Nat.lt_or_ge q j with hlt | hge
        · obtain ⟨x, hx⟩ : ∃ x, hs[q]? = some x := ⟨_, List.getElem?_eq_getElem (by rw [HSL.out]; exact hlt)⟩
          obtain ⟨hxl, hxe⟩ := List.getElem?_eq_some_iff.1 hx
          have hcell := rdA_cell (ownS_rd (H.at 9 rfl)) (i := q) (x := .int .i64 (x : Int)) (by simp [intsV, hx])
          have HXN := Lib.hid (show x < s2.n by rw [HT.out.n]; exact (HSM.out x (List.mem_of_getElem? hx)).2)
          have hx0 : 0 ≤ (x : Int) := by omega
          have HSTEP := Lib.hid (show ∀ s3 : TX, s2.To s3 c (updV s2.V x (linkB (hs.getD (q + 1) 0) (chunkC bs q))) → s.To s3 c (linksV (takV s.V hs j) hs bs (q + 1)) from fun s3 h3 => HT.out.then x _ h3 (fun k hk => by rw [← hxe]; exact linksV_step _ hs bs HND.out q hxl k))
          have HQ := Lib.hid hlt
          have hqi : (q : Int) < (j : Int) := by omega
          have hq40 : (q : Int) < 40 := by omega
          have tok1 : True := trivial
          clear hx hxe hxl
          rcases Nat.eq_zero_or_pos bs.length with hz | hz
          · have hj1 : j = 1 := by rw [← HM.out, hz]; rfl
            have hq00 : q = 0 := by omega
            have hbsn : bs = [] := List.eq_nil_of_length_eq_zero hz
            have HCK := Lib.hid (show chunkC bs q = [] by rw [hbsn]; simp [chunkC])
            have HNXD := Lib.hid (show hs.getD (q + 1) 0 = 0 by rw [List.getD_eq_getElem?_getD, List.getElem?_eq_none (by rw [HSL.out]; omega)]; rfl)
            have HC2 := Lib.hid (show 0 ≤ 242 by omega)
            have hqj : ¬ ((q : Int) + 1 < (j : Int)) := by omega
            have hqj2 : ¬ (q + 1 < j) := by omega
            have k1 : min ((q : Int) * 242) (bs.length : Int) = 0 := by omega
            have k2 : min (((q : Int) + 1) * 242) (bs.length : Int) = 0 := by omega
            clear hz hj1 hq00 hbsn
            cases pb with
            | none =>
              go_upto_region 18 with fail
              clear k1 k2 hcell
              go_wp2_with (first
                | (go_at_call 111; have _t := tok1; clear _t; go_loud ((refine (put_at _ [] _ _ 0 4 4 _ (.inl ⟨rfl, rfl⟩) rfl rfl (by simp) (by simp) (by omega) (by omega) (by omega)).mono ?_); rintro e W1 ⟨g1, cap1, junk1, rfl, hl1, hc1, hj1, hm1, hg1, hb1, hbl⟩; replace H := H.add (Fix.of_below hbl _) (blk g1 _) hb1 (fun k hk => by rw [show k = g1 from hk]; exact hg1) (fun k hk => hk.elim); clear hb1 hbl tok1; simp only [List.nil_append] at H hl1 hj1))
                | (go_at_call 111; go_loud ((refine (put_at _ (Lib.leBytes 4 0) _ _ 0 2 6 _ (argS_front (H.at 10 rfl) hl1 hc1) rfl rfl (by rw [hl1]) (by rw [hl1]; omega) (by omega) (by omega) (by omega)).mono ?_); rintro e W2 ⟨g2, cap2, junk2, rfl, hl2, hc2, hj2, hm2, hg2, hb2, hbl⟩; replace H := (H.take 10).add (Fix.of_below hbl _) (blk g2 _) hb2 (fun k hk => by rw [show k = g2 from hk]; exact hg2) (fun k hk => hk.elim); clear hb2 hbl))
                | (refine wpList_append_zero rfl _ _ 22 rfl _ Tryz.underlying22 size_u8 _ _ _ rfl hc2 _ _ rfl ?_)
                | (refine wpList_appz_st H 10 rfl _ _ 22 3 rfl _ Tryz.underlying22 _ Tryz.underlying3 _ _ info_u8 rfl rfl g2 6 cap2 rfl _ rfl hc2 hj2 hm2 _ 242 rfl (by omega) (by simp only [maxLen]; omega) (by omega) ?_; clear H; intro W g5 cap5 junk5 H hj5 hc5 hm5; rw [take_byteV _ _ _ hl2] at H hj5; rw [show byteV (Lib.leBytes 4 0 ++ Lib.leBytes 2 0) ++ List.replicate 242 (Value.int .u8 0) = byteV (linkB 0 (chunkC bs q)) by rw [HCK.out]; simp [byteV, linkB]] at H hj5; replace H := H.recast 10 (A' := ownB g5 0 (linkB 0 (chunkC bs q))) rfl (fun h => ownB_of_row h) (fun k hk => hk) (fun k hk => hk.elim); replace H : St O R0 w _ (s2.L ++ [B, errA, ownS 3 1 (some ⟨gq, oq, none⟩) j cp (intsV hs), ownB g5 0 (linkB 0 (chunkC bs q))]) := H; replace H := St.swap (A := s2.L) (E := [B, errA, ownS 3 1 (some ⟨gq, oq, none⟩) j cp (intsV hs)]) (R := [ownB g5 0 (linkB 0 (chunkC bs q))]) H)
                | (go_at_call 17; go_loud (rw [← HG2.out]; (refine (wr_TX (s := s2) (B := ownB g5 0 (linkB 0 (chunkC bs q))) (H.take 8).bundle HT.out.ok _ x rfl HXN.out (fun W h => ⟨ownB_bytes h, ownB_lt h⟩) (linkB_len _ _ (chunkC_le _ _))).mono ?_); rintro e W ⟨rfl, s3, hs3, hto⟩; replace H := hto.front (R := [B, errA, ownS 3 1 (some ⟨gq, oq, none⟩) j cp (intsV hs)]) H; clear hto)))
              replace H : St O R0 w _ (s3.L ++ [B, errA, ownS 3 1 (some ⟨gq, oq, none⟩) j cp (intsV hs)]) := (St.swap (A := s3.L) (E := [ownB g5 0 (linkB 0 (chunkC bs q))]) (R := [B, errA, ownS 3 1 (some ⟨gq, oq, none⟩) j cp (intsV hs)]) H).take 10
              simp only [HG2.out]
              go_roundw
              case rel => exact ⟨q + 1, s3, congrArg _ (by omega), HQ.out, HSTEP.out s3 (by rw [HNXD.out]; exact hs3), H⟩
              case measure => have := HQ.out; simp [intOf]; omega
            | some ad =>
              go_upto_region 18 with fail
              clear k1 k2 hcell
              go_wp2_with (first
                | (go_at_call 111; have _t := tok1; clear _t; go_loud ((refine (put_at _ [] _ _ 0 4 4 _ (.inl ⟨rfl, rfl⟩) rfl rfl (by simp) (by simp) (by omega) (by omega) (by omega)).mono ?_); rintro e W1 ⟨g1, cap1, junk1, rfl, hl1, hc1, hj1, hm1, hg1, hb1, hbl⟩; replace H := H.add (Fix.of_below hbl _) (blk g1 _) hb1 (fun k hk => by rw [show k = g1 from hk]; exact hg1) (fun k hk => hk.elim); clear hb1 hbl tok1; simp only [List.nil_append] at H hl1 hj1))
                | (go_at_call 111; go_loud ((refine (put_at _ (Lib.leBytes 4 0) _ _ 0 2 6 _ (argS_front (H.at 10 rfl) hl1 hc1) rfl rfl (by rw [hl1]) (by rw [hl1]; omega) (by omega) (by omega) (by omega)).mono ?_); rintro e W2 ⟨g2, cap2, junk2, rfl, hl2, hc2, hj2, hm2, hg2, hb2, hbl⟩; replace H := (H.take 10).add (Fix.of_below hbl _) (blk g2 _) hb2 (fun k hk => by rw [show k = g2 from hk]; exact hg2) (fun k hk => hk.elim); clear hb2 hbl))
                | (refine wpList_append_zero rfl _ _ 22 rfl _ Tryz.underlying22 size_u8 _ _ _ rfl hc2 _ _ rfl ?_)
                | (refine wpList_appz_st H 10 rfl _ _ 22 3 rfl _ Tryz.underlying22 _ Tryz.underlying3 _ _ info_u8 rfl rfl g2 6 cap2 rfl _ rfl hc2 hj2 hm2 _ 242 rfl (by omega) (by simp only [maxLen]; omega) (by omega) ?_; clear H; intro W g5 cap5 junk5 H hj5 hc5 hm5; rw [take_byteV _ _ _ hl2] at H hj5; rw [show byteV (Lib.leBytes 4 0 ++ Lib.leBytes 2 0) ++ List.replicate 242 (Value.int .u8 0) = byteV (linkB 0 (chunkC bs q)) by rw [HCK.out]; simp [byteV, linkB]] at H hj5; replace H := H.recast 10 (A' := ownB g5 0 (linkB 0 (chunkC bs q))) rfl (fun h => ownB_of_row h) (fun k hk => hk) (fun k hk => hk.elim); replace H : St O R0 w _ (s2.L ++ [B, errA, ownS 3 1 (some ⟨gq, oq, none⟩) j cp (intsV hs), ownB g5 0 (linkB 0 (chunkC bs q))]) := H; replace H := St.swap (A := s2.L) (E := [B, errA, ownS 3 1 (some ⟨gq, oq, none⟩) j cp (intsV hs)]) (R := [ownB g5 0 (linkB 0 (chunkC bs q))]) H)
                | (go_at_call 17; go_loud (rw [← HG2.out]; (refine (wr_TX (s := s2) (B := ownB g5 0 (linkB 0 (chunkC bs q))) (H.take 8).bundle HT.out.ok _ x rfl HXN.out (fun W h => ⟨ownB_bytes h, ownB_lt h⟩) (linkB_len _ _ (chunkC_le _ _))).mono ?_); rintro e W ⟨rfl, s3, hs3, hto⟩; replace H := hto.front (R := [B, errA, ownS 3 1 (some ⟨gq, oq, none⟩) j cp (intsV hs)]) H; clear hto)))
              replace H : St O R0 w _ (s3.L ++ [B, errA, ownS 3 1 (some ⟨gq, oq, none⟩) j cp (intsV hs)]) := (St.swap (A := s3.L) (E := [ownB g5 0 (linkB 0 (chunkC bs q))]) (R := [B, errA, ownS 3 1 (some ⟨gq, oq, none⟩) j cp (intsV hs)]) H).take 10
              simp only [HG2.out]
              go_roundw
              case rel => exact ⟨q + 1, s3, congrArg _ (by omega), HQ.out, HSTEP.out s3 (by rw [HNXD.out]; exact hs3), H⟩
              case measure => have := HQ.out; simp [intOf]; omega
          · have hqb : q * 242 < bs.length := longC_lt _ q (by rw [HM.out]; exact HQ.out) hz
            obtain ⟨b0, hb0⟩ : ∃ b0, bs[0]? = some b0 := ⟨_, List.getElem?_eq_getElem hz⟩
            obtain ⟨gb, ob, rfl, _⟩ := rdA_at (HBB.out _ (H.at 7 rfl)) (i := 0) (x := .int .u8 (b0.toNat : Int)) (by rw [byteV_get, hb0]; rfl)
            clear hb0
            by_cases hnx : q + 1 < j
            · have hqb2 : (q + 1) * 242 < bs.length := longC_lt _ (q + 1) (by rw [HM.out]; exact hnx) hz
              obtain ⟨lo, hlo⟩ : ∃ lo, q * 242 = lo := ⟨_, rfl⟩
              obtain ⟨c1, hc1⟩ : ∃ c1, (chunkC bs q).length = c1 := ⟨_, rfl⟩
              have hcl : c1 = min 242 (bs.length - lo) := by rw [← hc1, ← hlo]; simp [chunkC, List.length_take, List.length_drop]
              have HCL := Lib.hid hc1
              have HLO := Lib.hid hlo
              have HC2 := Lib.hid (show 0 < c1 ∧ c1 ≤ 242 by omega)
              have k1 : min ((q : Int) * 242) (bs.length : Int) = (lo : Int) := by omega
              have k2 : min (((q : Int) + 1) * 242) (bs.length : Int) = (lo : Int) + (c1 : Int) := by omega
              have k3 : 0 ≤ (lo : Int) := by omega
              have k4 : 0 ≤ (c1 : Int) := by omega
              have k5 : (lo : Int) + (c1 : Int) ≤ (cb : Int) := by have := HCB.out; omega
              have k6 : ¬ cb = lo := by have := HCB.out; omega
              have k7 : (c1 : Int) ≤ 242 := by omega
              have k8 : (lo : Int) ≤ 9680 := by omega
              have k9 : lo + c1 ≤ cb := by have := HCB.out; omega
              have HC3 := Lib.hid (show c1 = 242 by omega)
              have HL6 := Lib.hid (show 6 + c1 = 248 by omega)
              have k10 : 248 - (6 + (c1 : Int)) = 0 := by have := HC3.out; omega
              obtain ⟨nx, hnx1⟩ : ∃ nx, hs[q + 1]? = some nx := ⟨_, List.getElem?_eq_getElem (by rw [HSL.out]; exact hnx)⟩
              have hcell2 := rdA_cell (ownS_rd (H.at 9 rfl)) (i := q + 1) (x := .int .i64 (nx : Int)) (by simp [intsV, hnx1])
              have HNXD := Lib.hid (show hs.getD (q + 1) 0 = nx by rw [List.getD_eq_getElem?_getD, hnx1]; rfl)
              have HNXL := Lib.hid (show nx < 1900 by have := (HSM.out nx (List.mem_of_getElem? hnx1)).2; have := HNN.out; omega)
              have hnx0 : 0 ≤ (nx : Int) := by omega
              have hnx9 : (nx : Int) < 1900 := by have := HNXL.out; omega
              have hqj : (q : Int) + 1 < (j : Int) := by omega
              have hqj2 : q + 1 < j := hnx
              clear hnx1 hqb hqb2 hz hcl hlo hc1 hnx
              go_upto_region 18 with fail
              rw [Nat.add_sub_cancel_left]
              clear k1 k2 k5 k6 k8 k9 hcell
              go_wp2_with (first
                | (go_at_call 111; have _t := tok1; clear _t; go_loud ((refine (put_at _ [] _ _ nx 4 4 _ (.inl ⟨rfl, rfl⟩) rfl rfl (by simp) (by simp) (by omega) (by omega) (by have := HNXL.out; omega)).mono ?_); rintro e W1 ⟨g1, cap1, junk1, rfl, hl1, hc1, hj1, hm1, hg1, hb1, hbl⟩; replace H := H.add (Fix.of_below hbl _) (blk g1 _) hb1 (fun k hk => by rw [show k = g1 from hk]; exact hg1) (fun k hk => hk.elim); clear hb1 hbl tok1; simp only [List.nil_append] at H hl1 hj1))
                | (go_at_call 111; go_loud ((refine (put_at _ (Lib.leBytes 4 nx) _ _ c1 2 6 _ (argS_front (H.at 10 rfl) hl1 hc1) rfl rfl (by rw [hl1]) (by rw [hl1]; omega) (by omega) (by omega) (by have := HC2.out; omega)).mono ?_); rintro e W2 ⟨g2, cap2, junk2, rfl, hl2, hc2, hj2, hm2, hg2, hb2, hbl⟩; replace H := (H.take 10).add (Fix.of_below hbl _) (blk g2 _) hb2 (fun k hk => by rw [show k = g2 from hk]; exact hg2) (fun k hk => hk.elim); clear hb2 hbl))
                | (refine wpList_append_st H 10 rfl _ _ 22 rfl _ Tryz.underlying22 _ _ info_u8 rfl g2 6 cap2 rfl _ rfl hc2 hj2 hm2 ⟨gb, ob + lo, none⟩ c1 _ rfl (byteV (chunkC bs q)) (by rw [byteV_length]; exact HCL.out) (fun j u hu => by rw [Addr.add_lit, Nat.add_assoc]; exact rdA_cell (HBB.out _ (H.at 7 rfl)) (by rw [← HLO.out]; exact chunk_get bs q j hu)) (byteV_one _) (by have := HC2.out; simp only [maxLen]; omega) (by have := HC2.out; omega) ?_; clear H; intro W g3 cap3 junk3 H hj3 hc3 hm3; rw [take_byteV _ _ _ hl2] at H hj3; rw [show byteV (Lib.leBytes 4 nx ++ Lib.leBytes 2 c1) ++ byteV (chunkC bs q) = byteV (linkB nx (chunkC bs q)) by rw [← link_cells nx (chunkC bs q) 0 (by rw [HCL.out, HC3.out]), HCL.out, List.replicate_zero, List.append_nil]] at H)
                | (refine wpList_appz0 rfl _ _ 22 3 rfl _ Tryz.underlying22 _ Tryz.underlying3 size_u8 g3 (6 + c1) cap3 rfl hc3 _ rfl ?_; replace H := H.recast 10 (A' := ownB g3 0 (linkB nx (chunkC bs q))) rfl (fun h => ownB_of_row h) (fun k hk => hk) (fun k hk => hk.elim); replace H : St O R0 w _ (s2.L ++ [B, errA, ownS 3 1 (some ⟨gq, oq, none⟩) j cp (intsV hs), ownB g3 0 (linkB nx (chunkC bs q))]) := H; replace H := St.swap (A := s2.L) (E := [B, errA, ownS 3 1 (some ⟨gq, oq, none⟩) j cp (intsV hs)]) (R := [ownB g3 0 (linkB nx (chunkC bs q))]) H)
                | (go_at_call 17; go_loud (rw [HL6.out, ← HG2.out]; (refine (wr_TX (s := s2) (B := ownB g3 0 (linkB nx (chunkC bs q))) (H.take 8).bundle HT.out.ok _ x rfl HXN.out (fun W h => ⟨ownB_bytes h, ownB_lt h⟩) (linkB_len _ _ (chunkC_le _ _))).mono ?_); rintro e W ⟨rfl, s3, hs3, hto⟩; replace H := hto.front (R := [B, errA, ownS 3 1 (some ⟨gq, oq, none⟩) j cp (intsV hs)]) H; clear hto)))
              replace H : St O R0 w _ (s3.L ++ [B, errA, ownS 3 1 (some ⟨gq, oq, none⟩) j cp (intsV hs)]) := (St.swap (A := s3.L) (E := [ownB g3 0 (linkB nx (chunkC bs q))]) (R := [B, errA, ownS 3 1 (some ⟨gq, oq, none⟩) j cp (intsV hs)]) H).take 10
              simp only [HG2.out]
              go_roundw
              case rel => exact ⟨q + 1, s3, congrArg _ (by omega), HQ.out, HSTEP.out s3 (by rw [HNXD.out]; exact hs3), H⟩
              case measure => have := HQ.out; simp [intOf]; omega
            · have hqe : q + 1 = j := by have := HQ.out; omega
              have hbl3 : bs.length ≤ (q + 1) * 242 := by
                have h1 := HM.out
                unfold longC at h1
                omega
              have HNXD := Lib.hid (show hs.getD (q + 1) 0 = 0 by rw [List.getD_eq_getElem?_getD, List.getElem?_eq_none (by rw [HSL.out]; omega)]; rfl)
              have hqj : ¬ ((q : Int) + 1 < (j : Int)) := by omega
              have hqj2 : ¬ (q + 1 < j) := hnx
              obtain ⟨lo, hlo⟩ : ∃ lo, q * 242 = lo := ⟨_, rfl⟩
              obtain ⟨c1, hc1⟩ : ∃ c1, (chunkC bs q).length = c1 := ⟨_, rfl⟩
              have hcl : c1 = min 242 (bs.length - lo) := by rw [← hc1, ← hlo]; simp [chunkC, List.length_take, List.length_drop]
              have HCL := Lib.hid hc1
              have HLO := Lib.hid hlo
              have HC2 := Lib.hid (show 0 < c1 ∧ c1 ≤ 242 by omega)
              have k1 : min ((q : Int) * 242) (bs.length : Int) = (lo : Int) := by omega
              have k2 : min (((q : Int) + 1) * 242) (bs.length : Int) = (lo : Int) + (c1 : Int) := by omega
              have k3 : 0 ≤ (lo : Int) := by omega
              have k4 : 0 ≤ (c1 : Int) := by omega
              have k5 : (lo : Int) + (c1 : Int) ≤ (cb : Int) := by have := HCB.out; omega
              have k6 : ¬ cb = lo := by have := HCB.out; omega
              have k7 : (c1 : Int) ≤ 242 := by omega
              have k8 : (lo : Int) ≤ 9680 := by omega
              have k9 : lo + c1 ≤ cb := by have := HCB.out; omega
              by_cases h242 : c1 = 242
              · have HC3 := Lib.hid h242
                have HL6 := Lib.hid (show 6 + c1 = 248 by omega)
                have k10 : 248 - (6 + (c1 : Int)) = 0 := by omega
                clear hqb hz hcl hlo hc1 hnx hqe hbl3 h242
                go_upto_region 18 with fail
                rw [Nat.add_sub_cancel_left]
                clear k1 k2 k5 k6 k8 k9 hcell
                go_wp2_with (first
                  | (go_at_call 111; have _t := tok1; clear _t; go_loud ((refine (put_at _ [] _ _ 0 4 4 _ (.inl ⟨rfl, rfl⟩) rfl rfl (by simp) (by simp) (by omega) (by omega) (by omega)).mono ?_); rintro e W1 ⟨g1, cap1, junk1, rfl, hl1, hc1, hj1, hm1, hg1, hb1, hbl⟩; replace H := H.add (Fix.of_below hbl _) (blk g1 _) hb1 (fun k hk => by rw [show k = g1 from hk]; exact hg1) (fun k hk => hk.elim); clear hb1 hbl tok1; simp only [List.nil_append] at H hl1 hj1))
                  | (go_at_call 111; go_loud ((refine (put_at _ (Lib.leBytes 4 0) _ _ c1 2 6 _ (argS_front (H.at 10 rfl) hl1 hc1) rfl rfl (by rw [hl1]) (by rw [hl1]; omega) (by omega) (by omega) (by have := HC2.out; omega)).mono ?_); rintro e W2 ⟨g2, cap2, junk2, rfl, hl2, hc2, hj2, hm2, hg2, hb2, hbl⟩; replace H := (H.take 10).add (Fix.of_below hbl _) (blk g2 _) hb2 (fun k hk => by rw [show k = g2 from hk]; exact hg2) (fun k hk => hk.elim); clear hb2 hbl))
                  | (refine wpList_append_st H 10 rfl _ _ 22 rfl _ Tryz.underlying22 _ _ info_u8 rfl g2 6 cap2 rfl _ rfl hc2 hj2 hm2 ⟨gb, ob + lo, none⟩ c1 _ rfl (byteV (chunkC bs q)) (by rw [byteV_length]; exact HCL.out) (fun j u hu => by rw [Addr.add_lit, Nat.add_assoc]; exact rdA_cell (HBB.out _ (H.at 7 rfl)) (by rw [← HLO.out]; exact chunk_get bs q j hu)) (byteV_one _) (by have := HC2.out; simp only [maxLen]; omega) (by have := HC2.out; omega) ?_; clear H; intro W g3 cap3 junk3 H hj3 hc3 hm3; rw [take_byteV _ _ _ hl2] at H hj3; rw [show byteV (Lib.leBytes 4 0 ++ Lib.leBytes 2 c1) ++ byteV (chunkC bs q) = byteV (linkB 0 (chunkC bs q)) by rw [← link_cells 0 (chunkC bs q) 0 (by rw [HCL.out, HC3.out]), HCL.out, List.replicate_zero, List.append_nil]] at H)
                  | (refine wpList_appz0 rfl _ _ 22 3 rfl _ Tryz.underlying22 _ Tryz.underlying3 size_u8 g3 (6 + c1) cap3 rfl hc3 _ rfl ?_; replace H := H.recast 10 (A' := ownB g3 0 (linkB 0 (chunkC bs q))) rfl (fun h => ownB_of_row h) (fun k hk => hk) (fun k hk => hk.elim); replace H : St O R0 w _ (s2.L ++ [B, errA, ownS 3 1 (some ⟨gq, oq, none⟩) j cp (intsV hs), ownB g3 0 (linkB 0 (chunkC bs q))]) := H; replace H := St.swap (A := s2.L) (E := [B, errA, ownS 3 1 (some ⟨gq, oq, none⟩) j cp (intsV hs)]) (R := [ownB g3 0 (linkB 0 (chunkC bs q))]) H)
                  | (go_at_call 17; go_loud (rw [HL6.out, ← HG2.out]; (refine (wr_TX (s := s2) (B := ownB g3 0 (linkB 0 (chunkC bs q))) (H.take 8).bundle HT.out.ok _ x rfl HXN.out (fun W h => ⟨ownB_bytes h, ownB_lt h⟩) (linkB_len _ _ (chunkC_le _ _))).mono ?_); rintro e W ⟨rfl, s3, hs3, hto⟩; replace H := hto.front (R := [B, errA, ownS 3 1 (some ⟨gq, oq, none⟩) j cp (intsV hs)]) H; clear hto)))
                replace H : St O R0 w _ (s3.L ++ [B, errA, ownS 3 1 (some ⟨gq, oq, none⟩) j cp (intsV hs)]) := (St.swap (A := s3.L) (E := [ownB g3 0 (linkB 0 (chunkC bs q))]) (R := [B, errA, ownS 3 1 (some ⟨gq, oq, none⟩) j cp (intsV hs)]) H).take 10
                simp only [HG2.out]
                go_roundw
                case rel => exact ⟨q + 1, s3, congrArg _ (by omega), HQ.out, HSTEP.out s3 (by rw [HNXD.out]; exact hs3), H⟩
                case measure => have := HQ.out; simp [intOf]; omega
              · obtain ⟨d1, hd1⟩ : ∃ d1, 242 - c1 = d1 := ⟨_, rfl⟩
                have HD1 := Lib.hid hd1
                have HL6 := Lib.hid (show 6 + c1 + d1 = 248 by omega)
                have HD0 := Lib.hid (show 0 < d1 by omega)
                have k10 : 248 - (6 + (c1 : Int)) = (d1 : Int) := by omega
                clear hqb hz hcl hlo hc1 hnx hqe hbl3 h242 hd1
                go_upto_region 18 with fail
                rw [Nat.add_sub_cancel_left]
                clear k1 k2 k5 k6 k8 k9 hcell
                go_wp2_with (first
                  | (go_at_call 111; have _t := tok1; clear _t; go_loud ((refine (put_at _ [] _ _ 0 4 4 _ (.inl ⟨rfl, rfl⟩) rfl rfl (by simp) (by simp) (by omega) (by omega) (by omega)).mono ?_); rintro e W1 ⟨g1, cap1, junk1, rfl, hl1, hc1, hj1, hm1, hg1, hb1, hbl⟩; replace H := H.add (Fix.of_below hbl _) (blk g1 _) hb1 (fun k hk => by rw [show k = g1 from hk]; exact hg1) (fun k hk => hk.elim); clear hb1 hbl tok1; simp only [List.nil_append] at H hl1 hj1))
                  | (go_at_call 111; go_loud ((refine (put_at _ (Lib.leBytes 4 0) _ _ c1 2 6 _ (argS_front (H.at 10 rfl) hl1 hc1) rfl rfl (by rw [hl1]) (by rw [hl1]; omega) (by omega) (by omega) (by have := HC2.out; omega)).mono ?_); rintro e W2 ⟨g2, cap2, junk2, rfl, hl2, hc2, hj2, hm2, hg2, hb2, hbl⟩; replace H := (H.take 10).add (Fix.of_below hbl _) (blk g2 _) hb2 (fun k hk => by rw [show k = g2 from hk]; exact hg2) (fun k hk => hk.elim); clear hb2 hbl))
                  | (refine wpList_append_st H 10 rfl _ _ 22 rfl _ Tryz.underlying22 _ _ info_u8 rfl g2 6 cap2 rfl _ rfl hc2 hj2 hm2 ⟨gb, ob + lo, none⟩ c1 _ rfl (byteV (chunkC bs q)) (by rw [byteV_length]; exact HCL.out) (fun j u hu => by rw [Addr.add_lit, Nat.add_assoc]; exact rdA_cell (HBB.out _ (H.at 7 rfl)) (by rw [← HLO.out]; exact chunk_get bs q j hu)) (byteV_one _) (by have := HC2.out; simp only [maxLen]; omega) (by have := HC2.out; omega) ?_; clear H; intro W g3 cap3 junk3 H hj3 hc3 hm3; rw [take_byteV _ _ _ hl2] at H hj3)
                  | (refine wpList_appz_st H 10 rfl _ _ 22 3 rfl _ Tryz.underlying22 _ Tryz.underlying3 _ _ info_u8 rfl rfl g3 (6 + c1) cap3 rfl _ rfl hc3 hj3 hm3 _ d1 rfl HD0.out (by have := HC2.out; have := HD1.out; simp only [maxLen]; omega) (by have := HC2.out; have := HD1.out; omega) ?_; clear H; intro W g5 cap5 junk5 H hj5 hc5 hm5; rw [take_two _ _ _ _ _ (by rw [byteV_length]; exact hl2) (by rw [byteV_length]; exact HCL.out)] at H hj5; rw [show byteV (Lib.leBytes 4 0 ++ Lib.leBytes 2 c1) ++ byteV (chunkC bs q) ++ List.replicate d1 (Value.int .u8 0) = byteV (linkB 0 (chunkC bs q)) by rw [← HCL.out]; exact link_cells 0 (chunkC bs q) d1 (by rw [HCL.out]; exact HD1.out)] at H hj5; replace H := H.recast 10 (A' := ownB g5 0 (linkB 0 (chunkC bs q))) rfl (fun h => ownB_of_row h) (fun k hk => hk) (fun k hk => hk.elim); replace H : St O R0 w _ (s2.L ++ [B, errA, ownS 3 1 (some ⟨gq, oq, none⟩) j cp (intsV hs), ownB g5 0 (linkB 0 (chunkC bs q))]) := H; replace H := St.swap (A := s2.L) (E := [B, errA, ownS 3 1 (some ⟨gq, oq, none⟩) j cp (intsV hs)]) (R := [ownB g5 0 (linkB 0 (chunkC bs q))]) H)
                  | (go_at_call 17; go_loud (rw [HL6.out, ← HG2.out]; (refine (wr_TX (s := s2) (B := ownB g5 0 (linkB 0 (chunkC bs q))) (H.take 8).bundle HT.out.ok _ x rfl HXN.out (fun W h => ⟨ownB_bytes h, ownB_lt h⟩) (linkB_len _ _ (chunkC_le _ _))).mono ?_); rintro e W ⟨rfl, s3, hs3, hto⟩; replace H := hto.front (R := [B, errA, ownS 3 1 (some ⟨gq, oq, none⟩) j cp (intsV hs)]) H; clear hto)))
                replace H : St O R0 w _ (s3.L ++ [B, errA, ownS 3 1 (some ⟨gq, oq, none⟩) j cp (intsV hs)]) := (St.swap (A := s3.L) (E := [ownB g5 0 (linkB 0 (chunkC bs q))]) (R := [B, errA, ownS 3 1 (some ⟨gq, oq, none⟩) j cp (intsV hs)]) H).take 10
                simp only [HG2.out]
                go_roundw
                case rel => exact ⟨q + 1, s3, congrArg _ (by omega), HQ.out, HSTEP.out s3 (by rw [HNXD.out]; exact hs3), H⟩
                case measure => have := HQ.out; simp [intOf]; omega
        · obtain rfl : q = j := by omega
          have hqi : ¬ ((q : Int) < (q : Int)) := by omega
          have hcell := rdA_cell (ownS_rd (H.at 9 rfl)) (i := 0) (x := .int .i64 (x0 : Int)) (by simp [intsV, HX0.out])
          rw [Nat.add_zero] at hcell
          have hq1 : 0 < q := by have := HM1.out; omega
          go_wp2
          refine bodyPost_ret (results_tmp2 rfl _ _ _) rfl ?_
          refine .inl ⟨by rw [HL1.out, HF.out, HM.out]; exact HFL.out, hs, by rw [HL1.out, HF.out, HM.out]; exact HHS.out.symm, ?_, s2, by rw [HM.out]; exact HT.out, ?_⟩
          · rw [show hs.getD 0 0 = x0 by rw [List.getD_eq_getElem?_getD, HX0.out]; rfl]; rfl
          · exact St.bunTo (H.take 9)

end Go.Proofs.YtlgciddnpinpbaaGreatDoor

namespace Go.Proofs.YtlgciddnpinpbaaGreatDoor
open Go.RowKit
set_option linter.unusedSimpArgs false
set_option linter.unusedVariables false
set_option maxRecDepth 100000


theorem bit_tmod (b : UInt8) (m : Nat) : (((b.toNat : Int) / 2 ^ m).tmod 2 == 1) = b.toNat.testBit m := by
  have e1 : ((b.toNat : Int) / 2 ^ m) = ((b.toNat / 2 ^ m : Nat) : Int) := by push_cast; rfl
  rw [e1, ← bit_mod]
  have e2 : ((b.toNat / 2 ^ m : Nat) : Int).tmod 2 = ((b.toNat / 2 ^ m % 2 : Nat) : Int) := by rw [Int.tmod_eq_emod_of_nonneg (Int.natCast_nonneg _)]; rfl
  rw [e2]
  rcases Nat.mod_two_eq_zero_or_one (b.toNat / 2 ^ m) with h | h <;> rw [h] <;> rfl


end Go.Proofs.YtlgciddnpinpbaaGreatDoor

namespace Go.Proofs.YtlgciddnpinpbaaGreatDoor
open Go.RowKit
set_option linter.unusedSimpArgs false
set_option linter.unusedVariables false
set_option maxRecDepth 40000

theorem Bundle.single {W : World} {A : Asrt} (h : A.prop W) : Bundle W [A] :=
  ⟨fun i B hi => by
    rcases i with _ | i
    · cases hi; exact h
    · simp at hi, fun i j B C hi hj hne => by
    rcases i with _ | i <;> rcases j with _ | j <;> first | omega | simp at hi hj⟩

/-- A call on one assertion amid others. -/
theorem BunTo.one {M0 R0 : Nat → Prop} {w0 W W' : World} {L : List Asrt} {A A' : Asrt} (h : BunTo W (ownL [A]) (rdL [A]) [A'] W') (H : St M0 R0 w0 W L) (i : Nat) (hi : L[i]? = some A) : St M0 R0 w0 W' (L.set i A') := by
  have e1 : ∀ k, ownL [A] k → A.own k := fun k ⟨B, hB, hk⟩ => by rw [List.mem_singleton] at hB; subst hB; exact hk
  have e2 : ∀ k, rdL [A] k → A.rd k := fun k ⟨B, hB, hk⟩ => by rw [List.mem_singleton] at hB; subst hB; exact hk
  refine H.step i hi (h.fix.mono fun k _ hk => e1 k hk) (h.holds.all 0 A' rfl) ⟨fun k hk => ?_, fun k hk => ?_⟩
  · rcases h.owns k ⟨A', List.mem_singleton.2 rfl, hk⟩ with h | h
    · exact .inl (e1 k h)
    · exact .inr h
  · rcases h.reads k ⟨A', List.mem_singleton.2 rfl, hk⟩ with h | h | h
    · exact .inl (e1 k h)
    · exact .inr (.inl (e2 k h))
    · exact .inr (.inr h)

theorem St.left {M0 R0 : Nat → Prop} {w0 W : World} {A B : List Asrt} (H : St M0 R0 w0 W (A ++ B)) : St M0 R0 w0 W A := by
  have := H.take A.length
  rwa [List.take_left] at this

theorem begin_TX {M0 R0 : Nat → Prop} {w0 W : World} {t : LogT} {gl c n : Nat} {R : List Asrt} (H : St M0 R0 w0 W (t.L gl ++ R)) (ht : t.Ok c) (hn : t.n = n) (hl : ∀ k, k < n → (t.hom k).length = 248) :
    Calls Tryz.prog 16 #[.pointer (some ⟨gl, 0, none⟩)] W fun e W' => ∃ s : TX, e = .returned (.pointer (some ⟨s.g, 0, none⟩)) ∧ s.t = t ∧ s.x.gl = gl ∧ s.Ok c ∧ s.n = n ∧ s.Few ∧ (∀ k, s.V k = (t.hom k, false)) ∧ St M0 R0 w0 W' (s.L ++ R) := by
  refine (begin_calls _).mono ?_
  rintro e W' ⟨g, gm, rfl, h1, h2, h3, hb, hg, hm⟩
  obtain ⟨hok, hV⟩ := TX.begun_ok ht hn hl gl gm g
  have H2 := St.swap (A := t.L gl) (E := R) (R := (TxT.new gl gm n).L g) (H.begun n hb h1 h2 h3 hg hm)
  exact ⟨⟨t, TxT.new gl gm n, g⟩, rfl, rfl, rfl, hok, hn, fun k a b => by rw [hV k], hV, H2⟩

theorem commit_St {M0 R0 : Nat → Prop} {w0 W : World} {s : TX} {c : Nat} {R : List Asrt} (H : St M0 R0 w0 W (s.L ++ errA :: R)) (h : s.Ok c) (hc : c < 400) (hk : (keysOf s.x.f s.x.n).length < 24) (hr : s.t.X.ring = 24) :
    Calls Tryz.prog 20 #[.pointer (some ⟨s.g, 0, none⟩)] W fun e W' => e = .returned (.int .i64 0) ∧ ∃ t' : LogT, t'.Ok (c + 1) ∧ t'.n = s.n ∧ t'.X.ring = 24 ∧ (∀ k, k < s.n → t'.hom k = s.v k) ∧ St M0 R0 w0 W' (t'.L s.x.gl ++ errA :: R) := by
  rw [List.append_cons] at H
  refine (commit_TX (s := s) H.left.bundle h hc hk hr).mono ?_
  rintro e W' ⟨rfl, t', a1, a2, a3, a4, hto⟩
  refine ⟨rfl, t', a1, a2, a3, a4, ?_⟩
  have H2 := hto.front (R := R) H
  rw [List.append_assoc (t'.L s.x.gl ++ s.x.done.L s.g)] at H2
  exact (St.swap (A := t'.L s.x.gl) (E := s.x.done.L s.g) (R := [errA] ++ R) H2).left

theorem abort_St {M0 R0 : Nat → Prop} {w0 W : World} {s : TX} {R : List Asrt} (H : St M0 R0 w0 W (s.L ++ R)) :
    Calls Tryz.prog 21 #[.pointer (some ⟨s.g, 0, none⟩)] W fun e W' => e = .returned (.tuple #[]) ∧ St M0 R0 w0 W' ((⟨s.t, s.x.done, s.g⟩ : TX).L ++ R) := by
  refine (abort_TX (s := s) H.left.bundle).mono ?_
  rintro e W' ⟨rfl, hto⟩
  exact ⟨rfl, hto.front (R := R) H⟩

/-- The transaction goes, the log stays. -/
theorem St.logOnly {M0 R0 : Nat → Prop} {w0 W : World} {s : TX} {R : List Asrt} (H : St M0 R0 w0 W (s.L ++ R)) : St M0 R0 w0 W (s.t.L s.x.gl ++ R) :=
  (St.swap (A := s.t.L s.x.gl) (E := s.x.L s.g) (R := R) H).left

theorem least_free (bs : List Bool) : ∀ n, (∃ i, i < n ∧ bs.getD i false = false ∧ ∀ j, j < i → bs.getD j false = true) ∨ (∀ j, j < n → bs.getD j false = true)
  | 0 => .inr fun j h => by omega
  | n + 1 => by
    rcases least_free bs n with ⟨i, h1, h2⟩ | h
    · exact .inl ⟨i, by omega, h2⟩
    · cases hb : bs.getD n false with
      | false => exact .inl ⟨n, by omega, hb, h⟩
      | true =>
        refine .inr fun j hj => ?_
        rcases Nat.lt_or_ge j n with h2 | h2
        · exact h j h2
        · rw [show j = n by omega]; exact hb

theorem BitsOf.turn {s s2 : TX} {c : Nat} {bs : List Bool} {r v : Nat} (h : BitsOf s.v bs r v) (hc : s.Ok c) (hn : s.n = 34) (i : Nat) (h2 : 2 ≤ i) (hi : i < 34) (b : Bool) (hb : bs.getD i false = !b) (hs : s.To s2 c (updV s.V 1 (turnB (s.v 1) i))) : BitsOf s2.v (bs.set i b) r v := by
  have e1 : s2.v 1 = turnB (s.v 1) i := hs.v 1 (by omega)
  have e0 : s2.v 0 = s.v 0 := hs.v 0 (by omega)
  refine ⟨by rw [List.length_set]; exact h.len, fun k hk => ?_, by rw [e0]; exact h.root, by rw [e0]; exact h.ver, h.rlt, h.vlt⟩
  rw [e1, getDb_set bs i k b (by rw [h.len]; exact hi)]
  rcases Nat.lt_or_ge k 2 with hk2 | hk2
  · rw [if_neg (by omega), ← h.has k hk]
    simp [hasB, hk2]
  · rw [hasB_turn (hc.lens 1 (by omega)) (by omega) hk2, h.has k hk]
    by_cases e : k = i
    · subst e; rw [if_pos rfl, if_pos rfl, hb]; simp
    · rw [if_neg e, if_neg e]

theorem BitsOf.rooted {s s2 : TX} {c : Nat} {bs : List Bool} {r v : Nat} (h : BitsOf s.v bs r v) (hn : s.n = 34) (r' v' : Nat) (hr : r' < 4294967296) (hv : v' < 18446744073709551616) (hs : s.To s2 c (updV s.V 0 (rootB r' v'))) : BitsOf s2.v bs r' v' := by
  have e1 : s2.v 1 = s.v 1 := hs.v 1 (by omega)
  have e0 : s2.v 0 = rootB r' v' := hs.v 0 (by omega)
  have := le_root r' v' hr hv
  exact ⟨h.len, by rw [e1]; exact h.has, by rw [e0]; exact this.1, by rw [e0]; exact this.2, hr, hv⟩

theorem BitsOf.congr {f f' : Nat → List UInt8} {bs : List Bool} {r v : Nat} (h : BitsOf f bs r v) (e : ∀ k, k < 2 → f' k = f k) : BitsOf f' bs r v :=
  ⟨h.len, by rw [e 1 (by omega)]; exact h.has, by rw [e 0 (by omega)]; exact h.root, by rw [e 0 (by omega)]; exact h.ver, h.rlt, h.vlt⟩

theorem BitsOf.fresh {s s2 : TX} {c : Nat} (hn : s.n = 34) (hs : s.To s2 c (updV (updV s.V 0 (rootB 0 1)) 1 newB)) : BitsOf s2.v (true :: true :: List.replicate 32 false) 0 1 := by
  have e1 : s2.v 1 = newB := hs.v 1 (by omega)
  have e0 : s2.v 0 = rootB 0 1 := hs.v 0 (by omega)
  have := le_root 0 1 (by omega) (by omega)
  refine ⟨rfl, fun k hk => ?_, by rw [e0]; exact this.1, by rw [e0]; exact this.2, by omega, by omega⟩
  rw [e1, hasB_new]
  rcases k with _ | _ | k
  · rfl
  · rfl
  · rw [decide_eq_false (by omega), List.getD_cons_succ, List.getD_cons_succ, List.getD_eq_getElem?_getD, List.getElem?_replicate]
    split <;> rfl

theorem BitsOf.low {s : TX} {bs : List Bool} {r v : Nat} (h : BitsOf s.v bs r v) {i : Nat} (hf : bs.getD i false = false) (hi : i < 34) : 2 ≤ i := by
  rcases Nat.lt_or_ge i 2 with h2 | h2
  · rw [← h.has i hi] at hf
    simp [hasB, h2] at hf
  · exact h2

/-- The operations of the law, as cells. -/
def opsV (l : List (Int × Int × Nat)) : List Value := l.flatMap fun x => [.int .i64 x.1, .int .i64 x.2.1, .int .u64 (x.2.2 : Int)]
theorem opsV_get : ∀ (l : List (Int × Int × Nat)) (i : Nat) (x : Int × Int × Nat), l[i]? = some x → (opsV l)[i * 3]? = some (.int .i64 x.1) ∧ (opsV l)[i * 3 + 1]? = some (.int .i64 x.2.1) ∧ (opsV l)[i * 3 + 2]? = some (.int .u64 (x.2.2 : Int))
  | [], i, x, h => by simp at h
  | y :: l, 0, x, h => by
    cases h
    exact ⟨rfl, rfl, rfl⟩
  | y :: l, i + 1, x, h => by
    have ih := opsV_get l i x h
    have e : opsV (y :: l) = [.int .i64 y.1, .int .i64 y.2.1, .int .u64 (y.2.2 : Int)] ++ opsV l := rfl
    rw [e, show (i + 1) * 3 = 3 + i * 3 by omega, show 3 + i * 3 + 1 = 3 + (i * 3 + 1) by omega, show 3 + i * 3 + 2 = 3 + (i * 3 + 2) by omega]
    refine ⟨?_, ?_, ?_⟩
    · rw [List.getElem?_append_right (by simp)]; simpa using ih.1
    · rw [List.getElem?_append_right (by simp)]; simpa using ih.2.1
    · rw [List.getElem?_append_right (by simp)]; simpa using ih.2.2








end Go.Proofs.YtlgciddnpinpbaaGreatDoor

namespace Go.Proofs.YtlgciddnpinpbaaGreatDoor
open Go.RowKit
set_option linter.unusedSimpArgs false
set_option linter.unusedVariables false
set_option maxRecDepth 40000

theorem gets_some {w : World} {s : TX} {c : Nat} (hb : Bundle w s.L) (h : s.Ok c) (z : Int) (first : Nat) (hz : (first : Int) = z) (hlt : first < 4294967296) (h2 : 2 ≤ first) (hn : first < s.n) {hs : List Nat} {bs : List UInt8} (hR : walkC s.v s.n 40 first [] [] = some (hs, bs)) :
    Calls Tryz.prog 73 #[.pointer (some ⟨s.g, 0, none⟩), .int .u32 z] w fun e w' => ∃ p1 c1 p2 c2, e = .returned (.tuple #[.slice p1 hs.length c1, .slice p2 bs.length c2, .nilIface]) ∧
      BunTo w (ownL s.L) (rdL s.L) (s.L ++ [ownS 3 1 p1 hs.length c1 (intsV hs), ownS 5 1 p2 bs.length c2 (byteV bs)]) w' := by
  refine (gets_in hb h z first hz hlt h2 hn _ hR).mono ?_
  rintro e w' (⟨hs', bs', p1, c1, p2, c2, e1, rfl, hto⟩ | ⟨e1, _⟩)
  · cases e1; exact ⟨p1, c1, p2, c2, rfl, hto⟩
  · cases e1

theorem gets_none {w : World} {s : TX} {c : Nat} (hb : Bundle w s.L) (h : s.Ok c) (z : Int) (first : Nat) (hz : (first : Int) = z) (hlt : first < 4294967296) (h2 : 2 ≤ first) (hn : first < s.n) (hR : walkC s.v s.n 40 first [] [] = none) :
    Calls Tryz.prog 73 #[.pointer (some ⟨s.g, 0, none⟩), .int .u32 z] w fun e w' => ∃ ge, e = .returned (.tuple #[.slice none 0 0, .slice none 0 0, partVC ge]) ∧ ErrC w' ge 16 ∧ BunTo w (ownL s.L) (rdL s.L) s.L w' := by
  refine (gets_in hb h z first hz hlt h2 hn _ hR).mono ?_
  rintro e w' (⟨hs', bs', p1, c1, p2, c2, e1, rfl, hto⟩ | ⟨e1, ge, rfl, hge, hto⟩)
  · cases e1
  · exact ⟨ge, rfl, hge, hto⟩

theorem Get_ok {w : World} {s : TX} {c : Nat} (hb : Bundle w s.L) (h : s.Ok c) (z : Int) (first : Nat) (hz : (first : Int) = z) (hlt : first < 4294967296) (h2 : 2 ≤ first) (hn : first < s.n) {hs : List Nat} {bs : List UInt8} (hR : walkC s.v s.n 40 first [] [] = some (hs, bs)) :
    Calls Tryz.prog 31 #[.pointer (some ⟨s.g, 0, none⟩), .int .u32 z] w fun e w' => ∃ p2 c2, e = .returned (.tuple #[.slice p2 bs.length c2, .int .i64 0]) ∧
      BunTo w (ownL s.L) (rdL s.L) (s.L ++ [ownS 5 1 p2 bs.length c2 (byteV bs)]) w' := by
  have HG := Lib.hid (gets_some hb h z first hz hlt h2 hn hR)
  have H := hb.open_
  clear hb h hlt h2 hn hR hz
  go_enter Tryz.func31, Tryz.ntmps31
  go_wp2_with (first
    | (go_at_call 73; go_loud ((refine HG.out.mono ?_); rintro e W ⟨p1, c1, p2, c2, rfl, hto⟩; replace H := hto.front (R := []) (by rw [List.append_nil]; exact H); clear hto; rw [List.append_nil] at H)))
  refine bodyPost_ret (results_tmp2 rfl _ _ _) rfl ?_
  refine ⟨p2, c2, rfl, ?_⟩
  exact St.bunTo ((St.swap (A := s.L) (E := [ownS 3 1 p1 hs.length c1 (intsV hs)]) (R := [ownS 5 1 p2 bs.length c2 (byteV bs)]) H).take 8)

/-- A call that gives the code of an error of gets. -/
theorem Get_bad {w : World} {s : TX} {cc : Int} {z : Int} (hb : Bundle w (s.L ++ [errA]))
    (hg : ∀ W, Bundle W s.L → Calls Tryz.prog 73 #[.pointer (some ⟨s.g, 0, none⟩), .int .u32 z] W fun e w' => ∃ ge, e = .returned (.tuple #[.slice none 0 0, .slice none 0 0, partVC ge]) ∧ ErrC w' ge cc ∧ BunTo W (ownL s.L) (rdL s.L) s.L w') :
    Calls Tryz.prog 31 #[.pointer (some ⟨s.g, 0, none⟩), .int .u32 z] w fun e w' => e = .returned (.tuple #[.slice none 0 0, .int .i64 cc]) ∧ BunTo w (ownL (s.L ++ [errA])) (rdL (s.L ++ [errA])) (s.L ++ [errA]) w' := by
  have HG := Lib.hid hg
  have H := hb.open_
  clear hb hg
  go_enter Tryz.func31, Tryz.ntmps31
  go_wp2_with (first
    | (go_at_call 73; go_loud ((refine (HG.out _ (H.take 7).bundle).mono ?_); rintro e W ⟨ge, rfl, hge, hto⟩; replace H := hto.front (R := [errA]) H; clear hto; unfold partVC))
    | (go_at_call 74; go_loud ((refine (code_errC ge cc _ (H.at 7 rfl) hge).mono ?_); rintro e W2 ⟨rfl, hbl⟩; replace H := H.stay (Fix.of_below hbl _); clear hbl)))
  refine bodyPost_ret (results_tmp2 rfl _ _ _) rfl ?_
  exact ⟨rfl, H.bunTo⟩

theorem Drop_bad {w : World} {s : TX} {cc : Int} {z : Int} (hb : Bundle w (s.L ++ [errA]))
    (hg : ∀ W, Bundle W s.L → Calls Tryz.prog 73 #[.pointer (some ⟨s.g, 0, none⟩), .int .u32 z] W fun e w' => ∃ ge, e = .returned (.tuple #[.slice none 0 0, .slice none 0 0, partVC ge]) ∧ ErrC w' ge cc ∧ BunTo W (ownL s.L) (rdL s.L) s.L w') :
    Calls Tryz.prog 38 #[.pointer (some ⟨s.g, 0, none⟩), .int .u32 z] w fun e w' => e = .returned (.int .i64 cc) ∧ BunTo w (ownL (s.L ++ [errA])) (rdL (s.L ++ [errA])) (s.L ++ [errA]) w' := by
  have HG := Lib.hid hg
  have H := hb.open_
  clear hb hg
  go_enter Tryz.func38, Tryz.ntmps38
  go_wp2_with (first
    | (go_at_call 73; go_loud ((refine (HG.out _ (H.take 7).bundle).mono ?_); rintro e W ⟨ge, rfl, hge, hto⟩; replace H := hto.front (R := [errA]) H; clear hto; unfold partVC))
    | (go_at_call 74; go_loud ((refine (code_errC ge cc _ (H.at 7 rfl) hge).mono ?_); rintro e W2 ⟨rfl, hbl⟩; replace H := H.stay (Fix.of_below hbl _); clear hbl)))
  go_ret
  exact ⟨rfl, H.bunTo⟩

theorem Put_ok {w : World} {s : TX} {c : Nat} {B : Asrt} (hb : Bundle w (s.L ++ [B, errA])) (h : s.Ok c) {pb : Option Addr} {cb n : Nat} {bs : List UInt8} (hB : ∀ W, B.prop W → (rdA pb (byteV bs)).prop W) (hn : bs.length = n) (hc : n ≤ cb) (hl : n ≤ 9680) (hroom : longC n ≤ leftOf (s.v 1) s.n) :
    Calls Tryz.prog 34 #[.pointer (some ⟨s.g, 0, none⟩), .slice pb n cb] w fun e w' => ∃ hs, hs = (freeL (s.v 1) s.n).take (longC n) ∧ e = .returned (.tuple #[.int .u32 ((hs.getD 0 0 : Nat) : Int), .int .i64 0]) ∧
      ∃ s', s.To s' c (linksV (takV s.V hs (longC n)) hs bs (longC n)) ∧ BunTo w (ownL (s.L ++ [B, errA])) (rdL (s.L ++ [B, errA])) (s'.L ++ [B, errA]) w' := by
  subst hn
  have HX := Lib.hid (show ∀ hs : List Nat, hs = (freeL (s.v 1) s.n).take (longC bs.length) → hs.getD 0 0 < 1900 from fun hs hhs => by
    rw [List.getD_eq_getElem?_getD]
    cases hx : hs[0]? with
    | none => simp
    | some x =>
      have hm := List.mem_of_getElem? hx
      rw [hhs] at hm
      have := freeL_lt (List.mem_of_mem_take hm)
      have := h.nn
      simp; omega)
  have HP := Lib.hid ((puts_calls hb h hB hc hl).mono (R' := fun e w' => ∃ (x : Nat) (hs : List Nat), x < 1900 ∧ hs.getD 0 0 = x ∧ hs = (freeL (s.v 1) s.n).take (longC bs.length) ∧ e = .returned (.tuple #[.int .i64 (x : Int), .nilIface]) ∧
      ∃ s', s.To s' c (linksV (takV s.V hs (longC bs.length)) hs bs (longC bs.length)) ∧ BunTo w (ownL (s.L ++ [B, errA])) (rdL (s.L ++ [B, errA])) (s'.L ++ [B, errA]) w') (by
    rintro e w' (⟨_, hs, hhs, rfl, s', hs', hto⟩ | ⟨hlt, _⟩)
    · exact ⟨_, hs, HX.out hs hhs, rfl, hhs, rfl, s', hs', hto⟩
    · exact absurd hroom (by rw [leftOf_free]; omega)))
  clear hb h hB hc hl hroom HX
  go_enter Tryz.func34, Tryz.ntmps34
  go_wp2_with (first
    | (go_at_call 77; go_loud ((refine HP.out.mono ?_); rintro e W ⟨x, hs, hx9, hx, hhs, rfl, s', hs', hto⟩; have HHS := Lib.hid hhs; have HXE := Lib.hid hx; have hx0 : 0 ≤ (x : Int) := Int.natCast_nonneg x; have hxi : (x : Int) < 1900 := Int.ofNat_lt.2 hx9; clear hx hhs hx9)))
  refine bodyPost_ret (results_tmp2 rfl _ _ _) rfl ?_
  exact ⟨hs, HHS.out, by rw [HXE.out]; rfl, s', hs', hto⟩

theorem Put_full {w : World} {s : TX} {c : Nat} {B : Asrt} (hb : Bundle w (s.L ++ [B, errA])) (h : s.Ok c) {pb : Option Addr} {cb n : Nat} {bs : List UInt8} (hB : ∀ W, B.prop W → (rdA pb (byteV bs)).prop W) (hn : bs.length = n) (hc : n ≤ cb) (hl : n ≤ 9680) (hroom : leftOf (s.v 1) s.n < longC n) :
    Calls Tryz.prog 34 #[.pointer (some ⟨s.g, 0, none⟩), .slice pb n cb] w fun e w' => e = .returned (.tuple #[.int .u32 0, .int .i64 9]) ∧ ∃ s' v', s.To s' c v' ∧ (∀ k, k ≠ 1 → v' k = s.V k) ∧ BunTo w (ownL (s.L ++ [B, errA])) (rdL (s.L ++ [B, errA])) (s'.L ++ [B, errA]) w' := by
  subst hn
  have HP := Lib.hid ((puts_calls hb h hB hc hl).mono (R' := fun e w' => ∃ ge, e = .returned (.tuple #[.int .i64 0, partVC ge]) ∧ ErrC w' ge 9 ∧ ∃ s' v', s.To s' c v' ∧ (∀ k, k ≠ 1 → v' k = s.V k) ∧ BunTo w (ownL (s.L ++ [B, errA])) (rdL (s.L ++ [B, errA])) (s'.L ++ [B, errA]) w') (by
    rintro e w' (⟨hle, _⟩ | ⟨_, h⟩)
    · exact absurd hroom (by rw [leftOf_free]; omega)
    · exact h))
  have H := hb.open_
  clear hb h hB hc hl hroom
  go_enter Tryz.func34, Tryz.ntmps34
  go_wp2_with (first
    | (go_at_call 77; go_loud ((refine HP.out.mono ?_); rintro e W ⟨ge, rfl, hge, s', v', hs', hv', hto⟩; replace H := hto.front (R := []) (by rw [List.append_nil]; exact H); rw [List.append_nil] at H; clear hto; unfold partVC))
    | (go_at_call 74; go_loud ((refine (code_errC ge 9 _ (H.at 8 rfl) hge).mono ?_); rintro e W2 ⟨rfl, hbl⟩; replace H := H.stay (Fix.of_below hbl _); clear hbl)))
  refine bodyPost_ret (results_tmp2 rfl _ _ _) rfl ?_
  exact ⟨rfl, s', v', hs', hv', H.bunTo⟩

/-- A new space, on a new log: the homes that are free are all but two. -/
structure NewSpace (s : TX) (n : Nat) : Prop where
  ok : s.Ok 0
  cnt : s.n = n
  ring : s.t.X.ring = 24
  v0 : s.v 0 = rootB 0 1
  v1 : s.v 1 = newB
  few : s.Few
  rest : ∀ k, 2 ≤ k → k < n → s.v k = noHome

theorem new21_calls {M0 R0 : Nat → Prop} {w0 W : World} {L : List Asrt} (H : St M0 R0 w0 W L) (z : Int) (N n : Nat) (hz : (N : Int) = z) (hN : n + 2 + 24 = N) (h3 : 8 ≤ n) (h4 : N ≤ 1900) :
    Calls Tryz.prog 29 #[.int .i64 z] W fun e W' => ∃ s : TX, e = .returned (.pointer (some ⟨s.g, 0, none⟩)) ∧ NewSpace s n ∧ St M0 R0 w0 W' (s.L ++ L) := by
  subst hz
  have HN := Lib.hid hN
  have H3 := Lib.hid h3
  have H4 := Lib.hid h4
  clear hN h3 h4
  go_enter Tryz.func29, Tryz.ntmps29
  go_wp2_with (first
    | (go_at_call 15; go_loud ((refine (new19_calls _ N n rfl HN.out H3.out H4.out _).mono ?_); rintro e W ⟨gd, gl, t, rfl, hnew, hto⟩; replace H := (hto.fresh H).rotate; clear hto))
    | (go_at_call 16; go_loud ((refine (begin_TX (gl := gl) (R := L) H hnew.ok hnew.n (fun k hk => by rw [hnew.hom k hk]; exact noHome_len)).mono ?_); clear H; rintro e W ⟨s, rfl, hst, hsg, hso, hsn, hsf, hsv, H⟩))
    | (go_at_call 48; go_loud ((refine (Format_ok (s := s) H.left.bundle hso).mono ?_); rintro e W ⟨rfl, s1, hs1, hto⟩; replace H := hto.front (R := L) H; clear hto; rw [← hs1.g])))
  go_ret
  refine ⟨s1, rfl, ⟨hs1.ok, hs1.n.trans hsn, by rw [hs1.t, hst]; exact hnew.ring, hs1.v 0 (by rw [hsn]; have := H3.out; omega), hs1.v 1 (by rw [hsn]; have := H3.out; omega), hsf.to hs1 (fun k hk => by rw [updV_up _ _ _ (by omega) k hk, updV_up _ _ _ (by omega) k hk]), fun k h2 hk => ?_⟩, H⟩
  rw [hs1.v k (by rw [hsn]; exact hk), updV_up _ _ _ (by omega) k h2, updV_up _ _ _ (by omega) k h2]
  show (s.V k).1 = noHome
  rw [hsv k]
  exact hnew.hom k hk

theorem freeL_new (n : Nat) : freeL newB n = (List.range n).filter fun i => decide (2 ≤ i) := by
  unfold freeL
  congr 1
  funext i
  rw [hasB_new]
  by_cases h : i < 2 <;> simp [h] <;> omega

theorem leftOf_new (n : Nat) (h : 2 ≤ n) : leftOf newB n = n - 2 := by
  rw [leftOf_free, freeL_new]
  induction n with
  | zero => omega
  | succ n ih =>
    rw [List.range_succ, List.filter_append, List.length_append]
    by_cases h2 : 2 ≤ n
    · rw [ih h2]; simp [h2]; omega
    · have : n = 1 := by omega
      subst this; rfl

end Go.Proofs.YtlgciddnpinpbaaGreatDoor

namespace Go.Proofs.YtlgciddnpinpbaaGreatDoor
open Go.RowKit
set_option linter.unusedSimpArgs false
set_option linter.unusedVariables false
set_option maxRecDepth 40000

theorem longC_mul (n : Nat) : n ≤ longC n * 242 := by unfold longC; omega
theorem longC_next (n j : Nat) (h : j + 1 < longC n) : (j + 1) * 242 ≤ n := by unfold longC at h; omega

theorem chunk_full (bs : List UInt8) (j : Nat) (h : (j + 1) * 242 ≤ bs.length) : (chunkC bs j).length = 242 := by
  simp [chunkC, List.length_take, List.length_drop]; omega

theorem take_chunk (bs : List UInt8) (j : Nat) : bs.take (j * 242) ++ chunkC bs j = bs.take ((j + 1) * 242) := by
  rw [Nat.succ_mul, List.take_add]; rfl

theorem walk_links {v : Nat → List UInt8} {n : Nat} {V : Nat → List UInt8 × Bool} {hs : List Nat} {bs : List UInt8} (hv : ∀ k, k < n → v k = (linksV V hs bs (longC bs.length) k).1) (hl : hs.length = longC bs.length) (hnd : hs.Nodup) (hr : ∀ k, k ∈ hs → 2 ≤ k ∧ k < n) (hn : n < 4294967296) :
    ∀ (d j : Nat), j + d = longC bs.length → ∀ fuel, d ≤ fuel → walkC v n fuel (hs.getD j 0) (hs.take j) (bs.take (j * 242)) = some (hs, bs)
  | 0, j, hj, fuel, hf => by
    rw [List.getD_eq_getElem?_getD, List.getElem?_eq_none (by omega)]
    show walkC v n fuel 0 _ _ = _
    rw [walkC_zero, List.take_of_length_le (by omega), List.take_of_length_le (by rw [show j = longC bs.length by omega]; exact longC_mul _)]
  | d + 1, j, hj, fuel, hf => by
    obtain ⟨f, rfl⟩ : ∃ f, fuel = f + 1 := ⟨fuel - 1, by omega⟩
    have hjl : j < hs.length := by omega
    have hx : hs.getD j 0 = hs[j] := by rw [List.getD_eq_getElem?_getD, List.getElem?_eq_getElem hjl]; rfl
    have hxr := hr _ (List.getElem_mem hjl)
    have hvx : v hs[j] = linkB (hs.getD (j + 1) 0) (chunkC bs j) := by
      rw [hv _ hxr.2]
      unfold linksV
      rw [hnd.idxOf_getElem j hjl, if_pos ⟨by omega, List.getElem_mem hjl⟩]
    have hnx : hs.getD (j + 1) 0 < 4294967296 := by
      rw [List.getD_eq_getElem?_getD]
      cases hq : hs[j + 1]? with
      | none => simp
      | some y => have := (hr y (List.mem_of_getElem? hq)).2; simp; omega
    rw [hx, walkC, if_neg (by omega), if_neg (by omega), hvx, link_next _ _ hnx, link_size _ _ (chunkC_le _ _), link_bytes]
    have hno : ¬ (242 < (chunkC bs j).length ∨ hs.getD (j + 1) 0 ≠ 0 ∧ (chunkC bs j).length < 242) := by
      have h1 := chunkC_le bs j
      rintro (h | ⟨h2, h3⟩)
      · omega
      · rcases Nat.lt_or_ge (j + 1) hs.length with h4 | h4
        · have := chunk_full bs j (longC_next _ _ (by omega))
          omega
        · exact h2 (by rw [List.getD_eq_getElem?_getD, List.getElem?_eq_none h4]; rfl)
    rw [if_neg hno, take_chunk, ← List.take_succ_eq_append_getElem hjl]
    exact walk_links hv hl hnd hr hn d (j + 1) (by omega) f (by omega)

/-- What Put laid, Get reads. -/
theorem put_reads {s s' : TX} {c : Nat} {hs : List Nat} {bs : List UInt8} (h : s.Ok c) (hhs : hs = (freeL (s.v 1) s.n).take (longC bs.length)) (hroom : longC bs.length ≤ leftOf (s.v 1) s.n) (hl : bs.length ≤ 9680)
    (hs' : s.To s' c (linksV (takV s.V hs (longC bs.length)) hs bs (longC bs.length))) :
    walkC s'.v s'.n 40 (hs.getD 0 0) [] [] = some (hs, bs) ∧ 2 ≤ hs.getD 0 0 ∧ hs.getD 0 0 < s'.n := by
  have hlen : hs.length = longC bs.length := by rw [hhs, List.length_take, ← leftOf_free]; omega
  have hnd : hs.Nodup := by rw [hhs]; exact (nodup_of_sorted (freeL_sorted _ _)).sublist (List.take_sublist _ _)
  have hr : ∀ k, k ∈ hs → 2 ≤ k ∧ k < s'.n := fun k hk => by
    rw [hhs] at hk
    have := freeL_lt (List.mem_of_mem_take hk)
    rw [hs'.n]; omega
  have hnn := h.nn
  have h0 := longC_pos bs.length
  have hw := walk_links (v := s'.v) (n := s'.n) (fun k hk => hs'.v k (by rw [← hs'.n]; exact hk)) hlen hnd hr (by rw [hs'.n]; omega) (longC bs.length) 0 (by omega) 40 (longC_le _ hl)
  have hx : hs.getD 0 0 = hs[0] := by rw [List.getD_eq_getElem?_getD, List.getElem?_eq_getElem (by omega)]; rfl
  have := hr _ (List.getElem_mem (show 0 < hs.length by omega))
  refine ⟨by simpa using hw, by omega, by omega⟩

theorem ownB_rd {W : World} {g off : Nat} {l : List UInt8} (h : (ownB g off l).prop W) : (rdA (some ⟨g, off, none⟩) (byteV l)).prop W :=
  .inr ⟨g, off, rfl, ownB_lt h, fun i x hi => by
    rw [byteV_get] at hi
    cases hx : l[i]? with
    | none => rw [hx] at hi; cases hi
    | some b =>
      rw [hx] at hi
      cases hi
      exact (ownB_bytes h).cellv hx⟩

theorem rdA_bytes {W : World} {p : Option Addr} {l : List UInt8} (h : (rdA p (byteV l)).prop W) (h0 : 0 < l.length) : ∃ g off, p = some ⟨g, off, none⟩ ∧ BytesAt W g off l := by
  obtain ⟨b, hb⟩ : ∃ b, l[0]? = some b := ⟨_, List.getElem?_eq_getElem h0⟩
  obtain ⟨g, off, rfl, _⟩ := rdA_at h (i := 0) (x := .int .u8 (b.toNat : Int)) (by rw [byteV_get, hb]; rfl)
  exact ⟨g, off, rfl, fun i hi => rdA_cell h (by rw [byteV_get, List.getElem?_eq_getElem hi]; rfl)⟩

section
variable {P : Program} {ops : Array Oper} {rest : List Oper} {o : Oper} {a : Act} {Q : Exit → Act → World → Prop} {M0 R0 : Nat → Prop} {w0 W : World} {L : List Asrt}
/-- []byte("..") of a constant: the row gets a mark behind its last cell. -/
theorem wpList_conv_bytes (H : St M0 R0 w0 W L) (i : Nat) (hwt : Region.wanted o (yielded ops a.tmps) = true) (T : TypeId) (x : Operand) (ho : o.op = .convert T T x) (e : TypeId) (ht : P.underlying T = some (.slice e)) (he : P.underlying e = some (.int .u8))
    (g n c : Nat) (hx : a.eval x = .slice (some ⟨g, 0, none⟩) n c) (cs : Array Value) (t : TypeId) (hi : L[i]? = some (blk g (.cells cs t (0, 0))))
    (h : ∀ W', St M0 R0 w0 W' (L.set i (blk g (.cells cs t (cs.size, cs.size + 1)))) → wpList P ops Q rest (a.put o.dst (.slice (some ⟨g, 0, none⟩) n c)) W') : wpList P ops Q (o :: rest) a W := by
  refine wpList_want hwt fun K hK => ?_
  have hg : W.heap[g]? = some (.cells cs t (0, 0)) := H.at i hi
  obtain ⟨W', hW'⟩ : ∃ W', W.freeze ⟨g, cs.size, none⟩ 1 = W' := ⟨_, rfl⟩
  have hheap : W'.heap = W.heap.modify g fun
      | .cells c elem (lo, hi) => .cells c elem (if lo == hi then (cs.size, cs.size + 1) else (min lo cs.size, max hi (cs.size + 1)))
      | o => o := by rw [← hW']; rfl
  have h1 : W'.heap[g]? = some (.cells cs t (cs.size, cs.size + 1)) := by rw [hheap, Array.getElem?_modify, if_pos rfl, hg]; rfl
  have h2 : Fix (· = g) W W' := by
    refine ⟨by rw [← hW']; rfl, by rw [← hW']; rfl, by rw [← hW']; rfl, by rw [hheap]; simp, fun k hk hn => ?_⟩
    rw [hheap, Array.getElem?_modify, if_neg (fun x => hn x.symm)]
  have H' := H.step i hi (A' := blk g (.cells cs t (cs.size, cs.size + 1))) h2 h1 ⟨fun k hk => .inl hk, fun k hk => hk.elim⟩
  have hsh : W.shape? g = some (t, cs.size) := by unfold World.shape?; rw [hg]
  have hrun : (convert T T (.slice (some ⟨g, 0, none⟩) n c)).run P W = .ok (.slice (some ⟨g, 0, none⟩) n c) W' := by
    simp [convert, run_underlying ht, run_underlying he, markStringish, hsh, hW']
  have h' := hK _ _ (h W' H')
  unfold Oper.wp execOp
  simp only [ho, hx, Sem.run_bind, hrun, Result.andThen_ok, Sem.run_pure]
  exact h'
end

theorem blk_rd {W : World} {g : Nat} {vs : List Value} {t : TypeId} {fr : Nat × Nat} (h : (blk g (.cells vs.toArray t fr)).prop W) : (rdA (some ⟨g, 0, none⟩) vs).prop W :=
  .inr ⟨g, 0, rfl, (blk g (.cells vs.toArray t fr)).bound W h g (.inl rfl), fun i x hi => by rw [Nat.zero_add]; exact row_cell h (by simpa using hi)⟩

def abcB : List UInt8 := [97, 98, 99]
theorem fill_abc : Instr.fill (fun i => some (i * 1, 1)) ((Array.range (3 * 1)).map ((Value.int .u8 0).cells[· % (Value.int .u8 0).cells.size]!)) [(0, .int .u8 97), (1, .int .u8 98), (2, .int .u8 99)] = some #[.int .u8 97, .int .u8 98, .int .u8 99] := by kernel_rfl
theorem free34 : (freeL newB 34).take (longC 3) = [2] := by rw [freeL_new]; rfl

set_option maxHeartbeats 4000000 in
theorem begun22_calls (w : World) (hg : errA.prop w) : Calls Tryz.prog 28 #[] w fun e w' => e = .returned (.bool true) ∧ Below w.heap.size w w' := by
  have H := St.err hg
  clear hg
  go_enter Tryz.func28, Tryz.ntmps28
  go_wp2_with (first
    | (go_at_call 29; go_loud ((refine (new21_calls H _ 60 34 rfl rfl (by omega) (by omega)).mono ?_); clear H; rintro e W ⟨s, rfl, hnew, H⟩; have HN := Lib.hid hnew; clear hnew))
    | (refine wpList_buildslice_st H rfl 22 5 _ _ rfl Tryz.underlying22 _ size_u8 _ zero_u8 (by decide) (by decide) [(0, .int .u8 97), (1, .int .u8 98), (2, .int .u8 99)] (by simp [Act.eval]) _ fill_abc ?_; clear H; intro W gs H; replace H : St _ _ w _ (s.L ++ [errA, blk gs (.cells (byteV abcB).toArray 5 (0, 0))]) := H)
    | (refine wpList_conv_bytes H 8 rfl 22 _ rfl _ Tryz.underlying22 Tryz.underlying5 _ _ _ rfl _ _ rfl ?_; clear H; intro W H; replace H : St _ _ w _ (s.L ++ [errA, blk gs (.cells (byteV abcB).toArray 5 (3, 4))]) := H; replace H := St.swap (A := s.L) (E := [errA]) (R := [blk gs (.cells (byteV abcB).toArray 5 (3, 4))]) H)
    | (go_at_call 34; go_loud ((refine (Put_ok (s := s) (B := blk gs (.cells (byteV abcB).toArray 5 (3, 4))) (bs := abcB) (n := 3) H.bundle HN.out.ok (fun W h => blk_rd h) rfl (by omega) (by omega) (by rw [HN.out.v1, HN.out.cnt, leftOf_new 34 (by omega)]; decide)).mono ?_); rintro e W ⟨hs, hhs, rfl, s1, hs1, hto⟩; replace H := hto.front (R := []) (by rw [List.append_nil]; exact H); clear hto; rw [List.append_nil] at H; have HPR := Lib.hid (put_reads HN.out.ok (bs := abcB) hhs (by rw [HN.out.v1, HN.out.cnt, leftOf_new 34 (by omega)]; decide) (by decide) hs1); have e2 : hs = [2] := hhs.trans (by { rw [HN.out.v1, HN.out.cnt]; exact free34 }); subst e2; have HO1 := Lib.hid hs1.ok; rw [← hs1.g]; clear hhs hs1))
    | (go_at_call 31; go_loud ((refine (Get_ok (s := s1) (H.take 7).bundle HO1.out _ 2 rfl (by omega) (by omega) HPR.out.2.2 HPR.out.1).mono ?_); rintro e W ⟨p2, c2, rfl, hto⟩; replace H := hto.front2 (R := [blk gs (.cells (byteV abcB).toArray 5 (3, 4)), errA]) H; clear hto; obtain ⟨gb, ob, rfl, hbs⟩ := rdA_bytes (ownS_rd (H.at 9 rfl)) (by decide); have HB := Lib.hid hbs; clear hbs))
    | (refine wpList_bytes_str rfl 22 9 _ rfl _ _ _ _ rfl 5 Tryz.underlying22 Tryz.underlying5 Tryz.underlying9 _ HB.out rfl ?_)
    | (go_at_call 72; go_loud ((refine (Long_calls _ 243 (by omega) (by omega) (by omega) _).mono ?_); rintro e W' ⟨rfl, rfl⟩; rw [show longC 243 = 2 from rfl])))
  go_ret
  exact ⟨rfl, H.fix.below⟩


end Go.Proofs.YtlgciddnpinpbaaGreatDoor

namespace Go.Proofs.YtlgciddnpinpbaaGreatDoor
open Go.RowKit
set_option linter.unusedSimpArgs false
set_option linter.unusedVariables false
set_option maxRecDepth 40000

/-- Which are taken behind j that were freed. -/
theorem hasB_turnsT {l : List UInt8} (hl : l.length = 248) : ∀ (hs : List Nat), hs.Nodup → (∀ h ∈ hs, 2 ≤ h ∧ h < 1984 ∧ hasB l h = true) → ∀ k, 2 ≤ k → hasB (turnsB l hs) k = (hasB l k && !decide (k ∈ hs)) := by
  intro hs
  induction hs generalizing l with
  | nil => intro _ _ k _; simp [turnsB]
  | cons h hs ih =>
    intro hnd hall k hk
    have hh := hall h List.mem_cons_self
    have hnd' := List.nodup_cons.1 hnd
    show hasB (turnsB (turnB l h) hs) k = _
    rw [ih (by rw [turnB_len]; exact hl) hnd'.2 (fun q hq => by
      have hq2 := hall q (List.mem_cons_of_mem _ hq)
      refine ⟨hq2.1, hq2.2.1, ?_⟩
      rw [hasB_turn hl hh.2.1 hq2.1, if_neg (fun e : q = h => hnd'.1 (e ▸ hq))]
      exact hq2.2.2) k hk]
    rw [hasB_turn hl hh.2.1 hk]
    by_cases e : k = h
    · subst e
      rw [if_pos rfl, hh.2.2]
      simp
    · rw [if_neg e]
      simp [e]

theorem walkC_congr {v v' : Nat → List UInt8} {n : Nat} (h : ∀ k, 2 ≤ k → k < n → v' k = v k) : ∀ fuel next hs bs, walkC v' n fuel next hs bs = walkC v n fuel next hs bs
  | 0, next, hs, bs => rfl
  | f + 1, next, hs, bs => by
    rw [walkC, walkC]
    by_cases h0 : next = 0
    · rw [if_pos h0, if_pos h0]
    · rw [if_neg h0, if_neg h0]
      by_cases h1 : next < 2 ∨ n ≤ next
      · rw [if_pos h1, if_pos h1]
      · rw [if_neg h1, if_neg h1, h next (by omega) (by omega), walkC_congr h f]

set_option maxHeartbeats 4000000 in
theorem Drop_ok {w : World} {s : TX} {c : Nat} (hb : Bundle w s.L) (h : s.Ok c) (z : Int) (first : Nat) (hz : (first : Int) = z) (hlt : first < 4294967296) (h2 : 2 ≤ first) (hn : first < s.n) {hs : List Nat} {bs : List UInt8} (hR : walkC s.v s.n 40 first [] [] = some (hs, bs))
    (hl40 : hs.length ≤ 40) (hnd : hs.Nodup) (hall : ∀ k ∈ hs, 2 ≤ k ∧ k < s.n ∧ hasB (s.v 1) k = true) :
    Calls Tryz.prog 38 #[.pointer (some ⟨s.g, 0, none⟩), .int .u32 z] w fun e w' => e = .returned (.int .i64 0) ∧ ∃ s', s.To s' c (takV s.V hs hs.length) ∧ BunTo w (ownL s.L) (rdL s.L) s'.L w' := by
  have HG := Lib.hid (gets_some hb h z first hz hlt h2 hn hR)
  have H := hb.open_
  obtain ⟨O, hO⟩ : ∃ O, ownL s.L = O := ⟨_, rfl⟩
  obtain ⟨R0, hR0⟩ : ∃ R, rdL s.L = R := ⟨_, rfl⟩
  rw [hO, hR0] at H HG ⊢
  have HNN := Lib.hid h.nn
  have HO := Lib.hid h
  have HLL := Lib.hid (show (s.v 1).length = 248 from h.lens 1 (by have := h.nn; omega))
  have HND := Lib.hid hnd
  have HALL := Lib.hid hall
  have hhl : (hs.length : Int) ≤ 40 := by omega
  clear hb h hlt h2 hn hR hz hO hR0 hnd hall hl40
  go_enter Tryz.func38, Tryz.ntmps38
  go_upto_region 5 with (first
    | (go_at_call 73; go_loud ((refine HG.out.mono ?_); rintro e W ⟨p1, c1, p2, c2, rfl, hto⟩; clear H; have H := hto.st; clear hto)))
  replace H : St O R0 w W (s.L ++ [ownS 3 1 p1 hs.length c1 (intsV hs)]) := H.take 8
  go_loopw [24] (fun u wr => ∃ (j : Nat) (s1 : TX), u = .int .i64 (j : Int) ∧ j ≤ hs.length ∧ s.To s1 c (takV s.V hs j) ∧ St O R0 w wr (s1.L ++ [ownS 3 1 p1 hs.length c1 (intsV hs)])) (fun u _ => hs.length - (intOf u).toNat)
  case atStart => exact ⟨0, s, rfl, Nat.zero_le _, ⟨HO.out, rfl, rfl, rfl, fun k _ => (takV_zero s.V hs k).symm⟩, H⟩
  case round =>
    clear H HG
    obtain ⟨j, s1, rfl, hj, hto1, H⟩ := hrel
    have HT := Lib.hid hto1
    have HGG := Lib.hid hto1.g
    have hj0 : 0 ≤ (j : Int) := by omega
    rcases Nat.lt_or_ge j hs.length with hlt | hge
    · have hji : (j : Int) < (hs.length : Int) := by omega
      obtain ⟨x, hx⟩ : ∃ x, hs[j]? = some x := ⟨_, List.getElem?_eq_getElem hlt⟩
      obtain ⟨hxl, hxe⟩ := List.getElem?_eq_some_iff.1 hx
      obtain ⟨gq, oq, rfl, hcell⟩ := rdA_at (ownS_rd (H.at 7 rfl)) (i := j) (x := .int .i64 (x : Int)) (by simp [intsV, hx])
      have hx3 := HALL.out x (List.mem_of_getElem? hx)
      have HX2 := Lib.hid hx3.1
      have HX3 := Lib.hid (show x < s1.n by rw [HT.out.n]; exact hx3.2.1)
      have HX4 := Lib.hid (show hasB (s1.v 1) x = true by
        rw [HT.out.v 1 (by have := HNN.out; omega)]
        unfold takV
        rw [if_pos rfl]
        show hasB (turnsB (s.v 1) (hs.take j)) x = true
        rw [hasB_turnsT HLL.out (hs.take j) (HND.out.sublist (List.take_sublist _ _)) (fun q hq => by
          have hq3 := HALL.out q (List.mem_of_mem_take hq)
          have := HNN.out
          exact ⟨hq3.1, by omega, hq3.2.2⟩) x hx3.1, hx3.2.2, decide_eq_false, Bool.not_false, Bool.and_self]
        intro hmem
        obtain ⟨q, hq, e⟩ := List.mem_iff_getElem.1 hmem
        rw [List.length_take] at hq
        rw [List.getElem_take] at e
        exact absurd (e.trans hxe.symm) (List.pairwise_iff_getElem.1 HND.out q j (by omega) hxl (by omega)))
      have HSTEP := Lib.hid (show ∀ s2 : TX, s1.To s2 c (updV s1.V 1 (turnB (s1.v 1) x)) → s.To s2 c (takV s.V hs (j + 1)) from fun s2 h2 => HT.out.then 1 _ h2 (fun k hk => by
        rw [← takV_step s.V hs j hxl k, hxe]
        have : (takV s.V hs j 1).1 = s1.v 1 := (HT.out.v 1 (by have := HNN.out; omega)).symm
        rw [this]))
      have HJ := Lib.hid hlt
      have hx0 : 0 ≤ (x : Int) := by omega
      clear hx hxl hxe hx3 hlt hj hto1
      go_wp2_with (first
        | (go_at_call 78; rw [← HGG.out]; go_loud ((refine (Free_okS (s := s1) (H.take 7).bundle HT.out.ok _ x rfl HX2.out HX3.out HX4.out).mono ?_); rintro e W ⟨rfl, s2, hs2, hto⟩; replace H := hto.front (R := [ownS 3 1 (some ⟨gq, oq, none⟩) hs.length c1 (intsV hs)]) H; clear hto)))
      simp only [HGG.out]
      go_roundw
      case rel => exact ⟨j + 1, s2, congrArg _ (by omega), HJ.out, HSTEP.out s2 hs2, H⟩
      case measure => have := HJ.out; simp [intOf]; omega
    · obtain rfl : j = hs.length := by omega
      have hji : ¬ ((hs.length : Int) < (hs.length : Int)) := by omega
      clear hto1
      go_wp2
      go_ret
      exact ⟨rfl, s1, HT.out, St.bunTo (H.take 7)⟩

set_option maxHeartbeats 4000000 in
theorem Drop_no {w : World} {s : TX} {c : Nat} (hb : Bundle w s.L) (h : s.Ok c) (z : Int) (first : Nat) (hz : (first : Int) = z) (hlt : first < 4294967296) (h2 : 2 ≤ first) (hn : first < s.n) {hs : List Nat} {bs : List UInt8} (hR : walkC s.v s.n 40 first [] [] = some (hs, bs))
    (x : Nat) (hx : hs[0]? = some x) (hl40 : hs.length ≤ 40) (hno : hasB (s.v 1) x = false) :
    Calls Tryz.prog 38 #[.pointer (some ⟨s.g, 0, none⟩), .int .u32 z] w fun e w' => e = .returned (.int .i64 1) ∧ BunTo w (ownL s.L) (rdL s.L) s.L w' := by
  have HG := Lib.hid (gets_some hb h z first hz hlt h2 hn hR)
  have H := hb.open_
  obtain ⟨O, hO⟩ : ∃ O, ownL s.L = O := ⟨_, rfl⟩
  obtain ⟨R0, hR0⟩ : ∃ R, rdL s.L = R := ⟨_, rfl⟩
  rw [hO, hR0] at H HG ⊢
  have HO := Lib.hid h
  have HX := Lib.hid hx
  have HNO := Lib.hid hno
  have hl0 : 0 < hs.length := (List.getElem?_eq_some_iff.1 hx).1
  have hl1 : 0 < (hs.length : Int) := by omega
  have hhl : (hs.length : Int) ≤ 40 := by omega
  have hx0 : 0 ≤ (x : Int) := by omega
  clear hb h hlt h2 hn hR hz hO hR0 hx hno hl40
  go_enter Tryz.func38, Tryz.ntmps38
  go_upto_region 5 with (first
    | (go_at_call 73; go_loud ((refine HG.out.mono ?_); rintro e W ⟨p1, c1, p2, c2, rfl, hto⟩; clear H; have H := hto.st; clear hto)))
  replace H : St O R0 w W (s.L ++ [ownS 3 1 p1 hs.length c1 (intsV hs)]) := H.take 8
  obtain ⟨gq, oq, rfl, _⟩ := rdA_at (ownS_rd (H.at 7 rfl)) (i := 0) (x := .int .i64 (x : Int)) (by simp [intsV, HX.out])
  go_loopw [24] (fun u wr => u = .int .i64 0 ∧ St O R0 w wr (s.L ++ [ownS 3 1 (some ⟨gq, oq, none⟩) hs.length c1 (intsV hs)])) (fun _ _ => 1)
  case atStart => exact ⟨rfl, H⟩
  case round =>
    clear H HG
    obtain ⟨rfl, H⟩ := hrel
    have hcell := rdA_cell (ownS_rd (H.at 7 rfl)) (i := 0) (x := .int .i64 (x : Int)) (by simp [intsV, HX.out])
    rw [Nat.add_zero] at hcell
    go_wp2_with (first
      | (go_at_call 78; go_loud ((refine (Free_noS (s := s) (H.take 7).bundle HO.out _ (.inr (.inr (by simpa using HNO.out)))).mono ?_); rintro e W ⟨rfl, hto⟩; replace H := hto.front (R := [ownS 3 1 (some ⟨gq, oq, none⟩) hs.length c1 (intsV hs)]) H; clear hto)))
    go_ret
    exact ⟨rfl, St.bunTo (H.take 7)⟩

end Go.Proofs.YtlgciddnpinpbaaGreatDoor

namespace Go.Proofs.YtlgciddnpinpbaaGreatDoor
open Go.RowKit
set_option linter.unusedSimpArgs false
set_option linter.unusedVariables false
set_option maxRecDepth 40000

/-- What Put leaves. -/
theorem put_facts {s s' : TX} {c : Nat} {hs : List Nat} {bs : List UInt8} (h : s.Ok c) (hhs : hs = (freeL (s.v 1) s.n).take (longC bs.length)) (hroom : longC bs.length ≤ leftOf (s.v 1) s.n)
    (hs' : s.To s' c (linksV (takV s.V hs (longC bs.length)) hs bs (longC bs.length))) :
    hs.length = longC bs.length ∧ hs.Nodup ∧ (∀ k, k ∈ hs → 2 ≤ k ∧ k < s.n ∧ hasB (s.v 1) k = false) ∧ s'.v 1 = turnsB (s.v 1) hs ∧ (∀ k, 2 ≤ k → k < s.n → k ∉ hs → s'.v k = s.v k) ∧
      (∀ k, 2 ≤ k → k < s.n → hasB (s'.v 1) k = (hasB (s.v 1) k || decide (k ∈ hs))) := by
  have hlen : hs.length = longC bs.length := by rw [hhs, List.length_take, ← leftOf_free]; omega
  have hnd : hs.Nodup := by rw [hhs]; exact (nodup_of_sorted (freeL_sorted _ _)).sublist (List.take_sublist _ _)
  have hr : ∀ k, k ∈ hs → 2 ≤ k ∧ k < s.n ∧ hasB (s.v 1) k = false := fun k hk => by
    rw [hhs] at hk
    exact freeL_lt (List.mem_of_mem_take hk)
  have hnn := h.nn
  have h1 : s'.v 1 = turnsB (s.v 1) hs := by
    rw [hs'.v 1 (by omega)]
    unfold linksV
    rw [if_neg (fun x => by have := (hr 1 x.2).1; omega)]
    unfold takV
    rw [if_pos rfl]
    show turnsB (s.v 1) (hs.take _) = _
    rw [List.take_of_length_le (by omega)]
  refine ⟨hlen, hnd, hr, h1, fun k h2 hk hm => ?_, fun k h2 hk => ?_⟩
  · rw [hs'.v k hk]
    unfold linksV
    rw [if_neg (fun x => hm x.2)]
    unfold takV
    rw [if_neg (by omega)]; rfl
  · rw [h1]
    exact hasB_turns (h.lens 1 (by omega)) hs hnd (fun q hq => by have := hr q hq; exact ⟨by omega, this.2.2⟩) k h2

theorem drop_facts {s s' : TX} {c : Nat} {hs : List Nat} (h : s.Ok c) (hnd : hs.Nodup) (hall : ∀ k ∈ hs, 2 ≤ k ∧ k < s.n ∧ hasB (s.v 1) k = true) (hs' : s.To s' c (takV s.V hs hs.length)) :
    (∀ k, 2 ≤ k → k < s.n → hasB (s'.v 1) k = (hasB (s.v 1) k && !decide (k ∈ hs))) ∧ (∀ k, k ≠ 1 → k < s.n → s'.v k = s.v k) := by
  have hnn := h.nn
  refine ⟨fun k h2 hk => ?_, fun k h1 hk => ?_⟩
  · rw [hs'.v 1 (by omega)]
    unfold takV
    rw [if_pos rfl]
    show hasB (turnsB (s.v 1) (hs.take _)) k = _
    rw [List.take_length]
    exact hasB_turnsT (h.lens 1 (by omega)) hs hnd (fun q hq => by have := hall q hq; exact ⟨this.1, by omega, this.2.2⟩) k h2
  · rw [hs'.v k hk]
    unfold takV
    rw [if_neg h1]; rfl


end Go.Proofs.YtlgciddnpinpbaaGreatDoor

namespace Go.Proofs.YtlgciddnpinpbaaGreatDoor
open Go.RowKit
set_option linter.unusedSimpArgs false
set_option linter.unusedVariables false
set_option maxRecDepth 40000

theorem link_get_next (nx : Nat) (c : List UInt8) (k : Nat) (h : k < 4) : (linkB nx c)[k]? = some ((nx / 256 ^ k % 256).toUInt8) := by
  unfold linkB
  rw [List.append_assoc, List.append_assoc, List.getElem?_append_left (by rw [Lib.leBytes_length]; exact h)]
  exact leBytes_get 4 nx k h

theorem link_get_size (nx : Nat) (c : List UInt8) (k : Nat) (h : k < 2) : (linkB nx c)[4 + k]? = some ((c.length / 256 ^ k % 256).toUInt8) := by
  unfold linkB
  rw [List.append_assoc, List.getElem?_append_left (by simp [Lib.leBytes_length]; omega), List.getElem?_append_right (by rw [Lib.leBytes_length]; omega), Lib.leBytes_length, Nat.add_sub_cancel_left]
  exact leBytes_get 2 c.length k h

theorem link_get_rest (nx : Nat) (c : List UInt8) (k : Nat) (h1 : 6 + c.length ≤ k) (h2 : k < 248) (hc : c.length ≤ 242) : (linkB nx c)[k]? = some 0 := by
  unfold linkB
  rw [List.getElem?_append_right (by simp [Lib.leBytes_length]; omega), List.getElem?_replicate, if_pos]
  simp [Lib.leBytes_length]; omega

theorem quadw32 (b0 b1 b2 b3 r : Nat) (h : b0 + b1 * 256 + b2 * 65536 + b3 * 16777216 = r) (h0 : b0 < 256) (h1 : b1 < 256) (h2 : b2 < 256) (h3 : b3 < 256) :
    IntKind.u32.wrap (IntKind.u32.wrap (IntKind.u32.wrap (IntKind.u32.wrap (b0 : Int) + IntKind.u32.wrap (IntKind.u32.wrap (b1 : Int) * 256)) + IntKind.u32.wrap (IntKind.u32.wrap (b2 : Int) * 65536)) + IntKind.u32.wrap (IntKind.u32.wrap (b3 : Int) * 16777216)) = (r : Int) := by
  simp only [IntKind.wrap_u32]
  omega

theorem pairw (b0 b1 r : Nat) (h : b0 + b1 * 256 = r) (h0 : b0 < 256) (h1 : b1 < 256) : IntKind.i64.wrap (IntKind.i64.wrap (b0 : Int) + IntKind.i64.wrap (IntKind.i64.wrap (b1 : Int) * 256)) = (r : Int) := by
  simp only [IntKind.wrap_i64]
  omega

theorem BytesAt.part {W : World} {g off : Nat} {l m : List UInt8} (h : BytesAt W g off l) (d : Nat) (hm : (l.drop d).take m.length = m) : BytesAt W g (off + d) m := fun i hi => by
  have hx : m[i]? = l[d + i]? := by
    rw [← hm, List.getElem?_take, if_pos (by simpa using hi), List.getElem?_drop]
  have : l[d + i]? = some m[i] := by rw [← hx, List.getElem?_eq_getElem hi]
  rw [Nat.add_assoc]
  exact h.cellv this


end Go.Proofs.YtlgciddnpinpbaaGreatDoor

namespace Go.Proofs.YtlgciddnpinpbaaGreatDoor
open Go.RowKit
set_option linter.unusedSimpArgs false
set_option linter.unusedVariables false
set_option maxRecDepth 40000

/-- Rows of bytes, one for each home, that are not written any more. -/
def rowsB (ps : List (Nat × Nat × Nat)) (v : Nat → List UInt8) : Asrt where
  own _ := False
  rd k := ∃ p ∈ ps, p.1 = k
  prop W := (∀ p ∈ ps, p.1 < W.heap.size) ∧ ∀ (k : Nat) (p : Nat × Nat × Nat), ps[k]? = some p → BytesAt W p.1 p.2.1 (v k) ∧ 248 ≤ p.2.2
  stable W W' h hp := ⟨fun p hm => by
      have h1 := h p.1 (.inr ⟨p, hm, rfl⟩)
      have h2 := hp.1 p hm
      rw [Array.getElem?_eq_getElem h2] at h1
      exact (Array.getElem?_eq_some_iff.1 h1).1, fun k p hk => ⟨fun i hi => by
        have e : W'.cell? ⟨p.1, p.2.1 + i, none⟩ = W.cell? ⟨p.1, p.2.1 + i, none⟩ := World.cell?_of_block (w := W) (a := ⟨p.1, p.2.1 + i, none⟩) (h p.1 (.inr ⟨p, List.mem_of_getElem? hk, rfl⟩))
        exact e.trans ((hp.2 k p hk).1 i hi), (hp.2 k p hk).2⟩⟩
  bound W hp k hk := by
    rcases hk with h | ⟨p, hm, rfl⟩
    · exact h.elim
    · exact hp.1 p hm

def rowsV (ps : List (Nat × Nat × Nat)) : List Value := ps.map fun p => Value.slice (some ⟨p.1, p.2.1, none⟩) 248 p.2.2

theorem rowsV_get (ps : List (Nat × Nat × Nat)) (k : Nat) (p : Nat × Nat × Nat) (h : ps[k]? = some p) : (rowsV ps)[k]? = some (.slice (some ⟨p.1, p.2.1, none⟩) 248 p.2.2) := by simp [rowsV, h]

theorem rowsV_cell {W : World} {gh : Nat} {ps : List (Nat × Nat × Nat)} {k : Nat} {p : Nat × Nat × Nat} (h : (rdA (some ⟨gh, 0, none⟩) (rowsV ps)).prop W) (hk : ps[k]? = some p) : W.cell? ⟨gh, k, none⟩ = some (.slice (some ⟨p.1, p.2.1, none⟩) 248 p.2.2) := by
  rcases h with h | ⟨g, off, e, _, h⟩
  · have := rowsV_get ps k p hk
    rw [h] at this
    cases this
  · cases e
    have := h k _ (rowsV_get ps k p hk)
    rwa [Nat.zero_add] at this

theorem le_four (l : List UInt8) (b0 b1 b2 b3 : UInt8) (h0 : l[0]? = some b0) (h1 : l[1]? = some b1) (h2 : l[2]? = some b2) (h3 : l[3]? = some b3) : le l 0 4 = b0.toNat + b1.toNat * 256 + b2.toNat * 65536 + b3.toNat * 16777216 := by
  match l, h0, h1, h2, h3 with
  | a :: b :: c :: d :: r, h0, h1, h2, h3 =>
    simp at h0 h1 h2 h3
    subst h0 h1 h2 h3
    simp only [le, List.drop_zero, List.take_succ_cons, List.take_zero, Lib.leNat]
    omega

theorem le_two4 (l : List UInt8) (b0 b1 : UInt8) (h0 : l[4]? = some b0) (h1 : l[5]? = some b1) : le l 4 2 = b0.toNat + b1.toNat * 256 := by
  match l, h0, h1 with
  | _ :: _ :: _ :: _ :: a :: b :: r, h0, h1 =>
    simp at h0 h1
    subst h0 h1
    simp only [le, List.drop_succ_cons, List.drop_zero, List.take_succ_cons, List.take_zero, Lib.leNat]
    omega

theorem quadw64 (b0 b1 b2 b3 r : Nat) (h : r = b0 + b1 * 256 + b2 * 65536 + b3 * 16777216) (h0 : b0 < 256) (h1 : b1 < 256) (h2 : b2 < 256) (h3 : b3 < 256) :
    IntKind.u64.wrap (IntKind.u64.wrap (IntKind.u64.wrap (IntKind.u64.wrap (b0 : Int) + IntKind.u64.wrap (IntKind.u64.wrap (b1 : Int) * 256)) + IntKind.u64.wrap (IntKind.u64.wrap (b2 : Int) * 65536)) + IntKind.u64.wrap (IntKind.u64.wrap (b3 : Int) * 16777216)) = (r : Int) := by
  simp only [IntKind.wrap_u64]
  omega

/-- What read answers. -/
def ReadPost (n : Nat) (first : Nat) (R : Option (List Nat × List UInt8)) (w : World) (own rd : Nat → Prop) (L : List Asrt) (e : Ending) (w' : World) : Prop :=
  ∃ p2 bs c2, e = .returned (.tuple #[.slice p2 bs.length c2, .int .i64 (match R with | some _ => 0 | none => 16)]) ∧ (∀ q, R = some q → bs = q.2) ∧ (R = none → bs = []) ∧
    BunTo w own rd (L ++ [ownS 5 1 p2 bs.length c2 (byteV bs)]) w'

set_option maxHeartbeats 4000000 in
theorem read22_in {w : World} {ps : List (Nat × Nat × Nat)} {v : Nat → List UInt8} {gh n : Nat} (hb : Bundle w [rdA (some ⟨gh, 0, none⟩) (rowsV ps), rowsB ps v]) (hl : ∀ k, k < n → (v k).length = 248) (hn : ps.length = n) (z : Int) (first : Nat) (hz : (first : Int) = z) (h2 : 2 ≤ first) (hfn : first < n) (hn9 : n ≤ 1900) (R : Option (List Nat × List UInt8)) (hR : walkC v n 40 first [] [] = R) :
    Calls Tryz.prog 30 #[.slice (some ⟨gh, 0, none⟩) n n, .int .u32 z] w (ReadPost n first R w (ownL [rdA (some ⟨gh, 0, none⟩) (rowsV ps), rowsB ps v]) (rdL [rdA (some ⟨gh, 0, none⟩) (rowsV ps), rowsB ps v]) [rdA (some ⟨gh, 0, none⟩) (rowsV ps), rowsB ps v]) := by
  subst hz
  have H := hb.open_
  obtain ⟨O, hO⟩ : ∃ O, ownL [rdA (some ⟨gh, 0, none⟩) (rowsV ps), rowsB ps v] = O := ⟨_, rfl⟩
  obtain ⟨R0, hR0⟩ : ∃ R, rdL [rdA (some ⟨gh, 0, none⟩) (rowsV ps), rowsB ps v] = R := ⟨_, rfl⟩
  rw [hO, hR0] at H ⊢
  have HR := Lib.hid hR
  have HN9 := Lib.hid hn9
  have hf0 : 0 ≤ (first : Int) := by omega
  have hf9 : (first : Int) < 1900 := by omega
  have hn0 : 0 ≤ (n : Int) := by omega
  have hn19 : (n : Int) ≤ 1900 := by omega
  have f1 : decide ((first : Int) < 2) = false := decide_eq_false (by omega)
  have f3 : ¬ (n : Int) ≤ (first : Int) := by omega
  have f4 : ¬ n ≤ first := by omega
  clear hb hO hR0 hR hn9
  go_enter Tryz.func30, Tryz.ntmps30
  go_upto_region 6 with fail
  replace H := H.addNil 5 1
  replace H : St O R0 w _ [rdA (some ⟨gh, 0, none⟩) (rowsV ps), rowsB ps v, ownS 5 1 none 0 0 []] := H
  have HPN := Lib.hid hn
  have HLN := Lib.hid hl
  have HFN := Lib.hid hfn
  have H2F := Lib.hid h2
  clear f1 f3 f4 hf9 hn hl h2 hfn
  go_loopw [6, 7, 8] (fun bv hv u wr => ∃ (fuel i h : Nat) (hs : List Nat) (bs : List UInt8) (p2 : Option Addr) (c2 : Nat), bv = .slice p2 bs.length c2 ∧ hv = .int .i64 (h : Int) ∧ u = .int .i64 (i : Int) ∧ i + fuel = 40 ∧ 2 ≤ h ∧ h < n ∧ bs.length ≤ 242 * i ∧ walkC v n fuel h hs bs = R ∧ St O R0 w wr [rdA (some ⟨gh, 0, none⟩) (rowsV ps), rowsB ps v, ownS 5 1 p2 bs.length c2 (byteV bs)]) (fun _ _ u _ => 41 - (intOf u).toNat)
  case atStart => exact ⟨40, 0, first, [], [], none, 0, rfl, rfl, rfl, rfl, H2F.out, HFN.out, Nat.zero_le _, HR.out, H⟩
  case round =>
    clear H
    obtain ⟨fuel, i, h, hs, bs, p2, c2, rfl, rfl, rfl, hfu, hh2, hhn, hbl, hwk, H⟩ := hrel
    have hi0 : 0 ≤ (i : Int) := by omega
    have hi40 : (i : Int) ≤ 40 := by omega
    have hh0 : 0 ≤ (h : Int) := by omega
    have hh9 : (h : Int) < 1900 := by omega
    have hhi : (h : Int) < (n : Int) := by omega
    rcases Nat.eq_zero_or_pos fuel with h0 | h0
    · obtain rfl : fuel = 0 := h0
      obtain rfl : i = 40 := by omega
      have HW := Lib.hid ((walkC_off (by omega) (.inr (.inr rfl))).symm.trans hwk)
      clear hwk hfu hbl
      go_wp2
      refine bodyPost_ret (results_tmp2 rfl _ _ _) rfl ?_
      refine ⟨none, [], 0, by rw [← HW.out]; rfl, fun q hq => by { rw [← HW.out] at hq; cases hq }, fun _ => rfl, ?_⟩
      exact (((H.take 2).addNil 5 1) : St O R0 w _ [rdA (some ⟨gh, 0, none⟩) (rowsV ps), rowsB ps v, ownS 5 1 none 0 0 []]).bunTo
    · obtain ⟨f, rfl⟩ : ∃ f, fuel = f + 1 := ⟨fuel - 1, by omega⟩
      have hi39 : (i : Int) < 40 := by omega
      obtain ⟨p, hp⟩ : ∃ p, ps[h]? = some p := ⟨_, List.getElem?_eq_getElem (by rw [HPN.out]; exact hhn)⟩
      have hcell := rowsV_cell (H.at 0 rfl) hp
      obtain ⟨gc, off, cap⟩ := p
      have HP := Lib.hid hp
      dsimp only at hcell
      have hll := HLN.out h hhn
      have HLL := Lib.hid hll
      have HFU := Lib.hid hfu
      have HBL := Lib.hid hbl
      have HHN := Lib.hid hhn
      have HH2 := Lib.hid hh2
      obtain ⟨b0, hb0⟩ : ∃ b, (v h)[0]? = some b := ⟨_, List.getElem?_eq_getElem (by omega)⟩
      obtain ⟨b1, hb1⟩ : ∃ b, (v h)[1]? = some b := ⟨_, List.getElem?_eq_getElem (by omega)⟩
      obtain ⟨b2, hb2⟩ : ∃ b, (v h)[2]? = some b := ⟨_, List.getElem?_eq_getElem (by omega)⟩
      obtain ⟨b3, hb3⟩ : ∃ b, (v h)[3]? = some b := ⟨_, List.getElem?_eq_getElem (by omega)⟩
      obtain ⟨b4, hb4⟩ : ∃ b, (v h)[4]? = some b := ⟨_, List.getElem?_eq_getElem (by omega)⟩
      obtain ⟨b5, hb5⟩ : ∃ b, (v h)[5]? = some b := ⟨_, List.getElem?_eq_getElem (by omega)⟩
      obtain ⟨nx, hnx⟩ : ∃ nx, le (v h) 0 4 = nx := ⟨_, rfl⟩
      obtain ⟨k, hk⟩ : ∃ k, le (v h) 4 2 = k := ⟨_, rfl⟩
      have HB0 := Lib.hid hb0
      have HB1 := Lib.hid hb1
      have HB2 := Lib.hid hb2
      have HB3 := Lib.hid hb3
      have HB4 := Lib.hid hb4
      have HB5 := Lib.hid hb5
      have HQ4 := Lib.hid (show nx = b0.toNat + b1.toNat * 256 + b2.toNat * 65536 + b3.toNat * 16777216 from hnx.symm.trans (le_four _ _ _ _ _ hb0 hb1 hb2 hb3))
      have HQ2 := Lib.hid (show b4.toNat + b5.toNat * 256 = k from (hk.symm.trans (le_two4 _ _ _ hb4 hb5)).symm)
      have HK9 := Lib.hid (show k < 65536 by rw [← hk]; exact le_lt2 _ hll)
      have HNX9 := Lib.hid (show nx < 4294967296 by rw [← hnx]; exact le_lt4 _ hll)
      have HHOM := Lib.hid (show (v h).length = 248 from hll)
      have HWK := Lib.hid (show (if 242 < k ∨ (nx ≠ 0 ∧ k < 242) then none else walkC v n f nx (hs ++ [h]) (bs ++ ((v h).drop 6).take k)) = R by
        rw [walkC, if_neg (by omega), if_neg (by omega), hnx, hk] at hwk
        exact hwk)
      have hnx0 : 0 ≤ (nx : Int) := by omega
      have hk0 : 0 ≤ (k : Int) := by omega
      clear hp hwk hll hfu hbl hb0 hb1 hb2 hb3 hb4 hb5 hnx hk
      go_upto_region 9 with fail
      replace H := H.drew
      refine wp_region_held_drew (S := fun w' => BytesAt w' gc off (v h)) (by kernel_rfl) ((H.at 1 rfl).2 h _ HP.out).1 (fun hHeld => ?_)
      (refine wpAnyH_take (i := 0) (v := ?_) rfl (by kernel_rfl) (by kernel_rfl) (by kernel_rfl) (fun _ _ _ h => h) (Or.inl ⟨by rfl, ?_⟩) (by assumption) ?_; rotate_left; focus (intro w hSw; (try dsimp only at hSw); go_simp; all_goals (with_reducible rfl))); (try simp only [Act.put, List.setIfInBounds_toArray, List.set_cons_zero, List.set_cons_succ, List.getElem_toArray, List.getElem_cons_succ, List.getElem_cons_zero])
      (refine wpAnyH_take (i := 1) (v := ?_) rfl (by kernel_rfl) (by kernel_rfl) (by kernel_rfl) (fun _ _ _ h => h) (Or.inl ⟨by rfl, ?_⟩) (by assumption) ?_; rotate_left; focus (intro w hSw; (try dsimp only at hSw); go_simp; all_goals (with_reducible rfl))); (try simp only [Act.put, List.setIfInBounds_toArray, List.set_cons_zero, List.set_cons_succ, List.getElem_toArray, List.getElem_cons_succ, List.getElem_cons_zero])
      (refine wpAnyH_take (i := 2) rfl (by kernel_rfl) (by kernel_rfl) (by kernel_rfl) (fun _ _ _ h => h) ((yieldsIf_load1 (by rfl) 5 _ rfl _ _ (by rfl) _ Tryz.underlying5 rfl _ (fun w h => (h.cellv HB0.out)))) (by assumption) ?_); (try simp only [Act.put, List.setIfInBounds_toArray, List.set_cons_zero, List.set_cons_succ, List.getElem_toArray, List.getElem_cons_succ, List.getElem_cons_zero])
      (refine wpAnyH_take (i := 3) (v := ?_) rfl (by kernel_rfl) (by kernel_rfl) (by kernel_rfl) (fun _ _ _ h => h) (Or.inl ⟨by rfl, ?_⟩) (by assumption) ?_; rotate_left; focus (intro w hSw; (try dsimp only at hSw); go_simp; all_goals (with_reducible rfl))); (try simp only [Act.put, List.setIfInBounds_toArray, List.set_cons_zero, List.set_cons_succ, List.getElem_toArray, List.getElem_cons_succ, List.getElem_cons_zero])
      (refine wpAnyH_take (i := 4) (v := ?_) rfl (by kernel_rfl) (by kernel_rfl) (by kernel_rfl) (fun _ _ _ h => h) (Or.inl ⟨by rfl, ?_⟩) (by assumption) ?_; rotate_left; focus (intro w hSw; (try dsimp only at hSw); go_simp; all_goals (with_reducible rfl))); (try simp only [Act.put, List.setIfInBounds_toArray, List.set_cons_zero, List.set_cons_succ, List.getElem_toArray, List.getElem_cons_succ, List.getElem_cons_zero])
      (refine wpAnyH_take (i := 5) (v := ?_) rfl (by kernel_rfl) (by kernel_rfl) (by kernel_rfl) (fun _ _ _ h => h) (Or.inl ⟨by rfl, ?_⟩) (by assumption) ?_; rotate_left; focus (intro w hSw; (try dsimp only at hSw); go_simp; all_goals (with_reducible rfl))); (try simp only [Act.put, List.setIfInBounds_toArray, List.set_cons_zero, List.set_cons_succ, List.getElem_toArray, List.getElem_cons_succ, List.getElem_cons_zero])
      (refine wpAnyH_take (i := 6) rfl (by kernel_rfl) (by kernel_rfl) (by kernel_rfl) (fun _ _ _ h => h) ((yieldsIf_load1 (by rfl) 5 _ rfl _ _ (by rfl) _ Tryz.underlying5 rfl _ (fun w h => (h.cellv HB1.out)))) (by assumption) ?_); (try simp only [Act.put, List.setIfInBounds_toArray, List.set_cons_zero, List.set_cons_succ, List.getElem_toArray, List.getElem_cons_succ, List.getElem_cons_zero])
      (refine wpAnyH_take (i := 7) (v := ?_) rfl (by kernel_rfl) (by kernel_rfl) (by kernel_rfl) (fun _ _ _ h => h) (Or.inl ⟨by rfl, ?_⟩) (by assumption) ?_; rotate_left; focus (intro w hSw; (try dsimp only at hSw); go_simp; all_goals (with_reducible rfl))); (try simp only [Act.put, List.setIfInBounds_toArray, List.set_cons_zero, List.set_cons_succ, List.getElem_toArray, List.getElem_cons_succ, List.getElem_cons_zero])
      (refine wpAnyH_take (i := 8) (v := ?_) rfl (by kernel_rfl) (by kernel_rfl) (by kernel_rfl) (fun _ _ _ h => h) (Or.inl ⟨by rfl, ?_⟩) (by assumption) ?_; rotate_left; focus (intro w hSw; (try dsimp only at hSw); go_simp; all_goals (with_reducible rfl))); (try simp only [Act.put, List.setIfInBounds_toArray, List.set_cons_zero, List.set_cons_succ, List.getElem_toArray, List.getElem_cons_succ, List.getElem_cons_zero])
      (refine wpAnyH_take (i := 9) (v := ?_) rfl (by kernel_rfl) (by kernel_rfl) (by kernel_rfl) (fun _ _ _ h => h) (Or.inl ⟨by rfl, ?_⟩) (by assumption) ?_; rotate_left; focus (intro w hSw; (try dsimp only at hSw); go_simp; all_goals (with_reducible rfl))); (try simp only [Act.put, List.setIfInBounds_toArray, List.set_cons_zero, List.set_cons_succ, List.getElem_toArray, List.getElem_cons_succ, List.getElem_cons_zero])
      (refine wpAnyH_take (i := 10) (v := ?_) rfl (by kernel_rfl) (by kernel_rfl) (by kernel_rfl) (fun _ _ _ h => h) (Or.inl ⟨by rfl, ?_⟩) (by assumption) ?_; rotate_left; focus (intro w hSw; (try dsimp only at hSw); go_simp; all_goals (with_reducible rfl))); (try simp only [Act.put, List.setIfInBounds_toArray, List.set_cons_zero, List.set_cons_succ, List.getElem_toArray, List.getElem_cons_succ, List.getElem_cons_zero])
      (refine wpAnyH_take (i := 11) (v := ?_) rfl (by kernel_rfl) (by kernel_rfl) (by kernel_rfl) (fun _ _ _ h => h) (Or.inl ⟨by rfl, ?_⟩) (by assumption) ?_; rotate_left; focus (intro w hSw; (try dsimp only at hSw); go_simp; all_goals (with_reducible rfl))); (try simp only [Act.put, List.setIfInBounds_toArray, List.set_cons_zero, List.set_cons_succ, List.getElem_toArray, List.getElem_cons_succ, List.getElem_cons_zero])
      (refine wpAnyH_take (i := 12) rfl (by kernel_rfl) (by kernel_rfl) (by kernel_rfl) (fun _ _ _ h => h) ((yieldsIf_load1 (by rfl) 5 _ rfl _ _ (by rfl) _ Tryz.underlying5 rfl _ (fun w h => (h.cellv HB2.out)))) (by assumption) ?_); (try simp only [Act.put, List.setIfInBounds_toArray, List.set_cons_zero, List.set_cons_succ, List.getElem_toArray, List.getElem_cons_succ, List.getElem_cons_zero])
      (refine wpAnyH_take (i := 13) (v := ?_) rfl (by kernel_rfl) (by kernel_rfl) (by kernel_rfl) (fun _ _ _ h => h) (Or.inl ⟨by rfl, ?_⟩) (by assumption) ?_; rotate_left; focus (intro w hSw; (try dsimp only at hSw); go_simp; all_goals (with_reducible rfl))); (try simp only [Act.put, List.setIfInBounds_toArray, List.set_cons_zero, List.set_cons_succ, List.getElem_toArray, List.getElem_cons_succ, List.getElem_cons_zero])
      (refine wpAnyH_take (i := 14) (v := ?_) rfl (by kernel_rfl) (by kernel_rfl) (by kernel_rfl) (fun _ _ _ h => h) (Or.inl ⟨by rfl, ?_⟩) (by assumption) ?_; rotate_left; focus (intro w hSw; (try dsimp only at hSw); go_simp; all_goals (with_reducible rfl))); (try simp only [Act.put, List.setIfInBounds_toArray, List.set_cons_zero, List.set_cons_succ, List.getElem_toArray, List.getElem_cons_succ, List.getElem_cons_zero])
      (refine wpAnyH_take (i := 15) (v := ?_) rfl (by kernel_rfl) (by kernel_rfl) (by kernel_rfl) (fun _ _ _ h => h) (Or.inl ⟨by rfl, ?_⟩) (by assumption) ?_; rotate_left; focus (intro w hSw; (try dsimp only at hSw); go_simp; all_goals (with_reducible rfl))); (try simp only [Act.put, List.setIfInBounds_toArray, List.set_cons_zero, List.set_cons_succ, List.getElem_toArray, List.getElem_cons_succ, List.getElem_cons_zero])
      (refine wpAnyH_take (i := 16) (v := ?_) rfl (by kernel_rfl) (by kernel_rfl) (by kernel_rfl) (fun _ _ _ h => h) (Or.inl ⟨by rfl, ?_⟩) (by assumption) ?_; rotate_left; focus (intro w hSw; (try dsimp only at hSw); go_simp; all_goals (with_reducible rfl))); (try simp only [Act.put, List.setIfInBounds_toArray, List.set_cons_zero, List.set_cons_succ, List.getElem_toArray, List.getElem_cons_succ, List.getElem_cons_zero])
      (refine wpAnyH_take (i := 17) (v := ?_) rfl (by kernel_rfl) (by kernel_rfl) (by kernel_rfl) (fun _ _ _ h => h) (Or.inl ⟨by rfl, ?_⟩) (by assumption) ?_; rotate_left; focus (intro w hSw; (try dsimp only at hSw); go_simp; all_goals (with_reducible rfl))); (try simp only [Act.put, List.setIfInBounds_toArray, List.set_cons_zero, List.set_cons_succ, List.getElem_toArray, List.getElem_cons_succ, List.getElem_cons_zero])
      (refine wpAnyH_take (i := 18) rfl (by kernel_rfl) (by kernel_rfl) (by kernel_rfl) (fun _ _ _ h => h) ((yieldsIf_load1 (by rfl) 5 _ rfl _ _ (by rfl) _ Tryz.underlying5 rfl _ (fun w h => (h.cellv HB3.out)))) (by assumption) ?_); (try simp only [Act.put, List.setIfInBounds_toArray, List.set_cons_zero, List.set_cons_succ, List.getElem_toArray, List.getElem_cons_succ, List.getElem_cons_zero])
      (refine wpAnyH_take (i := 19) (v := ?_) rfl (by kernel_rfl) (by kernel_rfl) (by kernel_rfl) (fun _ _ _ h => h) (Or.inl ⟨by rfl, ?_⟩) (by assumption) ?_; rotate_left; focus (intro w hSw; (try dsimp only at hSw); go_simp; all_goals (with_reducible rfl))); (try simp only [Act.put, List.setIfInBounds_toArray, List.set_cons_zero, List.set_cons_succ, List.getElem_toArray, List.getElem_cons_succ, List.getElem_cons_zero])
      (refine wpAnyH_take (i := 20) (v := ?_) rfl (by kernel_rfl) (by kernel_rfl) (by kernel_rfl) (fun _ _ _ h => h) (Or.inl ⟨by rfl, ?_⟩) (by assumption) ?_; rotate_left; focus (intro w hSw; (try dsimp only at hSw); go_simp; all_goals (with_reducible rfl))); (try simp only [Act.put, List.setIfInBounds_toArray, List.set_cons_zero, List.set_cons_succ, List.getElem_toArray, List.getElem_cons_succ, List.getElem_cons_zero])
      (refine wpAnyH_take (i := 21) (v := ?_) rfl (by kernel_rfl) (by kernel_rfl) (by kernel_rfl) (fun _ _ _ h => h) (Or.inl ⟨by rfl, ?_⟩) (by assumption) ?_; rotate_left; focus (intro w hSw; (try dsimp only at hSw); go_simp; all_goals (with_reducible rfl))); (try simp only [Act.put, List.setIfInBounds_toArray, List.set_cons_zero, List.set_cons_succ, List.getElem_toArray, List.getElem_cons_succ, List.getElem_cons_zero])
      (refine wpAnyH_take (i := 22) (v := ?_) rfl (by kernel_rfl) (by kernel_rfl) (by kernel_rfl) (fun _ _ _ h => h) (Or.inl ⟨by rfl, ?_⟩) (by assumption) ?_; rotate_left; focus (intro w hSw; (try dsimp only at hSw); go_simp; all_goals (with_reducible rfl))); (try simp only [Act.put, List.setIfInBounds_toArray, List.set_cons_zero, List.set_cons_succ, List.getElem_toArray, List.getElem_cons_succ, List.getElem_cons_zero])
      (refine wpAnyH_done (by kernel_rfl) ?_ _)
      clear hHeld
      go_upto_region 10 with fail
      rw [quadw64 _ _ _ _ _ HQ4.out b0.toNat_lt b1.toNat_lt b2.toNat_lt b3.toNat_lt]
      replace H := H.drew
      refine wp_region_held_drew (S := fun w' => BytesAt w' gc off (v h)) (by kernel_rfl) ((H.at 1 rfl).2 h _ HP.out).1 (fun hHeld => ?_)
      (refine wpAnyH_take (i := 0) (v := ?_) rfl (by kernel_rfl) (by kernel_rfl) (by kernel_rfl) (fun _ _ _ h => h) (Or.inl ⟨by rfl, ?_⟩) (by assumption) ?_; rotate_left; focus (intro w hSw; (try dsimp only at hSw); go_simp; all_goals (with_reducible rfl))); (try simp only [Act.put, List.setIfInBounds_toArray, List.set_cons_zero, List.set_cons_succ, List.getElem_toArray, List.getElem_cons_succ, List.getElem_cons_zero])
      (refine wpAnyH_take (i := 1) (v := ?_) rfl (by kernel_rfl) (by kernel_rfl) (by kernel_rfl) (fun _ _ _ h => h) (Or.inl ⟨by rfl, ?_⟩) (by assumption) ?_; rotate_left; focus (intro w hSw; (try dsimp only at hSw); go_simp; all_goals (with_reducible rfl))); (try simp only [Act.put, List.setIfInBounds_toArray, List.set_cons_zero, List.set_cons_succ, List.getElem_toArray, List.getElem_cons_succ, List.getElem_cons_zero])
      (refine wpAnyH_take (i := 2) rfl (by kernel_rfl) (by kernel_rfl) (by kernel_rfl) (fun _ _ _ h => h) ((yieldsIf_load1 (by rfl) 5 _ rfl _ _ (by rfl) _ Tryz.underlying5 rfl _ (fun w h => (h.cellv HB4.out)))) (by assumption) ?_); (try simp only [Act.put, List.setIfInBounds_toArray, List.set_cons_zero, List.set_cons_succ, List.getElem_toArray, List.getElem_cons_succ, List.getElem_cons_zero])
      (refine wpAnyH_take (i := 3) (v := ?_) rfl (by kernel_rfl) (by kernel_rfl) (by kernel_rfl) (fun _ _ _ h => h) (Or.inl ⟨by rfl, ?_⟩) (by assumption) ?_; rotate_left; focus (intro w hSw; (try dsimp only at hSw); go_simp; all_goals (with_reducible rfl))); (try simp only [Act.put, List.setIfInBounds_toArray, List.set_cons_zero, List.set_cons_succ, List.getElem_toArray, List.getElem_cons_succ, List.getElem_cons_zero])
      (refine wpAnyH_take (i := 4) (v := ?_) rfl (by kernel_rfl) (by kernel_rfl) (by kernel_rfl) (fun _ _ _ h => h) (Or.inl ⟨by rfl, ?_⟩) (by assumption) ?_; rotate_left; focus (intro w hSw; (try dsimp only at hSw); go_simp; all_goals (with_reducible rfl))); (try simp only [Act.put, List.setIfInBounds_toArray, List.set_cons_zero, List.set_cons_succ, List.getElem_toArray, List.getElem_cons_succ, List.getElem_cons_zero])
      (refine wpAnyH_take (i := 5) (v := ?_) rfl (by kernel_rfl) (by kernel_rfl) (by kernel_rfl) (fun _ _ _ h => h) (Or.inl ⟨by rfl, ?_⟩) (by assumption) ?_; rotate_left; focus (intro w hSw; (try dsimp only at hSw); go_simp; all_goals (with_reducible rfl))); (try simp only [Act.put, List.setIfInBounds_toArray, List.set_cons_zero, List.set_cons_succ, List.getElem_toArray, List.getElem_cons_succ, List.getElem_cons_zero])
      (refine wpAnyH_take (i := 6) rfl (by kernel_rfl) (by kernel_rfl) (by kernel_rfl) (fun _ _ _ h => h) ((yieldsIf_load1 (by rfl) 5 _ rfl _ _ (by rfl) _ Tryz.underlying5 rfl _ (fun w h => (h.cellv HB5.out)))) (by assumption) ?_); (try simp only [Act.put, List.setIfInBounds_toArray, List.set_cons_zero, List.set_cons_succ, List.getElem_toArray, List.getElem_cons_succ, List.getElem_cons_zero])
      (refine wpAnyH_take (i := 7) (v := ?_) rfl (by kernel_rfl) (by kernel_rfl) (by kernel_rfl) (fun _ _ _ h => h) (Or.inl ⟨by rfl, ?_⟩) (by assumption) ?_; rotate_left; focus (intro w hSw; (try dsimp only at hSw); go_simp; all_goals (with_reducible rfl))); (try simp only [Act.put, List.setIfInBounds_toArray, List.set_cons_zero, List.set_cons_succ, List.getElem_toArray, List.getElem_cons_succ, List.getElem_cons_zero])
      (refine wpAnyH_take (i := 8) (v := ?_) rfl (by kernel_rfl) (by kernel_rfl) (by kernel_rfl) (fun _ _ _ h => h) (Or.inl ⟨by rfl, ?_⟩) (by assumption) ?_; rotate_left; focus (intro w hSw; (try dsimp only at hSw); go_simp; all_goals (with_reducible rfl))); (try simp only [Act.put, List.setIfInBounds_toArray, List.set_cons_zero, List.set_cons_succ, List.getElem_toArray, List.getElem_cons_succ, List.getElem_cons_zero])
      (refine wpAnyH_take (i := 9) (v := ?_) rfl (by kernel_rfl) (by kernel_rfl) (by kernel_rfl) (fun _ _ _ h => h) (Or.inl ⟨by rfl, ?_⟩) (by assumption) ?_; rotate_left; focus (intro w hSw; (try dsimp only at hSw); go_simp; all_goals (with_reducible rfl))); (try simp only [Act.put, List.setIfInBounds_toArray, List.set_cons_zero, List.set_cons_succ, List.getElem_toArray, List.getElem_cons_succ, List.getElem_cons_zero])
      (refine wpAnyH_take (i := 10) (v := ?_) rfl (by kernel_rfl) (by kernel_rfl) (by kernel_rfl) (fun _ _ _ h => h) (Or.inl ⟨by rfl, ?_⟩) (by assumption) ?_; rotate_left; focus (intro w hSw; (try dsimp only at hSw); go_simp; all_goals (with_reducible rfl))); (try simp only [Act.put, List.setIfInBounds_toArray, List.set_cons_zero, List.set_cons_succ, List.getElem_toArray, List.getElem_cons_succ, List.getElem_cons_zero])
      (refine wpAnyH_done (by kernel_rfl) ?_ _)
      clear hHeld
      go_upto_region 11 with fail
      rw [pairw _ _ _ HQ2.out b4.toNat_lt b5.toNat_lt]
      by_cases c1 : nx = 1
      · have HW := Lib.hid (show none = R from by
          have := HWK.out
          split at this
          · exact this
          · rw [walkC_off (by omega) (.inl (by omega))] at this; exact this)
        have g1 : ((nx : Int) == 1) = true := by rw [c1]; rfl
        have g2 : (nx : Int) = 1 := by omega
        clear c1
        go_wp2
        refine bodyPost_ret (results_tmp2 rfl _ _ _) rfl ?_
        refine ⟨none, [], 0, by rw [← HW.out]; rfl, fun q hq => by { rw [← HW.out] at hq; cases hq }, fun _ => rfl, ?_⟩
        exact (((H.take 2).addNil 5 1) : St O R0 w _ [rdA (some ⟨gh, 0, none⟩) (rowsV ps), rowsB ps v, ownS 5 1 none 0 0 []]).bunTo
      · by_cases c2' : n ≤ nx
        · have HW := Lib.hid (show none = R from by
            have := HWK.out
            split at this
            · exact this
            · rw [walkC_off (by omega) (.inr (.inl c2'))] at this; exact this)
          have g1 : ((nx : Int) == 1) = false := beq_eq_false_iff_ne.2 (by omega)
          have g2 : ¬ (nx : Int) = 1 := by omega
          have g3 : (n : Int) ≤ (nx : Int) := by omega
          clear c1
          go_wp2
          refine bodyPost_ret (results_tmp2 rfl _ _ _) rfl ?_
          refine ⟨none, [], 0, by rw [← HW.out]; rfl, fun q hq => by { rw [← HW.out] at hq; cases hq }, fun _ => rfl, ?_⟩
          exact (((H.take 2).addNil 5 1) : St O R0 w _ [rdA (some ⟨gh, 0, none⟩) (rowsV ps), rowsB ps v, ownS 5 1 none 0 0 []]).bunTo
        · by_cases c3 : 242 < k
          · have HW := Lib.hid (show none = R from by
              have := HWK.out
              rw [if_pos (.inl c3)] at this
              exact this)
            have g1 : ((nx : Int) == 1) = false := beq_eq_false_iff_ne.2 (by omega)
            have g2 : ¬ (nx : Int) = 1 := by omega
            have g3 : ¬ (n : Int) ≤ (nx : Int) := by omega
            have g4 : decide (242 < (k : Int)) = true := decide_eq_true (by omega)
            have g5 : 242 < (k : Int) := by omega
            clear c1
            go_wp2
            refine bodyPost_ret (results_tmp2 rfl _ _ _) rfl ?_
            refine ⟨none, [], 0, by rw [← HW.out]; rfl, fun q hq => by { rw [← HW.out] at hq; cases hq }, fun _ => rfl, ?_⟩
            exact (((H.take 2).addNil 5 1) : St O R0 w _ [rdA (some ⟨gh, 0, none⟩) (rowsV ps), rowsB ps v, ownS 5 1 none 0 0 []]).bunTo
          · by_cases c4 : nx ≠ 0 ∧ k < 242
            · have HW := Lib.hid (show none = R from by
                have := HWK.out
                rw [if_pos (.inr c4)] at this
                exact this)
              have g1 : ((nx : Int) == 1) = false := beq_eq_false_iff_ne.2 (by omega)
              have g2 : ¬ (nx : Int) = 1 := by omega
              have g3 : ¬ (n : Int) ≤ (nx : Int) := by omega
              have g4 : decide (242 < (k : Int)) = false := decide_eq_false (by omega)
              have g6 : ¬ (nx : Int) = 0 := by omega
              have g7 : ((nx : Int) == 0) = false := beq_eq_false_iff_ne.2 g6
              have g8 : decide ((k : Int) < 242) = true := decide_eq_true (by omega)
              clear c1 c4
              go_wp2
              refine bodyPost_ret (results_tmp2 rfl _ _ _) rfl ?_
              refine ⟨none, [], 0, by rw [← HW.out]; rfl, fun q hq => by { rw [← HW.out] at hq; cases hq }, fun _ => rfl, ?_⟩
              exact (((H.take 2).addNil 5 1) : St O R0 w _ [rdA (some ⟨gh, 0, none⟩) (rowsV ps), rowsB ps v, ownS 5 1 none 0 0 []]).bunTo
            · have HWK2 := Lib.hid (show walkC v n f nx (hs ++ [h]) (bs ++ ((v h).drop 6).take k) = R from by
                have := HWK.out
                rw [if_neg (by omega)] at this
                exact this)
              have g1 : ((nx : Int) == 1) = false := beq_eq_false_iff_ne.2 (by omega)
              have g2 : ¬ (nx : Int) = 1 := by omega
              have g3 : ¬ (n : Int) ≤ (nx : Int) := by omega
              have g4 : decide (242 < (k : Int)) = false := decide_eq_false (by omega)
              have hg : ((nx : Int) = 0 ∧ ((nx : Int) == 0) = true) ∨ (¬ (nx : Int) = 0 ∧ ((nx : Int) == 0) = false ∧ decide ((k : Int) < 242) = false) := by
                by_cases ht : nx = 0
                · exact .inl ⟨by omega, by rw [ht]; rfl⟩
                · exact .inr ⟨by omega, beq_eq_false_iff_ne.2 (by omega), decide_eq_false (by omega)⟩
              have hk6 : (k : Int) ≤ 242 := by omega
              have HNXN := Lib.hid (show nx < n ∧ nx ≠ 1 by omega)
              have HK242 := Lib.hid (show k ≤ 242 by omega)
              have HKL := Lib.hid (show (((v h).drop 6).take k).length = k by rw [List.length_take, List.length_drop, HLL.out]; omega)
              clear c1 c2' c3 c4
              have hw1 : IntKind.i64.wrap (6 + (k : Int)) = 6 + (k : Int) := by rw [IntKind.wrap_i64]; omega
              have HC248 := Lib.hid ((H.at 1 rfl).2 h _ HP.out).2
              have hs1 : 6 + (k : Int) ≤ (cap : Int) := by have := HC248.out; dsimp only at this; omega
              have hs2 : (6 + (k : Int)).toNat = 6 + k := by omega
              have hs3 : ¬ cap = 6 := by have := HC248.out; dsimp only at this; omega
              have hs4 : 6 + k - 6 = k := by omega
              have hnx9 : (nx : Int) < 1900 := by have := HNXN.out; omega
              rcases Nat.eq_zero_or_pos k with hk00 | hk00
              · have HK00 := Lib.hid hk00
                clear hk00
                rcases hg with ⟨g6, g7⟩ | ⟨g6, g7, g8⟩
                · go_wp2_with (first
                    | (refine wpList_append_zero rfl _ _ 22 rfl _ Tryz.underlying22 size_u8 p2 bs.length c2 rfl (ownS_cap (H.at 2 rfl)) (some ⟨gc, off + 6, none⟩) (cap - 6) (by rw [HK00.out]; rfl) ?_))
                  refine bodyPost_ret (results_tmp2 rfl _ _ _) rfl ?_
                  have e0 : nx = 0 := by omega
                  have HW := HWK2.out
                  rw [e0, walkC_zero] at HW
                  have e1 : ((v h).drop 6).take k = [] := by rw [HK00.out]; rfl
                  rw [e1, List.append_nil] at HW
                  refine ⟨p2, bs, c2, by rw [← HW]; rfl, fun q hq => by { rw [← HW] at hq; cases hq; rfl }, fun hq => by { rw [← HW] at hq; cases hq }, ?_⟩
                  exact H.bunTo
                · go_wp2_with (first
                    | (refine wpList_append_zero rfl _ _ 22 rfl _ Tryz.underlying22 size_u8 p2 bs.length c2 rfl (ownS_cap (H.at 2 rfl)) (some ⟨gc, off + 6, none⟩) (cap - 6) (by rw [HK00.out]; rfl) ?_))
                  go_roundw
                  case rel => exact ⟨f, i + 1, nx, hs ++ [h], bs, p2, c2, rfl, rfl, congrArg _ (by omega), by have := HFU.out; omega, by have := HNXN.out; omega, HNXN.out.1, by have := HBL.out; omega, by have := HWK2.out; rw [show ((v h).drop 6).take k = [] by rw [HK00.out]; rfl, List.append_nil] at this; exact this, H⟩
                  case measure => have := HFU.out; simp [intOf]; omega
              · have HK0 := Lib.hid hk00
                clear hk00
                rcases hg with ⟨g6, g7⟩ | ⟨g6, g7, g8⟩
                · go_wp2_with (first
                    | (refine wpList_append_ownS H 2 rfl _ _ 22 rfl _ Tryz.underlying22 _ 1 1 info_u8 rfl (by omega) p2 bs.length c2 rfl _ rfl ⟨gc, off + 6, none⟩ k (cap - 6) rfl (byteV (((v h).drop 6).take k)) (by rw [byteV_length, HKL.out, Nat.mul_one]) (fun j u hu => by rw [Addr.add_lit]; exact drop_cell ((H.at 1 rfl).2 h _ HP.out).1 6 k hu) (byteV_one _) HK0.out (by have := HBL.out; have := HFU.out; have := HK242.out; simp only [maxLen]; omega) (by have := HBL.out; have := HFU.out; have := HK242.out; omega) ?_; clear H; intro W gq d2 H))
                  refine bodyPost_ret (results_tmp2 rfl _ _ _) rfl ?_
                  have e0 : nx = 0 := by omega
                  have HW := HWK2.out
                  rw [e0, walkC_zero] at HW
                  have e1 := HKL.out
                  refine ⟨some ⟨gq, 0, none⟩, bs ++ ((v h).drop 6).take k, d2, by rw [← HW, List.length_append, e1]; rfl, fun q hq => by { rw [← HW] at hq; cases hq; rfl }, fun hq => by { rw [← HW] at hq; cases hq }, ?_⟩
                  rw [List.length_append, e1, show byteV (bs ++ ((v h).drop 6).take k) = byteV bs ++ byteV (((v h).drop 6).take k) by simp [byteV]]
                  exact (show St O R0 w _ [rdA (some ⟨gh, 0, none⟩) (rowsV ps), rowsB ps v, ownS 5 1 (some ⟨gq, 0, none⟩) (bs.length + k) d2 (byteV bs ++ byteV (((v h).drop 6).take k))] from H).bunTo
                · go_wp2_with (first
                    | (refine wpList_append_ownS H 2 rfl _ _ 22 rfl _ Tryz.underlying22 _ 1 1 info_u8 rfl (by omega) p2 bs.length c2 rfl _ rfl ⟨gc, off + 6, none⟩ k (cap - 6) rfl (byteV (((v h).drop 6).take k)) (by rw [byteV_length, HKL.out, Nat.mul_one]) (fun j u hu => by rw [Addr.add_lit]; exact drop_cell ((H.at 1 rfl).2 h _ HP.out).1 6 k hu) (byteV_one _) HK0.out (by have := HBL.out; have := HFU.out; have := HK242.out; simp only [maxLen]; omega) (by have := HBL.out; have := HFU.out; have := HK242.out; omega) ?_; clear H; intro W gq d2 H))
                  go_roundw
                  case rel => exact ⟨f, i + 1, nx, hs ++ [h], bs ++ ((v h).drop 6).take k, some ⟨gq, 0, none⟩, d2, by rw [List.length_append, HKL.out], rfl, congrArg _ (by omega), by have := HFU.out; omega, by have := HNXN.out; omega, HNXN.out.1, by have := HBL.out; have := HK242.out; rw [List.length_append, HKL.out]; omega, HWK2.out, by rw [List.length_append, HKL.out, show byteV (bs ++ ((v h).drop 6).take k) = byteV bs ++ byteV (((v h).drop 6).take k) by simp [byteV]]; exact H⟩
                  case measure => have := HFU.out; simp [intOf]; omega

theorem read22_bad {w : World} (ph : Option Addr) (n ch : Nat) (z : Int) (first : Nat) (hz : (first : Int) = z) (hf : first < 2 ∨ n ≤ first) (hn9 : n ≤ 1900) (hf9 : first < 4294967296) :
    Calls Tryz.prog 30 #[.slice ph n ch, .int .u32 z] w fun e w' => e = .returned (.tuple #[.slice none 0 0, .int .i64 1]) ∧ w = w' := by
  subst hz
  have hf0 : 0 ≤ (first : Int) := by omega
  have hf8 : (first : Int) < 4294967296 := by omega
  have hn0 : 0 ≤ (n : Int) := by omega
  have hn19 : (n : Int) ≤ 1900 := by omega
  by_cases h2 : first < 2
  · have f1 : decide ((first : Int) < 2) = true := decide_eq_true (by omega)
    clear hf h2 hf9
    go_enter Tryz.func30, Tryz.ntmps30
    go_wp2
    refine bodyPost_ret (results_tmp2 rfl _ _ _) rfl ?_
    exact ⟨rfl, rfl⟩
  · have f1 : decide ((first : Int) < 2) = false := decide_eq_false (by omega)
    have f2 : n ≤ first := by omega
    have f3 : (n : Int) ≤ (first : Int) := by omega
    clear hf h2 hf9
    go_enter Tryz.func30, Tryz.ntmps30
    go_wp2
    refine bodyPost_ret (results_tmp2 rfl _ _ _) rfl ?_
    exact ⟨rfl, rfl⟩

end Go.Proofs.YtlgciddnpinpbaaGreatDoor
