/- Texts of this proof, packed. -/
import Derived.Test.YtlgciddnpinpbaaGreatDoorPkBase4
import Derived.WalkKit
import Derived.LaidEql
import Derived.Stop.Asserts
import Derived.RowKitTokens
set_option linter.unusedSimpArgs false
set_option linter.unusedVariables false
namespace Go.Proofs.YtlgciddnpinpbaaGreatDoor
open Go.RowKit Go.Extern.Stop Go.Stop Go.Extern
set_option maxRecDepth 4000
theorem AsR.valueOf27 (t : Addr) (w : World) : (ReflectliteValue.unpack (.iface 186 (.pointer (some t)))).run Tryz.prog w
  = .ok (.agg #[.pointer (some ⟨2, 186, none⟩), .pointer (some ⟨w.heap.size, 0, none⟩), .int .u64 150]) (w.alloc (.cells #[.pointer (some t)] 186)) := by kernel_rfl
theorem AsR.type27 (a : Addr) (w : World) : (ReflectliteValue.methodAny (ReflectliteValue.valueError "reflectlite.Value.Type" 0) (fun t _ _ _ => ReflectliteType.toType t) #[.agg #[.pointer (some ⟨2, 186, none⟩), .pointer (some a), .int .u64 150]]).run Tryz.prog w
  = .ok (.iface 253 (.agg #[.pointer (some ⟨2, 186, none⟩)])) w := by kernel_rfl
theorem AsR.methodKind (h : Value) (w : World) : (Go.method 428 253 (.agg #[h]) "Kind").run Tryz.prog w = .ok (225, h) w := by kernel_rfl
theorem AsR.kind27 (w : World) : ((ReflectliteType.abiMethod fun t => (fun a : Nat => Value.int IntKind.u8 (a : Int)) <$> Rtype.kind t) #[.pointer (some ⟨2, 186, none⟩)]).run Tryz.prog w = .ok (.int .u8 22) w := by kernel_rfl
theorem AsR.kind25 (w : World) : ((ReflectliteType.abiMethod fun t => (fun a : Nat => Value.int IntKind.u8 (a : Int)) <$> Rtype.kind t) #[.pointer (some ⟨2, 185, none⟩)]).run Tryz.prog w = .ok (.int .u8 22) w := by kernel_rfl
theorem AsR.parts27 (a : Addr) (w : World) : (ReflectliteValue.parts (.agg #[.pointer (some ⟨2, 186, none⟩), .pointer (some a), .int .u64 150])).run Tryz.prog w = .ok (some (186, a, 150)) w := by kernel_rfl
theorem AsR.isNil27 (a p : Addr) (W : World) (ha : W.cell? a = some (.pointer (some p))) :
  (ReflectliteValue.method (ReflectliteValue.valueError "reflectlite.Value.IsNil" 0) ReflectliteValue.isNil #[.agg #[.pointer (some ⟨2, 186, none⟩), .pointer (some a), .int .u64 150]]).run Tryz.prog W = .ok (.bool false) W := by
 rw [rlm]
 simp only [Sem.run_bind, AsR.parts27, Result.andThen]
 simp [ReflectliteValue.isNil, loadVar, isAgg, underlying, Tryz.underlying186, ha, Result.andThen]
theorem AsR.methodElem (h : Value) (w : World) : (Go.method 428 253 (.agg #[h]) "Elem").run Tryz.prog w = .ok (246, .agg #[h]) w := by kernel_rfl
theorem AsR.methodImplements (h : Value) (w : World) : (Go.method 428 253 (.agg #[h]) "Implements").run Tryz.prog w = .ok (247, .agg #[h]) w := by kernel_rfl
theorem AsR.methodAssignableTo (h : Value) (w : World) : (Go.method 428 253 (.agg #[h]) "AssignableTo").run Tryz.prog w = .ok (244, .agg #[h]) w := by kernel_rfl
theorem AsR.elem27 (w : World) : (ReflectliteType.method ReflectliteType.elem #[.agg #[.pointer (some ⟨2, 186, none⟩)]]).run Tryz.prog w = .ok (.iface 253 (.agg #[.pointer (some ⟨2, 185, none⟩)])) w := by kernel_rfl
theorem AsR.implements25 (w : World) : (ReflectliteType.relation "Implements" ReflectliteType.implements_ #[.agg #[.pointer (some ⟨2, 185, none⟩)], .iface 253 (.agg #[.pointer (some ⟨2, 114, none⟩)])]).run Tryz.prog w = .ok (.bool true) w := by kernel_rfl
theorem AsR.typeOf25 (v : Value) (w : World) : (ReflectliteType.typeOf #[.iface 185 v]).run Tryz.prog w = .ok (.iface 253 (.agg #[.pointer (some ⟨2, 185, none⟩)])) w := by kernel_rfl
theorem AsR.assignable25 (w : World) : (ReflectliteType.relation "AssignableTo" ReflectliteType.assignableTo #[.agg #[.pointer (some ⟨2, 185, none⟩)], .iface 253 (.agg #[.pointer (some ⟨2, 185, none⟩)])]).run Tryz.prog w = .ok (.bool true) w := by kernel_rfl
theorem AsR.valueOf25 (e : Addr) (w : World) : (ReflectliteValue.unpack (.iface 185 (.pointer (some e)))).run Tryz.prog w
  = .ok (.agg #[.pointer (some ⟨2, 185, none⟩), .pointer (some ⟨w.heap.size, 0, none⟩), .int .u64 150]) (w.alloc (.cells #[.pointer (some e)] 185)) := by kernel_rfl
theorem AsR.elemOf27 (w : World) : (Rtype.elem? 186).run Tryz.prog w = .ok (some 185) w := by kernel_rfl
theorem AsR.mk25 (p : Addr) (w : World) : (ReflectliteValue.mk 185 p ReflectliteValue.flagAddr).run Tryz.prog w = .ok (.agg #[.pointer (some ⟨2, 185, none⟩), .pointer (some p), .int .u64 406]) w := by kernel_rfl
theorem AsR.elemV27 (a p : Addr) (W : World) (ha : W.cell? a = some (.pointer (some p))) :
  (ReflectliteValue.method (ReflectliteValue.valueError "reflectlite.Value.Elem" 0) ReflectliteValue.elem #[.agg #[.pointer (some ⟨2, 186, none⟩), .pointer (some a), .int .u64 150]]).run Tryz.prog W
   = .ok (.agg #[.pointer (some ⟨2, 185, none⟩), .pointer (some p), .int .u64 406]) W := by
 rw [rlm]
 simp only [Sem.run_bind, AsR.parts27, Result.andThen]
 simp [ReflectliteValue.elem, loadVar, isAgg, underlying, Tryz.underlying186, ha, Result.andThen, AsR.elemOf27, AsR.mk25]
theorem AsR.parts25a (a : Addr) (w : World) : (ReflectliteValue.parts (.agg #[.pointer (some ⟨2, 185, none⟩), .pointer (some a), .int .u64 406])).run Tryz.prog w = .ok (some (185, a, 406)) w := by kernel_rfl
theorem AsR.parts25 (a : Addr) (w : World) : (ReflectliteValue.parts (.agg #[.pointer (some ⟨2, 185, none⟩), .pointer (some a), .int .u64 150])).run Tryz.prog w = .ok (some (185, a, 150)) w := by kernel_rfl
theorem AsR.direct25 (w : World) : (Rtype.directlyAssignable 185 185).run Tryz.prog w = .ok true w := by kernel_rfl
theorem AsR.set25 (ta b e : Addr) (old : Value) (W : World) (hb : W.cell? b = some (.pointer (some e))) (ht : W.cell? ta = some old) (hf : W.frozen? ta = false) :
  (ReflectliteValue.set #[.agg #[.pointer (some ⟨2, 185, none⟩), .pointer (some ta), .int .u64 406], .agg #[.pointer (some ⟨2, 185, none⟩), .pointer (some b), .int .u64 150]]).run Tryz.prog W
   = .ok (.tuple #[]) (W.setCell ta (.pointer (some e))) := by
 rw [rls]
 simp only [Sem.run_bind, AsR.parts25a, AsR.parts25, Result.andThen]
 simp [ReflectliteValue.flagAddr, loadVar, isAgg, underlying, Tryz.underlying185, hb, Result.andThen, AsR.direct25, storeVar, Value.cells, storeCells, Addr.add]
 rw [run_store Tryz.prog W ta _ _ (by rfl)]
 simp [ht, hf]
set_option maxHeartbeats 4000000 in
theorem as_hitR (e t : Addr) (old : Value) (w : World) (hg : w.cell? ⟨0, 0, none⟩ = some (.iface 253 (.agg #[.pointer (some ⟨2, 114, none⟩)]))) (ht0 : w.cell? t = some old) (hf0 : w.frozen? t = false) :
  Calls Tryz.prog 102 #[.iface 185 (.pointer (some e)), .iface 186 (.pointer (some t))] w fun ev w' => ev = .returned (.bool true) ∧ w' = ((((w.alloc (.cells #[.pointer (some t)] 186)).alloc (.cells #[.pointer (some ⟨2, 186, none⟩), .pointer (some ⟨w.heap.size, 0, none⟩), .int .u64 150] 207)).alloc (.cells #[.pointer (some ⟨2, 186, none⟩), .pointer (some ⟨w.heap.size, 0, none⟩), .int .u64 150] 207)).alloc (.cells #[.pointer (some e)] 185)).setCell t (.pointer (some e)) := by
 have h6 := @run_callFunc_extern Tryz.prog 136 _ (fun args => ReflectliteValue.unpack (args.getD 0 (.tuple #[]))) Tryz.func136 (by kernel_rfl) (by kernel_rfl) (by kernel_rfl) (by kernel_rfl)
 have h7 := @run_callFunc_extern Tryz.prog 137 _ (ReflectliteValue.methodAny (ReflectliteValue.valueError "reflectlite.Value.Type" 0) (fun t _ _ _ => ReflectliteType.toType t)) Tryz.func137 (by kernel_rfl) (by kernel_rfl) (by kernel_rfl) (by kernel_rfl)
 have h8 := @run_callFunc_extern Tryz.prog 138 _ (ReflectliteValue.method (ReflectliteValue.valueError "reflectlite.Value.IsNil" 0) ReflectliteValue.isNil) Tryz.func138 (by kernel_rfl) (by kernel_rfl) (by kernel_rfl) (by kernel_rfl)
 have h27 := @run_callFunc_extern Tryz.prog 225 _ (ReflectliteType.abiMethod fun t => do pure (.int .u8 (← Rtype.kind t))) Tryz.func225 (by kernel_rfl) (by kernel_rfl) (by kernel_rfl) (by kernel_rfl)
 have h37 := @run_callFunc_extern Tryz.prog 246 _ (ReflectliteType.method ReflectliteType.elem) Tryz.func246 (by kernel_rfl) (by kernel_rfl) (by kernel_rfl) (by kernel_rfl)
 have h38 := @run_callFunc_extern Tryz.prog 247 _ (ReflectliteType.relation "Implements" ReflectliteType.implements_) Tryz.func247 (by kernel_rfl) (by kernel_rfl) (by kernel_rfl) (by kernel_rfl)
 have h10 := @run_callFunc_extern Tryz.prog 174 _ ReflectliteType.typeOf Tryz.func174 (by kernel_rfl) (by kernel_rfl) (by kernel_rfl) (by kernel_rfl)
 have h35 := @run_callFunc_extern Tryz.prog 244 _ (ReflectliteType.relation "AssignableTo" ReflectliteType.assignableTo) Tryz.func244 (by kernel_rfl) (by kernel_rfl) (by kernel_rfl) (by kernel_rfl)
 have h11 := @run_callFunc_extern Tryz.prog 175 _ (ReflectliteValue.method (ReflectliteValue.valueError "reflectlite.Value.Elem" 0) ReflectliteValue.elem) Tryz.func175 (by kernel_rfl) (by kernel_rfl) (by kernel_rfl) (by kernel_rfl)
 have h12 := @run_callFunc_extern Tryz.prog 176 _ ReflectliteValue.set Tryz.func176 (by kernel_rfl) (by kernel_rfl) (by kernel_rfl) (by kernel_rfl)
 have tO := AsR.typeOf25
 have mA := AsR.methodAssignableTo
 have a25 := AsR.assignable25
 have v25 := AsR.valueOf25
 have f6 := AsR.valueOf27
 have f7 := AsR.type27
 have mK := AsR.methodKind
 have mE := AsR.methodElem
 have mI := AsR.methodImplements
 have k27 := AsR.kind27
 have k25 := AsR.kind25
 have e27 := AsR.elem27
 have i25 := AsR.implements25
 have n8 := AsR.isNil27 ⟨w.heap.size, 0, none⟩ t ((w.alloc (.cells #[.pointer (some t)] 186)).alloc (.cells #[.pointer (some ⟨2, 186, none⟩), .pointer (some ⟨w.heap.size, 0, none⟩), .int .u64 150] 207)) (by simp)
 have hlt : 0 < w.heap.size := by
  rcases Nat.eq_zero_or_pos w.heap.size with h0 | h
  ·simp [World.cell?, h0] at hg
  ·exact h
 have hg2 : ((w.alloc (.cells #[.pointer (some t)] 186)).alloc (.cells #[.pointer (some ⟨2, 186, none⟩), .pointer (some ⟨w.heap.size, 0, none⟩), .int .u64 150] 207)).cell? ⟨0, 0, none⟩ = some (.iface 253 (.agg #[.pointer (some ⟨2, 114, none⟩)])) := by
  rw [World.cell?_alloc_lt _ _ ⟨0, 0, none⟩ (by simp), World.cell?_alloc_lt _ _ ⟨0, 0, none⟩ hlt]; exact hg
 have htl : t.block < w.heap.size := by
  rcases Nat.lt_or_ge t.block w.heap.size with h | h
  ·exact h
  ·simp [World.cell?, Array.getElem?_eq_none h] at ht0
 have el := AsR.elemV27 ⟨w.heap.size, 0, none⟩ t (((w.alloc (.cells #[.pointer (some t)] 186)).alloc (.cells #[.pointer (some ⟨2, 186, none⟩), .pointer (some ⟨w.heap.size, 0, none⟩), .int .u64 150] 207)).alloc (.cells #[.pointer (some ⟨2, 186, none⟩), .pointer (some ⟨w.heap.size, 0, none⟩), .int .u64 150] 207)) (by rw [World.cell?_alloc_lt _ _ ⟨w.heap.size, 0, none⟩ (by simp; omega)]; simp)
 have st := AsR.set25 t ⟨w.heap.size + 1 + 1 + 1, 0, none⟩ e old ((((w.alloc (.cells #[.pointer (some t)] 186)).alloc (.cells #[.pointer (some ⟨2, 186, none⟩), .pointer (some ⟨w.heap.size, 0, none⟩), .int .u64 150] 207)).alloc (.cells #[.pointer (some ⟨2, 186, none⟩), .pointer (some ⟨w.heap.size, 0, none⟩), .int .u64 150] 207)).alloc (.cells #[.pointer (some e)] 185))
  (by rw [World.cell?_alloc_at _ _ _ _ (by simp)]; rfl)
  (by rw [World.cell?_alloc_lt _ _ t (by simp; omega), World.cell?_alloc_lt _ _ t (by simp; omega), World.cell?_alloc_lt _ _ t (by simp; omega), World.cell?_alloc_lt _ _ t htl]; exact ht0)
  (by rw [World.frozen?_alloc_old _ _ t (by simp; omega), World.frozen?_alloc_old _ _ t (by simp; omega), World.frozen?_alloc_old _ _ t (by simp; omega), World.frozen?_alloc_old _ _ t (Nat.ne_of_lt htl)]; exact hf0)
 go_enter Tryz.func102, Tryz.ntmps102
 go_wp2
 refine wp_loop_rounds 1 ?_
 rw [rounds_succ]
 go_wp2
 go_ret
 exact ⟨rfl, rfl⟩
theorem zero_faultR : (Tryz.prog.info? 185).bind (·.zero) = some (.pointer none) := by kernel_rfl
def faultVR (g : Nat) : Value := .iface 185 (.pointer (some ⟨g, 0, none⟩))
def faultOR (c : Int) (inner : Value) : Obj := .cells #[.int .i64 c, inner] 188 (0, 0)
theorem zero_faultSR : (Tryz.prog.info? 188).bind (·.zero) = some (.agg #[.int .i64 0, .nilIface]) := by kernel_rfl
theorem bad_noR (c : Int) (hc : (c == 0) = false) (w : World) : Calls Tryz.prog 123 #[.int .i64 c] w fun e w' => ∃ ge, e = .returned (faultVR ge) ∧ w.heap.size ≤ ge ∧ w'.heap[ge]? = some (faultOR c .nilIface) ∧ Below w.heap.size w w' := by
 have H := St.nil NoBlk NoBlk w
 have hc2 : ¬ c = 0 := beq_eq_false_iff_ne.1 hc
 go_enter Tryz.func123, Tryz.ntmps123
 go_wp2_with (first
  | (refine wpList_alloc_st H rfl 188 rfl _ zero_faultSR ?_; clear H; intro W ge H; simp only [List.nil_append] at H)
  | (refine wpList_store1_st H 0 rfl 31 _ _ rfl _ _ (.int .i64 c) rfl rfl rfl _ _ rfl rfl (by simp [Value.cells]) ?_; clear H; intro W H; simp only [List.set_cons_zero] at H)
  | (refine wpList_box_st H rfl 188 _ rfl (.agg #[.int .i64 c, .nilIface]) rfl ?_; clear H; intro W ge H; simp only [List.nil_append] at H))
 go_ret
 exact ⟨ge, rfl, by rcases H.mine 0 _ rfl ge rfl with h | h; exact h; exact h.elim, H.at 0 rfl, H.fix.below⟩
theorem as_faultR {M0 R0 : Nat → Prop} {w0 W : World} {L : List Asrt} (H : St M0 R0 w0 W L) (i : Nat) {gt : Nat} {old : Value} (hi : L[i]? = some (blk gt (.cells #[old] 185 (0, 0)))) (hg : errA.prop W) (ge : Nat) :
  Calls Tryz.prog 102 #[faultVR ge, .iface 186 (.pointer (some ⟨gt, 0, none⟩))] W fun ev w' => ev = .returned (.bool true) ∧ St M0 R0 w0 w' (L.set i (blk gt (.cells #[.pointer (some ⟨ge, 0, none⟩)] 185 (0, 0)))) := by
 have hb : W.heap[gt]? = some (.cells #[old] 185 (0, 0)) := H.at i hi
 have hc : W.cell? ⟨gt, 0, none⟩ = some old := by rw [cell_of_row W gt 0 _ _ _ hb]; rfl
 have hf : W.frozen? ⟨gt, 0, none⟩ = false := frozen_of_row W gt 0 _ _ hb
 refine (as_hitR ⟨ge, 0, none⟩ ⟨gt, 0, none⟩ old W hg.2 hc hf).mono ?_
 rintro ev w' ⟨rfl, rfl⟩
 refine ⟨rfl, ?_⟩
 have H1 := (((H.stay (Fix.alloc NoBlk _ (.cells #[.pointer (some ⟨gt, 0, none⟩)] 186))).stay (Fix.alloc NoBlk _ (.cells #[.pointer (some ⟨2, 186, none⟩), .pointer (some ⟨W.heap.size, 0, none⟩), .int .u64 150] 207))).stay (Fix.alloc NoBlk _ (.cells #[.pointer (some ⟨2, 186, none⟩), .pointer (some ⟨W.heap.size, 0, none⟩), .int .u64 150] 207))).stay (Fix.alloc NoBlk _ (.cells #[.pointer (some ⟨ge, 0, none⟩)] 185))
 exact H1.setCell i hi 0 _
theorem code_faultR (ge : Nat) (c : Int) (inner : Value) (w : World) (hg : errA.prop w) (he : w.heap[ge]? = some (faultOR c inner)) :
  Calls Tryz.prog 80 #[faultVR ge] w fun e w' => e = .returned (.int .i64 c) ∧ Below w.heap.size w w' := by
 have H : St NoBlk (fun _ => True) w w [errA, imm ge (faultOR c inner)] := St.reads_only [errA, imm ge (faultOR c inner)] (by
  intro B hB
  simp only [List.mem_cons, List.not_mem_nil, or_false] at hB
  rcases hB with rfl | rfl
  ·exact ⟨hg, fun _ h => h⟩
  ·exact ⟨he, fun _ h => h⟩)
 clear hg he
 unfold faultVR
 go_enter Tryz.func80, Tryz.ntmps80
 go_wp2_with (first
  | (refine wpList_alloc_st H rfl 185 rfl _ zero_faultR ?_; clear H; intro W gf H; simp only [List.cons_append, List.nil_append] at H)
  | (go_at_call 102; go_loud ((refine (as_faultR H 2 rfl (H.at 0 rfl) ge).mono ?_); rintro e W' ⟨rfl, H1⟩; clear H; have H := H1; clear H1; simp only [List.set_cons_zero, List.set_cons_succ] at H))
  | (refine wpList_load1_st rfl 185 _ rfl _ _ rfl _ _ _ (H.at 2 rfl) _ Tryz.underlying185 rfl _ rfl ?_)
  | (refine wpList_load1_st rfl 31 _ rfl _ _ rfl _ _ _ (H.at 1 rfl : _ = some (faultOR c inner)) _ Tryz.underlying31 rfl _ rfl ?_))
 go_ret
 exact ⟨rfl, H.fix.below⟩
theorem below_faultR (ge : Nat) (c : Int) (inner : Value) (w : World) (hg : errA.prop w) (he : w.heap[ge]? = some (faultOR c inner)) :
  Calls Tryz.prog 117 #[faultVR ge] w fun e w' => ∃ ge', e = .returned (faultVR ge') ∧ w.heap.size ≤ ge' ∧ w'.heap[ge']? = some (faultOR c (faultVR ge)) ∧ Below w.heap.size w w' := by
 have HC := Lib.hid (code_faultR ge c inner w hg he)
 have H := St.nil NoBlk NoBlk w
 clear hg he
 unfold faultVR at HC ⊢
 go_enter Tryz.func117, Tryz.ntmps117
 go_wp2_with (first
  | (go_at_call 80; go_loud ((refine (HC.out).mono ?_); rintro e W ⟨rfl, hb⟩; replace H := H.stay (Fix.of_below hb _); clear hb))
  | (refine wpList_alloc_st H rfl 188 rfl _ zero_faultSR ?_; clear H; intro W g2 H; simp only [List.nil_append] at H)
  | (refine wpList_store1_st H 0 rfl 31 _ _ rfl _ _ (.int .i64 c) rfl rfl rfl _ _ rfl rfl (by simp [Value.cells]) ?_; clear H; intro W H; simp only [List.set_cons_zero] at H)
  | (refine wpList_store1_st H 0 rfl 114 _ _ rfl _ _ _ rfl rfl rfl _ _ rfl rfl (by simp [Value.cells]) ?_; clear H; intro W H; simp only [List.set_cons_zero] at H))
 go_ret
 have H2 := H.alloc (faultOR c (.iface 185 (.pointer (some ⟨ge, 0, none⟩))))
 exact ⟨W.heap.size, rfl, H.fix.size, H2.at 0 rfl, H2.fix.below⟩
theorem bad_okR (w : World) : Calls Tryz.prog 123 #[.int .i64 0] w fun e w' => e = .returned .nilIface ∧ w = w' := by
 go_enter Tryz.func123, Tryz.ntmps123
 go_wp2
 go_ret
 exact ⟨rfl, rfl⟩
theorem below_nilR (w : World) : Calls Tryz.prog 117 #[.nilIface] w fun e w' => e = .returned .nilIface ∧ w = w' := by
 go_enter Tryz.func117, Tryz.ntmps117
 go_wp2
 go_ret
 exact ⟨rfl, rfl⟩
end Go.Proofs.YtlgciddnpinpbaaGreatDoor
