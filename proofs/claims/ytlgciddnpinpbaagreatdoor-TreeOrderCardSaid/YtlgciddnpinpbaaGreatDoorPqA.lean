/- Texts of this proof, packed. -/
import Derived.Test.YtlgciddnpinpbaaGreatDoorPkBase4
import Derived.WalkKit
import Derived.LaidEql
import Derived.Stop.Asserts
import Derived.RowKitTokens
import Derived.Laws.ResultCell
import Derived.Laws.Rows
import Derived.BigQuiet
import Derived.Deep.QuietTactic
set_option linter.unusedSimpArgs false
set_option linter.unusedVariables false
namespace Go.Proofs.YtlgciddnpinpbaaGreatDoor
open Go.RowKit Go.Extern.Stop Go.Stop Go.Extern
set_option maxRecDepth 4000
theorem AsC.valueOf27 (t : Addr) (w : World) : (ReflectliteValue.unpack (.iface 171 (.pointer (some t)))).run Tryz.prog w
  = .ok (.agg #[.pointer (some ⟨2, 171, none⟩), .pointer (some ⟨w.heap.size, 0, none⟩), .int .u64 150]) (w.alloc (.cells #[.pointer (some t)] 171)) := by kernel_rfl
theorem AsC.type27 (a : Addr) (w : World) : (ReflectliteValue.methodAny (ReflectliteValue.valueError "reflectlite.Value.Type" 0) (fun t _ _ _ => ReflectliteType.toType t) #[.agg #[.pointer (some ⟨2, 171, none⟩), .pointer (some a), .int .u64 150]]).run Tryz.prog w
  = .ok (.iface 253 (.agg #[.pointer (some ⟨2, 171, none⟩)])) w := by kernel_rfl
theorem AsC.methodKind (h : Value) (w : World) : (Go.method 428 253 (.agg #[h]) "Kind").run Tryz.prog w = .ok (225, h) w := by kernel_rfl
theorem AsC.kind27 (w : World) : ((ReflectliteType.abiMethod fun t => (fun a : Nat => Value.int IntKind.u8 (a : Int)) <$> Rtype.kind t) #[.pointer (some ⟨2, 171, none⟩)]).run Tryz.prog w = .ok (.int .u8 22) w := by kernel_rfl
theorem AsC.kind25 (w : World) : ((ReflectliteType.abiMethod fun t => (fun a : Nat => Value.int IntKind.u8 (a : Int)) <$> Rtype.kind t) #[.pointer (some ⟨2, 170, none⟩)]).run Tryz.prog w = .ok (.int .u8 22) w := by kernel_rfl
theorem AsC.parts27 (a : Addr) (w : World) : (ReflectliteValue.parts (.agg #[.pointer (some ⟨2, 171, none⟩), .pointer (some a), .int .u64 150])).run Tryz.prog w = .ok (some (171, a, 150)) w := by kernel_rfl
theorem AsC.isNil27 (a p : Addr) (W : World) (ha : W.cell? a = some (.pointer (some p))) :
  (ReflectliteValue.method (ReflectliteValue.valueError "reflectlite.Value.IsNil" 0) ReflectliteValue.isNil #[.agg #[.pointer (some ⟨2, 171, none⟩), .pointer (some a), .int .u64 150]]).run Tryz.prog W = .ok (.bool false) W := by
 rw [rlm]
 simp only [Sem.run_bind, AsC.parts27, Result.andThen]
 simp [ReflectliteValue.isNil, loadVar, isAgg, underlying, Tryz.underlying171, ha, Result.andThen]
theorem AsC.methodElem (h : Value) (w : World) : (Go.method 428 253 (.agg #[h]) "Elem").run Tryz.prog w = .ok (246, .agg #[h]) w := by kernel_rfl
theorem AsC.methodImplements (h : Value) (w : World) : (Go.method 428 253 (.agg #[h]) "Implements").run Tryz.prog w = .ok (247, .agg #[h]) w := by kernel_rfl
theorem AsC.methodAssignableTo (h : Value) (w : World) : (Go.method 428 253 (.agg #[h]) "AssignableTo").run Tryz.prog w = .ok (244, .agg #[h]) w := by kernel_rfl
theorem AsC.elem27 (w : World) : (ReflectliteType.method ReflectliteType.elem #[.agg #[.pointer (some ⟨2, 171, none⟩)]]).run Tryz.prog w = .ok (.iface 253 (.agg #[.pointer (some ⟨2, 170, none⟩)])) w := by kernel_rfl
theorem AsC.implements25 (w : World) : (ReflectliteType.relation "Implements" ReflectliteType.implements_ #[.agg #[.pointer (some ⟨2, 170, none⟩)], .iface 253 (.agg #[.pointer (some ⟨2, 114, none⟩)])]).run Tryz.prog w = .ok (.bool true) w := by kernel_rfl
theorem AsC.typeOf25 (v : Value) (w : World) : (ReflectliteType.typeOf #[.iface 170 v]).run Tryz.prog w = .ok (.iface 253 (.agg #[.pointer (some ⟨2, 170, none⟩)])) w := by kernel_rfl
theorem AsC.assignable25 (w : World) : (ReflectliteType.relation "AssignableTo" ReflectliteType.assignableTo #[.agg #[.pointer (some ⟨2, 170, none⟩)], .iface 253 (.agg #[.pointer (some ⟨2, 170, none⟩)])]).run Tryz.prog w = .ok (.bool true) w := by kernel_rfl
theorem AsC.valueOf25 (e : Addr) (w : World) : (ReflectliteValue.unpack (.iface 170 (.pointer (some e)))).run Tryz.prog w
  = .ok (.agg #[.pointer (some ⟨2, 170, none⟩), .pointer (some ⟨w.heap.size, 0, none⟩), .int .u64 150]) (w.alloc (.cells #[.pointer (some e)] 170)) := by kernel_rfl
theorem AsC.elemOf27 (w : World) : (Rtype.elem? 171).run Tryz.prog w = .ok (some 170) w := by kernel_rfl
theorem AsC.mk25 (p : Addr) (w : World) : (ReflectliteValue.mk 170 p ReflectliteValue.flagAddr).run Tryz.prog w = .ok (.agg #[.pointer (some ⟨2, 170, none⟩), .pointer (some p), .int .u64 406]) w := by kernel_rfl
theorem AsC.elemV27 (a p : Addr) (W : World) (ha : W.cell? a = some (.pointer (some p))) :
  (ReflectliteValue.method (ReflectliteValue.valueError "reflectlite.Value.Elem" 0) ReflectliteValue.elem #[.agg #[.pointer (some ⟨2, 171, none⟩), .pointer (some a), .int .u64 150]]).run Tryz.prog W
   = .ok (.agg #[.pointer (some ⟨2, 170, none⟩), .pointer (some p), .int .u64 406]) W := by
 rw [rlm]
 simp only [Sem.run_bind, AsC.parts27, Result.andThen]
 simp [ReflectliteValue.elem, loadVar, isAgg, underlying, Tryz.underlying171, ha, Result.andThen, AsC.elemOf27, AsC.mk25]
theorem AsC.parts25a (a : Addr) (w : World) : (ReflectliteValue.parts (.agg #[.pointer (some ⟨2, 170, none⟩), .pointer (some a), .int .u64 406])).run Tryz.prog w = .ok (some (170, a, 406)) w := by kernel_rfl
theorem AsC.parts25 (a : Addr) (w : World) : (ReflectliteValue.parts (.agg #[.pointer (some ⟨2, 170, none⟩), .pointer (some a), .int .u64 150])).run Tryz.prog w = .ok (some (170, a, 150)) w := by kernel_rfl
theorem AsC.direct25 (w : World) : (Rtype.directlyAssignable 170 170).run Tryz.prog w = .ok true w := by kernel_rfl
theorem AsC.set25 (ta b e : Addr) (old : Value) (W : World) (hb : W.cell? b = some (.pointer (some e))) (ht : W.cell? ta = some old) (hf : W.frozen? ta = false) :
  (ReflectliteValue.set #[.agg #[.pointer (some ⟨2, 170, none⟩), .pointer (some ta), .int .u64 406], .agg #[.pointer (some ⟨2, 170, none⟩), .pointer (some b), .int .u64 150]]).run Tryz.prog W
   = .ok (.tuple #[]) (W.setCell ta (.pointer (some e))) := by
 rw [rls]
 simp only [Sem.run_bind, AsC.parts25a, AsC.parts25, Result.andThen]
 simp [ReflectliteValue.flagAddr, loadVar, isAgg, underlying, Tryz.underlying170, hb, Result.andThen, AsC.direct25, storeVar, Value.cells, storeCells, Addr.add]
 rw [run_store Tryz.prog W ta _ _ (by rfl)]
 simp [ht, hf]
def partOC (gf : Nat) : Obj := .cells #[.iface 170 (.pointer (some ⟨gf, 0, none⟩))] 221 (0, 0)
def codeOC (c : Int) : Obj := .cells #[.int .i64 c] 173 (0, 0)
def ErrC (W : World) (g : Nat) (c : Int) : Prop := ∃ gf, W.heap[g]? = some (partOC gf) ∧ W.heap[gf]? = some (codeOC c)
theorem ErrC.stay {W W' : World} {g : Nat} {c : Int} (h : ErrC W g c) (hb : Below W.heap.size W W') : ErrC W' g c := by
 obtain ⟨gf, h1, h2⟩ := h
 exact ⟨gf, (hb.block _ (Array.getElem?_eq_some_iff.1 h1).1).trans h1, (hb.block _ (Array.getElem?_eq_some_iff.1 h2).1).trans h2⟩
end Go.Proofs.YtlgciddnpinpbaaGreatDoor
namespace Go.Proofs.YtlgciddnpinpbaaGreatDoor
open Go.RowKit
set_option maxRecDepth 40000
end Go.Proofs.YtlgciddnpinpbaaGreatDoor
namespace Go.Proofs.YtlgciddnpinpbaaGreatDoor
open Go.RowKit
set_option maxRecDepth 40000
structure BitsOf (f : Nat → List UInt8) (bs : List Bool) (r v : Nat) : Prop where
 len : bs.length = 34
 has : ∀ k,k < 34 → hasB (f 1) k = bs.getD k false
 root : le (f 0) 0 4 = r
 ver : le (f 0) 4 8 = v
 rlt : r < 4294967296
 vlt : v < 18446744073709551616
end Go.Proofs.YtlgciddnpinpbaaGreatDoor
namespace Go.Proofs.YtlgciddnpinpbaaGreatDoor
open Go.RowKit
set_option maxRecDepth 40000
def TX.Few (s : TX) : Prop := ∀ k,2 ≤ k → k < s.n → (s.V k).2 = false
theorem TX.Few.to {s s' : TX} {c : Nat} {v' : Nat → List UInt8 × Bool} (h : s.Few) (hs : s.To s' c v') (hv : ∀ k,2 ≤ k → v' k = s.V k) : s'.Few := fun k a b => by
 rw [hs.n] at b
 rw [hs.V k b,hv k a]
 exact h k a b
theorem updV_up (v : Nat → List UInt8 × Bool) (i : Nat) (l : List UInt8) (hi : i < 2) (k : Nat) (hk : 2 ≤ k) : updV v i l k = v k := by
 unfold updV
 rw [if_neg (by omega)]
theorem TX.begun_ok {t : LogT} {c n : Nat} (ht : t.Ok c) (hn : t.n = n) (hl : ∀ k,k < n → (t.hom k).length = 248) (gl gm g : Nat) : TX.Ok ⟨t,TxT.new gl gm n,g⟩ c ∧ (∀ k,TX.V ⟨t,TxT.new gl gm n,g⟩ k = (t.hom k,false)) :=
 ⟨⟨ht,rfl,hn.symm,fun k hk => hl k (by rw [← hn];exact hk)⟩,fun k => rfl⟩
end Go.Proofs.YtlgciddnpinpbaaGreatDoor
namespace Go.Proofs.YtlgciddnpinpbaaGreatDoor
open Go.RowKit
set_option maxRecDepth 40000
section
variable {rest : List Oper} {ops : Array Oper} {o : Oper} {a : Act} {Q : Exit → Act → World → Prop} {M0 R0 : Nat → Prop} {w0 W : World} {L : List Asrt} {P : Program}
theorem wp_buildslice_st {K : Act → World → Prop} (H : St M0 R0 w0 W L) (T e : TypeId) (len : Nat) (parts : Array (Nat × Operand)) (ho : o.op = .buildSlice T len parts)
  (hu : P.underlying T = some (.slice e)) (s : Nat) (hs : (P.info? e).map (·.size) = some s) (z : Value) (hz : (P.info? e).bind (·.zero) = some z) (hle : len * s ≤ 16777216) (h0 : ¬ len * s = 0)
  (vs : List (Nat × Value)) (hv : (parts.map fun (i,x) => (i,a.eval x)).toList = vs) (cells : Array Value)
  (hf : Instr.fill (fun i => some (i * s,s)) ((Array.range (len * s)).map (z.cells[· % z.cells.size]!)) vs = some cells)
  (h : ∀ W' g,St M0 R0 w0 W' (L ++ [blk g (.cells cells e)]) → K (a.put o.dst (.slice (some ⟨g,0,none⟩) len len)) W') : o.wp P a W K Q := by
 have h' := h _ _ (H.alloc (.cells cells e))
 cases hq : P.info? e with
 | none => simp [hq] at hs
 | some j =>
  have hj : j.size = s := by simpa [hq] using hs
  have hjz : j.zero = some z := by simpa [hq] using hz
  have hrun : (Instr.buildSlice T len (parts.map fun (i,x) => (i,a.eval x))).run P W = .ok (.slice (some ⟨W.heap.size,0,none⟩) len len) (W.alloc (.cells cells e)) := by
   unfold Instr.buildSlice
   simp only [Sem.run_bind,run_underlying hu W,Result.andThen_ok,sizeOf,typeInfo,hq,run_program,Sem.run_pure,hj]
   rw [if_neg (by omega)]
   simp only [Sem.run_pure,Result.andThen_ok,if_neg h0,Sem.run_bind,zeroValue,typeInfo,hq,run_program,hjz,hv,hf]
   simp [newRow,Result.andThen]
  unfold Oper.wp execOp
  simp only [ho,Sem.run_bind,hrun,Result.andThen_ok,Sem.run_pure]
  exact h'
end
theorem zero_i64 : (Tryz.prog.info? 3).bind (·.zero) = some (.int .i64 0) := by kernel_rfl
theorem size_int : (Tryz.prog.info? 3).map (·.size) = some 1 := by kernel_rfl
theorem fill_int (n : Int) : Instr.fill (fun i => some (i * 1,1)) ((Array.range (1 * 1)).map ((Value.int .i64 0).cells[· % (Value.int .i64 0).cells.size]!)) [(0,.int .i64 n)] = some #[.int .i64 n] := by kernel_rfl
end Go.Proofs.YtlgciddnpinpbaaGreatDoor
namespace Go.Proofs.YtlgciddnpinpbaaGreatDoor
open Go.RowKit
set_option maxRecDepth 100000
def intsV (hs : List Nat) : List Value := hs.map fun k : Nat => Value.int .i64 (k : Int)
theorem drop_cell {W : World} {g off : Nat} {l : List UInt8} (h : BytesAt W g off l) (d k : Nat) {j : Nat} {u : Value} (hu : (byteV ((l.drop d).take k))[j]? = some u) : W.cell? ⟨g,off + d + j,none⟩ = some u := by
 rw [byteV_get,List.getElem?_take] at hu
 split at hu
 ·rw [List.getElem?_drop] at hu
  cases hx : l[d + j]? with
  | none => rw [hx] at hu;cases hu
  | some b =>
   rw [hx] at hu
   cases hu
   rw [Nat.add_assoc]
   exact h.cellv hx
 ·cases hu
end Go.Proofs.YtlgciddnpinpbaaGreatDoor
namespace Go.Proofs.YtlgciddnpinpbaaGreatDoor
open Go.RowKit
set_option maxRecDepth 40000
def freeL (l : List UInt8) (n : Nat) : List Nat := (List.range n).filter fun i => !hasB l i
theorem leftOf_free (l : List UInt8) (n : Nat) : leftOf l n = (freeL l n).length := rfl
theorem freeL_lt {l : List UInt8} {n k : Nat} (h : k ∈ freeL l n) : 2 ≤ k ∧ k < n ∧ hasB l k = false := by
 obtain ⟨h1,h2⟩ := List.mem_filter.1 h
 have hk := List.mem_range.1 h1
 have hf : hasB l k = false := by simpa using h2
 refine ⟨?_,hk,hf⟩
 rcases Nat.lt_or_ge k 2 with h3 | h3
 ·simp [hasB,h3] at hf
 ·exact h3
theorem freeL_mem {l : List UInt8} {n k : Nat} (hk : k < n) (h : hasB l k = false) : k ∈ freeL l n := List.mem_filter.2 ⟨List.mem_range.2 hk,by simp [h]⟩
theorem range_sorted : ∀ n,(List.range n).Pairwise (· < ·) := fun n => List.pairwise_lt_range
theorem freeL_sorted (l : List UInt8) (n : Nat) : (freeL l n).Pairwise (· < ·) := (range_sorted n).filter _
end Go.Proofs.YtlgciddnpinpbaaGreatDoor
namespace Go.Proofs.YtlgciddnpinpbaaGreatDoor
open Go.RowKit
set_option maxRecDepth 100000
section
variable {rest : List Oper} {ops : Array Oper} {o : Oper} {a : Act} {Q : Exit → Act → World → Prop} {W : World} {P : Program}
end
end Go.Proofs.YtlgciddnpinpbaaGreatDoor
namespace Go.Proofs.YtlgciddnpinpbaaGreatDoor
open Go.RowKit
set_option maxRecDepth 100000
end Go.Proofs.YtlgciddnpinpbaaGreatDoor
namespace Go.Proofs.YtlgciddnpinpbaaGreatDoor
open Go.RowKit
set_option maxRecDepth 40000
theorem St.left {M0 R0 : Nat → Prop} {w0 W : World} {A B : List Asrt} (H : St M0 R0 w0 W (A ++ B)) : St M0 R0 w0 W A := by
 have := H.take A.length
 rwa [List.take_left] at this
theorem begin_TX {M0 R0 : Nat → Prop} {w0 W : World} {t : LogT} {gl c n : Nat} {R : List Asrt} (H : St M0 R0 w0 W (t.L gl ++ R)) (ht : t.Ok c) (hn : t.n = n) (hl : ∀ k,k < n → (t.hom k).length = 248) :
  Calls Tryz.prog 16 #[.pointer (some ⟨gl,0,none⟩)] W fun e W' => ∃ s : TX,e = .returned (.pointer (some ⟨s.g,0,none⟩)) ∧ s.t = t ∧ s.x.gl = gl ∧ s.Ok c ∧ s.n = n ∧ s.Few ∧ (∀ k,s.V k = (t.hom k,false)) ∧ St M0 R0 w0 W' (s.L ++ R) := by
 refine (begin_calls _).mono ?_
 rintro e W' ⟨g,gm,rfl,h1,h2,h3,hb,hg,hm⟩
 obtain ⟨hok,hV⟩ := TX.begun_ok ht hn hl gl gm g
 have H2 := St.swap (A := t.L gl) (E := R) (R := (TxT.new gl gm n).L g) (H.begun n hb h1 h2 h3 hg hm)
 exact ⟨⟨t,TxT.new gl gm n,g⟩,rfl,rfl,rfl,hok,hn,fun k a b => by rw [hV k],hV,H2⟩
theorem BitsOf.turn {s s2 : TX} {c : Nat} {bs : List Bool} {r v : Nat} (h : BitsOf s.v bs r v) (hc : s.Ok c) (hn : s.n = 34) (i : Nat) (h2 : 2 ≤ i) (hi : i < 34) (b : Bool) (hb : bs.getD i false = !b) (hs : s.To s2 c (updV s.V 1 (turnB (s.v 1) i))) : BitsOf s2.v (bs.set i b) r v := by
 have e1 : s2.v 1 = turnB (s.v 1) i := hs.v 1 (by omega)
 have e0 : s2.v 0 = s.v 0 := hs.v 0 (by omega)
 refine ⟨by rw [List.length_set];exact h.len,fun k hk => ?_,by rw [e0];exact h.root,by rw [e0];exact h.ver,h.rlt,h.vlt⟩
 rw [e1,getDb_set bs i k b (by rw [h.len];exact hi)]
 rcases Nat.lt_or_ge k 2 with hk2 | hk2
 ·rw [if_neg (by omega),← h.has k hk]
  simp [hasB,hk2]
 ·rw [hasB_turn (hc.lens 1 (by omega)) (by omega) hk2,h.has k hk]
  by_cases e : k = i
  ·subst e;rw [if_pos rfl,if_pos rfl,hb];simp
  ·rw [if_neg e,if_neg e]
theorem BitsOf.congr {f f' : Nat → List UInt8} {bs : List Bool} {r v : Nat} (h : BitsOf f bs r v) (e : ∀ k,k < 2 → f' k = f k) : BitsOf f' bs r v :=
 ⟨h.len,by rw [e 1 (by omega)];exact h.has,by rw [e 0 (by omega)];exact h.root,by rw [e 0 (by omega)];exact h.ver,h.rlt,h.vlt⟩
theorem BitsOf.fresh {s s2 : TX} {c : Nat} (hn : s.n = 34) (hs : s.To s2 c (updV (updV s.V 0 (rootB 0 1)) 1 newB)) : BitsOf s2.v (true :: true :: List.replicate 32 false) 0 1 := by
 have e1 : s2.v 1 = newB := hs.v 1 (by omega)
 have e0 : s2.v 0 = rootB 0 1 := hs.v 0 (by omega)
 have := le_root 0 1 (by omega) (by omega)
 refine ⟨rfl,fun k hk => ?_,by rw [e0];exact this.1,by rw [e0];exact this.2,by omega,by omega⟩
 rw [e1,hasB_new]
 rcases k with _ | _ | k
 ·rfl
 ·rfl
 ·rw [decide_eq_false (by omega),List.getD_cons_succ,List.getD_cons_succ,List.getD_eq_getElem?_getD,List.getElem?_replicate]
  split <;> rfl
end Go.Proofs.YtlgciddnpinpbaaGreatDoor
namespace Go.Proofs.YtlgciddnpinpbaaGreatDoor
open Go.RowKit
set_option maxRecDepth 40000
structure NewSpace (s : TX) (n : Nat) : Prop where
 ok : s.Ok 0
 cnt : s.n = n
 ring : s.t.X.ring = 24
 v0 : s.v 0 = rootB 0 1
 v1 : s.v 1 = newB
 few : s.Few
 rest : ∀ k,2 ≤ k → k < n → s.v k = noHome
theorem new21_calls {M0 R0 : Nat → Prop} {w0 W : World} {L : List Asrt} (H : St M0 R0 w0 W L) (z : Int) (N n : Nat) (hz : (N : Int) = z) (hN : n + 2 + 24 = N) (h3 : 8 ≤ n) (h4 : N ≤ 1900) :
  Calls Tryz.prog 29 #[.int .i64 z] W fun e W' => ∃ s : TX,e = .returned (.pointer (some ⟨s.g,0,none⟩)) ∧ NewSpace s n ∧ St M0 R0 w0 W' (s.L ++ L) := by
 subst hz
 have HN := Lib.hid hN
 have H3 := Lib.hid h3
 have H4 := Lib.hid h4
 clear hN h3 h4
 go_enter Tryz.func29,Tryz.ntmps29
 go_wp2_with (first
  | (go_at_call 15;go_loud ((refine (new19_calls _ N n rfl HN.out H3.out H4.out _).mono ?_);rintro e W ⟨gd,gl,t,rfl,hnew,hto⟩;replace H := (hto.fresh H).rotate;clear hto))
  | (go_at_call 16;go_loud ((refine (begin_TX (gl := gl) (R := L) H hnew.ok hnew.n (fun k hk => by rw [hnew.hom k hk];exact noHome_len)).mono ?_);clear H;rintro e W ⟨s,rfl,hst,hsg,hso,hsn,hsf,hsv,H⟩))
  | (go_at_call 48;go_loud ((refine (Format_ok (s := s) H.left.bundle hso).mono ?_);rintro e W ⟨rfl,s1,hs1,hto⟩;replace H := hto.front (R := L) H;clear hto;rw [← hs1.g])))
 go_ret
 refine ⟨s1,rfl,⟨hs1.ok,hs1.n.trans hsn,by rw [hs1.t,hst];exact hnew.ring,hs1.v 0 (by rw [hsn];have := H3.out;omega),hs1.v 1 (by rw [hsn];have := H3.out;omega),hsf.to hs1 (fun k hk => by rw [updV_up _ _ _ (by omega) k hk,updV_up _ _ _ (by omega) k hk]),fun k h2 hk => ?_⟩,H⟩
 rw [hs1.v k (by rw [hsn];exact hk),updV_up _ _ _ (by omega) k h2,updV_up _ _ _ (by omega) k h2]
 show (s.V k).1 = noHome
 rw [hsv k]
 exact hnew.hom k hk
theorem freeL_new (n : Nat) : freeL newB n = (List.range n).filter fun i => decide (2 ≤ i) := by
 unfold freeL
 congr 1
 funext i
 rw [hasB_new]
 by_cases h : i < 2 <;> simp [h] <;> omega
theorem leftOf_new (n : Nat) (h : 2 ≤ n) : leftOf newB n = n - 2 := by
 rw [leftOf_free,freeL_new]
 induction n with
 | zero => omega
 | succ n ih =>
  rw [List.range_succ,List.filter_append,List.length_append]
  by_cases h2 : 2 ≤ n
  ·rw [ih h2];simp [h2];omega
  ·have : n = 1 := by omega
   subst this;rfl
end Go.Proofs.YtlgciddnpinpbaaGreatDoor
namespace Go.Proofs.YtlgciddnpinpbaaGreatDoor
open Go.RowKit
set_option maxRecDepth 40000
theorem count_one {q r : Nat → Bool} {h : Nat} (hr : r h = true) : ∀ n,h < n → (∀ k,k < n → q k = (r k && k != h)) → (List.range n).countP q + 1 = (List.range n).countP r
 | 0,hn,_ => by omega
 | n + 1,hn,hq => by
  rw [List.range_succ,List.countP_append,List.countP_append]
  by_cases e : h = n
  ·subst e
   have h1 : (List.range h).countP q = (List.range h).countP r := List.countP_congr fun k hk => by
    have hk' := List.mem_range.1 hk
    rw [hq k (by omega)]
    have : (k != h) = true := by simp;omega
    rw [this,Bool.and_true]
   have h2 : q h = false := by rw [hq h (by omega)];simp
   simp [h1,h2,hr]
  ·have ih := count_one hr n (by omega) (fun k hk => hq k (by omega))
   have h2 : q n = r n := by
    rw [hq n (by omega)]
    have : (n != h) = true := by simp;omega
    rw [this,Bool.and_true]
   have h3 : List.countP q [n] = List.countP r [n] := by simp [List.countP_cons,h2]
   rw [h3]
   omega
theorem count_turn {p : Nat → Bool} {n : Nat} : ∀ (hs : List Nat) (q : Nat → Bool),hs.Nodup → (∀ k ∈ hs,k < n ∧ p k = true) → (∀ k,k < n → q k = (p k && !decide (k ∈ hs))) → (List.range n).countP q + hs.length = (List.range n).countP p
 | [],q,_,_,hq => by
  rw [List.length_nil,Nat.add_zero]
  exact List.countP_congr fun k hk => by rw [hq k (List.mem_range.1 hk)];simp
 | h :: t,q,hnd,hall,hq => by
  have hnd' := List.nodup_cons.1 hnd
  have ih := count_turn (p := p) t (fun k => p k && !decide (k ∈ t)) hnd'.2 (fun k hk => hall k (List.mem_cons_of_mem _ hk)) (fun k _ => rfl)
  have hh := hall h List.mem_cons_self
  have h1 := count_one (q := q) (r := fun k => p k && !decide (k ∈ t)) (h := h) (by simp [hh.2,hnd'.1]) n hh.1 (fun k hk => by
   rw [hq k hk]
   by_cases e : k = h
   ·subst e;simp
   ·simp [e])
  rw [List.length_cons]
  omega
theorem leftOf_count (l : List UInt8) (n : Nat) : leftOf l n = (List.range n).countP fun i => !hasB l i := by rw [leftOf,List.countP_eq_length_filter]
end Go.Proofs.YtlgciddnpinpbaaGreatDoor
namespace Go.Proofs.YtlgciddnpinpbaaGreatDoor
open Go.RowKit
section
variable {M0 R0 : Nat → Prop} {w0 W : World}
theorem list_set_same {α : Type} {l : List α} {i : Nat} {x : α} (h : l[i]? = some x) : l.set i x = l := by
 obtain ⟨h1,rfl⟩ := List.getElem?_eq_some_iff.1 h
 exact List.set_getElem_self h1
theorem eraseIdx_get {L : List Asrt} {i m : Nat} (hi : i < L.length) : (L.eraseIdx i)[m]? = L[if m < i then m else m + 1]? := by
 rw [List.getElem?_eraseIdx]
 split <;> rfl
theorem St.pull {L : List Asrt} (H : St M0 R0 w0 W L) (i : Nat) {A : Asrt} (hi : L[i]? = some A) : St M0 R0 w0 W (L.eraseIdx i ++ [A]) := by
 have hlt : i < L.length := (List.getElem?_eq_some_iff.1 hi).1
 have hlen : (L.eraseIdx i).length = L.length - 1 := by rw [List.length_eraseIdx,if_pos hlt]
 refine H.pick (fun m => if m < i then m else if m < L.length - 1 then m + 1 else i) ?_ ?_
 ·intro m C hm
  show L[if m < i then m else if m < L.length - 1 then m + 1 else i]? = some C
  rcases Nat.lt_or_ge m (L.length - 1) with h | h
  ·rw [List.getElem?_append_left (by omega),eraseIdx_get hlt] at hm
   rw [if_pos h]
   exact hm
  ·rw [List.getElem?_append_right (by omega)] at hm
   have h0 := (List.getElem?_eq_some_iff.1 hm).1
   simp only [List.length_singleton] at h0
   have h1 : m = L.length - 1 := by omega
   rw [show m - (L.eraseIdx i).length = 0 by omega] at hm
   rw [if_neg (by omega),if_neg (by omega),hi]
   simpa using hm
 ·intro m l hm hl e
  simp only [List.length_append,hlen,List.length_singleton] at hm hl
  split at e <;> split at e <;> (try split at e) <;> (try split at e) <;> omega
theorem BunTo.last {W' : World} {R Ls Ls' : List Asrt} (h : BunTo W (ownL Ls) (rdL Ls) Ls' W') (H : St M0 R0 w0 W (R ++ Ls)) : St M0 R0 w0 W' (R ++ Ls') := (h.front H.rotate).rotate
theorem St.lastB {R Ls : List Asrt} (H : St M0 R0 w0 W (R ++ Ls)) : Bundle W Ls := H.rotate.left.bundle
theorem St.pickAt {A R : List Asrt} (H : St M0 R0 w0 W (A ++ R)) (j : Nat) {B : Asrt} (hj : R[j]? = some B) : St M0 R0 w0 W ((A ++ [B]) ++ R.eraseIdx j) := by
 have h1 : (A ++ R)[A.length + j]? = some B := by rw [List.getElem?_append_right (by omega),Nat.add_sub_cancel_left];exact hj
 have H1 := H.pull (A.length + j) h1
 have e : (A ++ R).eraseIdx (A.length + j) = A ++ R.eraseIdx j := by rw [List.eraseIdx_append_of_length_le (by omega),Nat.add_sub_cancel_left]
 rw [e] at H1
 exact St.swap (A := A) (E := R.eraseIdx j) (R := [B]) H1
theorem St.unpickAt {A R : List Asrt} {B : Asrt} (j : Nat) (hj : j < R.length) (H : St M0 R0 w0 W ((A ++ [B]) ++ R.eraseIdx j)) : St M0 R0 w0 W (A ++ R.set j B) := by
 have hlen : (R.eraseIdx j).length = R.length - 1 := by rw [List.length_eraseIdx,if_pos hj]
 refine H.pick (fun m => if m < A.length then m else if m - A.length < j then m + 1 else if m - A.length = j then A.length else m) ?_ ?_
 ·intro m C hm
  show ((A ++ [B]) ++ R.eraseIdx j)[if m < A.length then m else if m - A.length < j then m + 1 else if m - A.length = j then A.length else m]? = some C
  rcases Nat.lt_or_ge m A.length with h | h
  ·rw [if_pos h,List.append_assoc,List.getElem?_append_left h]
   rw [List.getElem?_append_left h] at hm;exact hm
  ·rw [List.getElem?_append_right h,List.getElem?_set] at hm
   rw [if_neg (by omega)]
   by_cases h1 : m - A.length = j
   ·rw [if_neg (by omega),if_pos h1]
    rw [if_pos h1.symm,if_pos hj] at hm
    rw [List.append_assoc,List.getElem?_append_right (by omega),Nat.sub_self]
    simpa using hm
   ·rw [if_neg (fun e => h1 e.symm)] at hm
    by_cases h2 : m - A.length < j
    ·rw [if_pos h2,List.append_assoc,List.getElem?_append_right (by omega),show m + 1 - A.length = (m - A.length) + 1 by omega]
     show (R.eraseIdx j)[m - A.length]? = some C
     rw [eraseIdx_get hj,if_pos h2];exact hm
    ·rw [if_neg h2,if_neg h1,List.append_assoc,List.getElem?_append_right (by omega)]
     obtain ⟨q,hq⟩ : ∃ q,m - A.length = q + 1 := ⟨m - A.length - 1,by omega⟩
     rw [hq] at hm ⊢
     show (R.eraseIdx j)[q]? = some C
     rw [eraseIdx_get hj,if_neg (by omega)];exact hm
 ·intro m l hm hl e
  simp only [List.length_append,List.length_set] at hm hl
  split at e <;> split at e <;> (try split at e) <;> (try split at e) <;> (try split at e) <;> (try split at e) <;> omega
theorem BunTo.at {W' : World} {A A' R : List Asrt} {B B' : Asrt} (j : Nat) (h : BunTo W (ownL (A ++ [B])) (rdL (A ++ [B])) (A' ++ [B']) W') (H : St M0 R0 w0 W (A ++ R)) (hj : R[j]? = some B) : St M0 R0 w0 W' (A' ++ R.set j B') :=
 St.unpickAt j (List.getElem?_eq_some_iff.1 hj).1 (h.front (H.pickAt j hj))
end
theorem rdB_of_row {W : World} {g : Nat} {xs : List Value} {t : TypeId} (h : W.heap[g]? = some (.cells xs.toArray t (0,0))) : (rdA (some ⟨g,0,none⟩) xs).prop W :=
 .inr ⟨g,0,rfl,(Array.getElem?_eq_some_iff.1 h).1,fun i x hi => by rw [Nat.zero_add];exact row_cell h (by simpa using hi)⟩
theorem rdB_pre {W : World} {p : Option Addr} {xs ys : List Value} (h : (rdA p (xs ++ ys)).prop W) : (rdA p xs).prop W := by
 rcases h with h | ⟨g,off,e,hg,h⟩
 ·exact .inl (List.append_eq_nil_iff.1 h).1
 ·refine .inr ⟨g,off,e,hg,fun i x hi => h i x ?_⟩
  rw [List.getElem?_append_left (List.getElem?_eq_some_iff.1 hi).1];exact hi
theorem rdB_mid {W : World} {g off : Nat} {xs : List Value} (h : (rdA (some ⟨g,off,none⟩) xs).prop W) (k : Nat) (vs : List Value) (hv : ∀ j v,vs[j]? = some v → xs[k + j]? = some v) : ∀ j v,vs[j]? = some v → W.cell? ⟨g,off + k + j,none⟩ = some v := fun j v hj => by
 rw [Nat.add_assoc];exact rdA_cell h (hv j v hj)
end Go.Proofs.YtlgciddnpinpbaaGreatDoor
