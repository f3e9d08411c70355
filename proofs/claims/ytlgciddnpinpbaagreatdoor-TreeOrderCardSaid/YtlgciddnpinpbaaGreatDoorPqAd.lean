/- Texts of this proof, packed. -/
import Derived.Test.YtlgciddnpinpbaaGreatDoorPkBase4
import Derived.Test.YtlgciddnpinpbaaGreatDoorPqB
import Derived.Test.YtlgciddnpinpbaaGreatDoorPqC
import Derived.Test.YtlgciddnpinpbaaGreatDoorPqD
import Derived.Test.YtlgciddnpinpbaaGreatDoorPqG
import Derived.Test.YtlgciddnpinpbaaGreatDoorPqQ
import Derived.Test.YtlgciddnpinpbaaGreatDoorPqT
import Derived.Test.YtlgciddnpinpbaaGreatDoorPqX
import Derived.Test.YtlgciddnpinpbaaGreatDoorPqAa
import Derived.Laws.StructEq
set_option linter.unusedSimpArgs false
set_option linter.unusedVariables false
namespace Go.Proofs.YtlgciddnpinpbaaGreatDoor
open Go.RowKit
set_option maxRecDepth 40000
def u16V (l : List Nat) : List Value := l.map fun x : Nat => Value.int .u16 (x : Int)
theorem u16V_at {l : List Nat} {i x : Nat} (h : l[i]? = some x) : (u16V l)[i]? = some (.int .u16 (x : Int)) := by simp [u16V, h]
structure PieceP (ps : List PairT) (c : Nat) (k : List UInt8) : Prop where
 len : k.length = 32
 le : c ≤ ps.length
 at_ : (c = 0 ∧ kn k = 0) ∨ ∃ p, 0 < c ∧ ps[c - 1]? = some p ∧ kn k = p.n + 1
theorem PieceP.scan {ps : List PairT} {c : Nat} {k : List UInt8} (h : PieceP ps c k) (hr : Ris ps) (m : Int) : scanOf m (kn k) ps = (ps.drop c).take m.toNat := by
 rcases h.at_ with ⟨rfl, e⟩ | ⟨p, h0, hp, e⟩
 ·have := scan_from (m := m) (k := kn k) (a := []) (b := ps) (fun p hp => (List.not_mem_nil hp).elim) fun p _ => by omega
  rw [List.nil_append] at this
  rw [this, List.drop_zero]
 ·have hlt : c - 1 < ps.length := (List.getElem?_eq_some_iff.1 hp).1
  have es : ps = ps.take (c - 1) ++ p :: ps.drop c := by
   have h2 := List.drop_eq_getElem_cons hlt
   rw [(List.getElem?_eq_some_iff.1 hp).2, show c - 1 + 1 = c by omega] at h2
   rw [← h2, List.take_append_drop]
  rw [es] at hr
  have := scan_next (m := m) hr e
  rw [← es] at this
  exact this
theorem PieceP.step {ps : List PairT} {c q : Nat} {k k' : List UInt8} {p : PairT} (h : PieceP ps c k) (hq : 0 < q) (hc : c + q ≤ ps.length) (hp : ps[c + q - 1]? = some p) (hl : k'.length = 32) (hk : kn k' = p.n + 1) : PieceP ps (c + q) k' :=
 ⟨hl, hc, .inr ⟨p, by omega, hp, hk⟩⟩
def Keyed (ps : List PairT) : Prop := ∀ q ∈ ps, ∃ x, x < 65536 ∧ q.k = keyN x
theorem Keyed.nil : Keyed [] := fun q hq => (List.not_mem_nil hq).elim
theorem Keyed.put {ps : List PairT} (h : Keyed ps) {x : Nat} (hx : x < 65536) (v : List UInt8) : Keyed (ins ⟨keyN x, v⟩ ps) := fun q hq => by
 rcases mem_ins hq with rfl | hq
 ·exact ⟨x, hx, rfl⟩
 ·exact h q hq
theorem keyN_next {x : Nat} (h : x < 65536) : kn (keyN x) + 1 < 256 ^ 32 := by
 rw [kn_keyN x h]
 have h1 : x / 256 ≤ 255 := by omega
 have h2 : x / 256 * 256 ^ 31 ≤ 255 * 256 ^ 31 := Nat.mul_le_mul_right _ h1
 have h3 : (256 : Nat) ^ 32 = 256 * 256 ^ 31 := by rw [Nat.pow_succ, Nat.mul_comm]
 have h4 : (257 : Nat) < 256 ^ 31 := by decide +kernel
 omega
theorem sizePairs (p : PairT) (hp : PairOk p) : p.b.length = 40 := by rw [PairT.b, List.length_append, hp.k, hp.v]
theorem run_two {P : Program} (w : World) (d : Nat) (xs : Array Value) (f1 f2 : Field) (a b : Value) (h1 : f1.name ≠ "_") (h2 : f2.name ≠ "_") (p1 : (part f1.type xs f1.offset).run P w = .ok a w) (p2 : (part f2.type xs f2.offset).run P w = .ok b w) (q1 : (Op.equalIn d f1.type a a).run P w = .ok true w) (q2 : (Op.equalIn d f2.type b b).run P w = .ok true w) : (Op.eqFields d xs xs [f1, f2]).run P w = .ok true w := by
 simp [Op.eqFields, h1, h2, p1, p2, q1, q2, Result.andThen_ok]
set_option maxHeartbeats 400000 in
theorem run_neq_pair (W : World) (p : PairT) (hp : PairOk p) : (binOp .neq 80 (arrV p.b) (arrV p.b)).run Tryz.prog W = .ok (.bool false) W := by
 have e1 : arrV p.b = .agg (p.b.map Extern.Stop.cell).toArray := rfl
 have hsz : ∀ w, (sizeOf 5).run Tryz.prog w = .ok 1 w := fun w => by
  have := size_u8
  cases hq : Tryz.prog.info? 5 with
  | none => simp [hq] at this
  | some i =>
   have hi : i.size = 1 := by simpa [hq] using this
   simp [sizeOf, typeInfo, hq, hi]
 have s32 : ∀ w, (sizeOf 67).run Tryz.prog w = .ok 32 w := fun w => by
  have := sizeK
  cases hq : Tryz.prog.info? 67 with
  | none => simp [hq] at this
  | some i =>
   have hi : i.size = 32 := by simpa [hq] using this
   simp [sizeOf, typeInfo, hq, hi]
 have s8 : ∀ w, (sizeOf 69).run Tryz.prog w = .ok 8 w := fun w => by
  have : (Tryz.prog.info? 69).map (·.size) = some 8 := by kernel_rfl
  cases hq : Tryz.prog.info? 69 with
  | none => simp [hq] at this
  | some i =>
   have hi : i.size = 8 := by simpa [hq] using this
   simp [sizeOf, typeInfo, hq, hi]
 have p1 : (part 67 (p.b.map Extern.Stop.cell).toArray 0).run Tryz.prog W = .ok (.agg (p.k.map Extern.Stop.cell).toArray) W := by
  simp [part, isAgg, run_underlying Tryz.underlying67, s32, PairT.b, hp.k]
 have p2 : (part 69 (p.b.map Extern.Stop.cell).toArray 32).run Tryz.prog W = .ok (.agg (p.v.map Extern.Stop.cell).toArray) W := by
  simp [part, isAgg, run_underlying Tryz.underlying69, s8, PairT.b, hp.k, hp.v]
  exact List.take_of_length_le (by simp [hp.v])
 have q1 := run_equalIn_bytes (P := Tryz.prog) W 9997 67 5 32 Tryz.underlying67 Tryz.underlying5 hsz p.k p.k hp.k hp.k
 have q2 := run_equalIn_bytes (P := Tryz.prog) W 9997 69 5 8 Tryz.underlying69 Tryz.underlying5 hsz p.v p.v hp.v hp.v
 rw [e1, run_neq_struct, run_equalIn_struct W 9999 _ _ _ (by kernel_rfl) (by kernel_rfl)]
 simp only [Program.fieldsOf, Tryz.underlying80]
 have q1' : (Op.equalIn 9999 67 (.agg (p.k.map Extern.Stop.cell).toArray) (.agg (p.k.map Extern.Stop.cell).toArray)).run Tryz.prog W = .ok (p.k == p.k) W := q1
 have q2' : (Op.equalIn 9999 69 (.agg (p.v.map Extern.Stop.cell).toArray) (.agg (p.v.map Extern.Stop.cell).toArray)).run Tryz.prog W = .ok (p.v == p.v) W := q2
 clear q1 q2
 have r1 : (Op.equalIn 9999 67 (.agg (p.k.map Extern.Stop.cell).toArray) (.agg (p.k.map Extern.Stop.cell).toArray)).run Tryz.prog W = .ok true W := by rw [q1', beq_self_eq_true]
 have r2 : (Op.equalIn 9999 69 (.agg (p.v.map Extern.Stop.cell).toArray) (.agg (p.v.map Extern.Stop.cell).toArray)).run Tryz.prog W = .ok true W := by rw [q2', beq_self_eq_true]
 rw [run_two W 9999 _ _ _ _ _ (by decide) (by decide) p1 p2 r1 r2]
 rfl
section
variable {P : Program} {ops : Array Oper} {o : Oper} {a : Act} {S : World → Prop}
theorem yieldsIf_cells (hw : Region.wanted o (yielded ops a.tmps) = true) (ty : TypeId) (x : Operand) (ho : o.op = .load ty x) (ad : Addr) (hx : a.eval x = .pointer (some ad)) (xs : List Value)
  (d : TypeDesc) (hu : P.underlying ty = some d) (hd : (match d with | .struct _ | .array _ _ => true | _ => false) = true) (hi : (P.info? ty).map (·.size) = some xs.length)
  (hS : ∀ w, S w → ∀ j u, xs[j]? = some u → w.cell? (ad.add j) = some u) : YieldsIf P ops S o (.agg xs.toArray) a := by
 refine Or.inl ⟨hw, fun w h => ?_⟩
 cases hq : P.info? ty with
 | none => simp [hq] at hi
 | some i =>
  have hs : i.size = xs.length := by simpa [hq] using hi
  have hagg : (isAgg ty).run P w = .ok true w := by
   unfold isAgg
   rw [Sem.run_bind, run_underlying hu w]
   cases d <;> simp_all
  have hl := run_loadCells_list (P := P) w ad xs (hS w h)
  unfold execOp
  simp only [ho, hx, Instr.loadAt, Instr.sureAddr, Sem.run_bind, Sem.run_pure, Result.andThen_ok, loadVar, hagg]
  simp [sizeOf, typeInfo, hq, hs, hl, Result.andThen]
end
theorem yieldsIf_neqpair {ops : Array Oper} {o : Oper} {a : Act} {S : World → Prop} (hw : Region.wanted o (yielded ops a.tmps) = true) (T' : TypeId) (x y : Operand) (ho : o.op = .binOp .neq 80 x y T') (p : PairT) (hp : PairOk p)
  (hx : a.eval x = .agg (byteV p.b).toArray) (hy : a.eval y = .agg (byteV p.b).toArray) : YieldsIf Tryz.prog ops S o (.bool false) a := by
 refine Or.inl ⟨hw, fun w h => ?_⟩
 have hrun := run_neq_pair w p hp
 have hg := run_eqGuard_agg (P := Tryz.prog) w .neq 80 x y (byteV p.b).toArray (byteV p.b).toArray (by kernel_rfl)
 have e1 : arrV p.b = .agg (byteV p.b).toArray := rfl
 rw [e1] at hrun
 unfold execOp
 simp only [ho, hx, hy, Sem.run_bind, hg, hrun, Result.andThen_ok, Sem.run_pure]
theorem pairV_cells {W : World} {g off : Nat} {ps : List PairT} (h : (rdA (some ⟨g, off, none⟩) (pairV ps)).prop W) (hp : ∀ p ∈ ps, PairOk p) (j : Nat) (p : PairT) (hj : ps[j]? = some p) :
  ∀ i u, (byteV p.b)[i]? = some u → W.cell? ((⟨g, off + j * 40, none⟩ : Addr).add i) = some u := by
 obtain ⟨g', off', e, h⟩ := pairV_at h hp j p hj
 cases e
 exact h
theorem key_of_cells {W : World} {ad : Addr} {p : PairT} (h : ∀ i u, (byteV p.b)[i]? = some u → W.cell? (ad.add i) = some u) : ∀ i u, (byteV p.k)[i]? = some u → W.cell? (ad.add i) = some u := fun i u hu => h i u (by
 have e : byteV p.b = byteV p.k ++ byteV p.v := by simp [byteV, PairT.b]
 rw [e, List.getElem?_append_left (List.getElem?_eq_some_iff.1 hu).1]; exact hu)
theorem scan_all_calls {w : World} {s : TX} {c r : Nat} {hs : List Nat} {ps : List PairT} (hb : Bundle w s.L) (h0 : s.Ok c) (R : Root s r hs ps) (z : Int) (hz : (r : Int) = z) (frm : List UInt8) (hfrm : frm.length = 32) (hk : kn frm = 0) (m : Int) (hm : (ps.length : Int) ≤ m) :
  Calls Tryz.prog 45 #[.pointer (some ⟨s.g, 0, none⟩), .int .u32 z, arrV frm, .int .i64 m] w fun e w' => ∃ p cap, e = .returned (.tuple #[.slice p ps.length cap, .int .i64 0]) ∧
   BunTo w (ownL s.L) (rdL s.L) (s.L ++ [ownS 80 40 p ps.length cap (pairV ps)]) w' := by
 have h := Scan_calls hb h0 R z hz frm hfrm m
 rw [hk, scan_all hm] at h
 exact h
theorem kn_key0 : kn (keyN 0) = 0 := by decide +kernel
theorem u16V_of (zs : List Int) (hz : ∀ z ∈ zs,0 ≤ z ∧ z ≤ 65535) : u16V (zs.map Int.toNat) = zs.map (Value.int .u16) ∧ ∀ x ∈ zs.map Int.toNat,x < 65536 := by
 constructor
 ·unfold u16V
  rw [List.map_map]
  refine List.map_congr_left fun z h => ?_
  show Value.int .u16 ((z.toNat : Nat) : Int) = _
  rw [Int.toNat_of_nonneg (hz z h).1]
 ·intro x hx
  obtain ⟨z,h,rfl⟩ := List.mem_map.1 hx
  have := hz z h
  omega
end Go.Proofs.YtlgciddnpinpbaaGreatDoor
