/- The walk's operations on memory, over assertions: alloc, box, load, store, copy of a string's bytes. No program. -/
import Derived.Test.YtajlhloapglafaaGreatDoorSt
import Derived.Stop.BytesEq
import Derived.Laws.BytesArg
namespace Go.Proofs.YtajlhloapglafaaGreatDoor
open Go.RowKit

variable {P : Program} {ops : Array Oper} {rest : List Oper} {o : Oper} {a : Act} {Q : Exit → Act → World → Prop}
variable {M0 R0 : Nat → Prop} {w0 W : World} {L : List Asrt}

/-- A new block. -/
theorem St.alloc (H : St M0 R0 w0 W L) (x : Obj) : St M0 R0 w0 (W.alloc x) (L ++ [blk W.heap.size x]) :=
  H.add (Fix.alloc _ W x) (blk W.heap.size x) (heap_alloc_new W x) (fun _ h => Nat.le_of_eq h.symm) (fun _ h => h.elim)

/-- A new block that nobody writes. -/
theorem St.allocImm (H : St M0 R0 w0 W L) (x : Obj) : St M0 R0 w0 (W.alloc x) (L ++ [imm W.heap.size x]) :=
  H.add (Fix.alloc _ W x) (imm W.heap.size x) (heap_alloc_new W x) (fun _ h => h.elim) (fun _ h => .inl (Nat.le_of_eq h.symm))

theorem St.drew (H : St M0 R0 w0 W L) : St M0 R0 w0 W.drew L := H.stay (Fix.drew _ W)

/-- A row is written anew. -/
theorem St.setRow (H : St M0 R0 w0 W L) (i : Nat) {g : Nat} {cs : Array Value} {t : TypeId} {fr : Nat × Nat} (hi : L[i]? = some (blk g (.cells cs t fr))) (cs' : Array Value) :
    St M0 R0 w0 (W.setRow g cs') (L.set i (blk g (.cells cs' t fr))) :=
  H.step i hi (Fix.setRow W g cs') (setRow_heap W g cs cs' t fr (H.at i hi)) ⟨fun _ h => .inl h, fun _ h => h.elim⟩

/-- An operation that is wanted (it has no guard, or its guard says so). -/
theorem wpList_want (hwt : Region.wanted o (yielded ops a.tmps) = true) (h : ∀ K : Act → World → Prop, (∀ a w, wpList P ops Q rest a w → K a w) → o.wp P a W K Q) : wpList P ops Q (o :: rest) a W :=
  wpList_step fun K hK => by rw [if_pos hwt]; exact h K hK

theorem wp_alloc (T : TypeId) (ho : o.op = .alloc T) (z : Value) (hz : (P.info? T).bind (·.zero) = some z) {K : Act → World → Prop}
    (h : K (a.put o.dst (.pointer (some ⟨W.heap.size, 0, none⟩))) (W.alloc (.cells z.cells T))) : o.wp P a W K Q := by
  obtain ⟨i, hi, hzz⟩ := Option.bind_eq_some_iff.1 hz
  unfold Oper.wp execOp
  simp [ho, Instr.alloc, zeroValue, typeInfo, hi, hzz, newVar, newRow, Result.andThen]
  exact h

theorem wpList_alloc_st (H : St M0 R0 w0 W L) (hwt : Region.wanted o (yielded ops a.tmps) = true) (T : TypeId) (ho : o.op = .alloc T) (z : Value) (hz : (P.info? T).bind (·.zero) = some z)
    (h : ∀ W' g, St M0 R0 w0 W' (L ++ [blk g (.cells z.cells T)]) → wpList P ops Q rest (a.put o.dst (.pointer (some ⟨g, 0, none⟩))) W') : wpList P ops Q (o :: rest) a W :=
  wpList_want hwt fun _ hK => wp_alloc T ho z hz (hK _ _ (h _ _ (H.alloc _)))

theorem wpList_box_st (H : St M0 R0 w0 W L) (hwt : Region.wanted o (yielded ops a.tmps) = true) (T : TypeId) (x : Operand) (ho : o.op = .box T x) (v : Value) (hv : a.eval x = v)
    (h : ∀ W' g, St M0 R0 w0 W' (L ++ [blk g (.cells v.cells T)]) → wpList P ops Q rest (a.put o.dst (.pointer (some ⟨g, 0, none⟩))) W') : wpList P ops Q (o :: rest) a W := by
  refine wpList_want hwt fun K hK => ?_
  have h' := hK _ _ (h _ _ (H.alloc (.cells v.cells T)))
  unfold Oper.wp execOp
  simp [ho, Instr.box, newVar, newRow, Result.andThen, hv]
  exact h'

/-- A whole row is loaded. -/
theorem wpList_loadrow_st (hwt : Region.wanted o (yielded ops a.tmps) = true) (ty : TypeId) (x : Operand) (ho : o.op = .load ty x) (g : Nat) (hx : a.eval x = .pointer (some ⟨g, 0, none⟩))
    (cs : Array Value) (t : TypeId) (fr : Nat × Nat) (hg : W.heap[g]? = some (.cells cs t fr)) (d : TypeDesc) (hu : P.underlying ty = some d)
    (hd : (match d with | .struct _ | .array _ _ => true | _ => false) = true) (hi : (P.info? ty).map (·.size) = some cs.size)
    (h : wpList P ops Q rest (a.put o.dst (.agg cs)) W) : wpList P ops Q (o :: rest) a W :=
  wpList_want hwt fun _ hK => wp_load_row ty x ho g hx t cs fr d hg hu hd hi (hK _ _ h)

/-- A whole row is stored. -/
theorem wpList_storerow_st (H : St M0 R0 w0 W L) (i : Nat) (hwt : Region.wanted o (yielded ops a.tmps) = true) (ty : TypeId) (x y : Operand) (ho : o.op = .store ty x y)
    (g : Nat) (cs : Array Value) (hx : a.eval x = .pointer (some ⟨g, 0, none⟩)) (hy : a.eval y = .agg cs)
    (t : TypeId) (old : Array Value) (hi : L[i]? = some (blk g (.cells old t (0, 0)))) (hn : (P.info? ty).map (·.size) = some cs.size)
    (hold : old.size = cs.size) (h1 : cs.all (·.oneCell') = true)
    (h : ∀ W', St M0 R0 w0 W' (L.set i (blk g (.cells cs t (0, 0)))) → wpList P ops Q rest (a.put o.dst undef) W') : wpList P ops Q (o :: rest) a W :=
  wpList_want hwt fun _ hK => wp_store_row ty x y ho g cs hx hy t old (H.at i hi) hn hold h1 (hK _ _ (h _ (H.setRow i hi cs)))

/-- One cell is loaded. -/
theorem wpList_load1_st (hwt : Region.wanted o (yielded ops a.tmps) = true) (ty : TypeId) (x : Operand) (ho : o.op = .load ty x) (g off : Nat) (hx : a.eval x = .pointer (some ⟨g, off, none⟩))
    (cs : Array Value) (t : TypeId) (fr : Nat × Nat) (hg : W.heap[g]? = some (.cells cs t fr)) (d : TypeDesc) (hu : P.underlying ty = some d)
    (hd : (match d with | .struct _ | .array _ _ => true | _ => false) = false) (v : Value) (hv : cs[off]? = some v)
    (h : wpList P ops Q rest (a.put o.dst v) W) : wpList P ops Q (o :: rest) a W := by
  refine wpList_want hwt fun K hK => ?_
  have hc : W.cell? ⟨g, off, none⟩ = some v := by rw [cell_of_row W g off cs t fr hg]; exact hv
  have hagg : (isAgg ty).run P W = .ok false W := by
    unfold isAgg
    rw [Sem.run_bind, run_underlying hu W]
    cases d <;> simp_all
  unfold Oper.wp execOp
  simp only [ho, hx, Instr.loadAt, Instr.sureAddr, Sem.run_bind, Sem.run_pure, Result.andThen_ok, loadVar, hagg]
  have hl : (load ⟨g, off, none⟩).run P W = .ok v W := by simp [load, Sem.run, hc]
  simp [hl, Result.andThen]
  exact hK _ _ h

/-- One cell is stored. -/
theorem wpList_store1_st (H : St M0 R0 w0 W L) (i : Nat) (hwt : Region.wanted o (yielded ops a.tmps) = true) (ty : TypeId) (x y : Operand) (ho : o.op = .store ty x y)
    (g off : Nat) (v : Value) (hx : a.eval x = .pointer (some ⟨g, off, none⟩)) (hy : a.eval y = v) (h1 : v.oneCell' = true)
    (t : TypeId) (old : Array Value) (hi : L[i]? = some (blk g (.cells old t (0, 0)))) (hn : (P.info? ty).map (·.size) = some 1) (hoff : off < old.size)
    (h : ∀ W', St M0 R0 w0 W' (L.set i (blk g (.cells (old.setIfInBounds off v) t (0, 0)))) → wpList P ops Q rest (a.put o.dst undef) W') : wpList P ops Q (o :: rest) a W := by
  refine wpList_want hwt fun K hK => ?_
  have hg := H.at i hi
  have hc : W.cell? ⟨g, off, none⟩ = some old[off] := by rw [cell_of_row W g off old t (0, 0) hg]; simp [hoff]
  have hf : W.frozen? ⟨g, off, none⟩ = false := frozen_of_row W g off old t hg
  have h' := hK _ _ (h _ (H.setRow i hi (old.setIfInBounds off v)))
  have hcells : v.cells = #[v] := by cases v <;> first | rfl | simp [Value.oneCell'] at h1
  have hst : (store ⟨g, off, none⟩ v).run P W = .ok () (W.setRow g (old.setIfInBounds off v)) := by
    rw [run_store P W _ v _ h1, hc]
    simp [hf, setCell_eq_setRow W g off old t (0, 0) v hg]
  cases hq : P.info? ty with
  | none => simp [hq] at hn
  | some i =>
    have hs : i.size = 1 := by simpa [hq] using hn
    have hadd : (⟨g, off, none⟩ : Addr).add 0 = ⟨g, off, none⟩ := by simp [Addr.add]
    unfold Oper.wp execOp
    simp [ho, hx, hy, Instr.storeAt, Instr.sureAddr, storeVar, sizeOf, typeInfo, hq, hs, hcells, storeCells, hadd, hst, Result.andThen]
    exact h'

/-- A string's bytes, as cells. -/
def byteV (l : List UInt8) : List Value := l.map fun b => Value.int .u8 b.toNat
theorem byteV_one (l : List UInt8) : ∀ v ∈ byteV l, v.oneCell' = true := by
  intro v hv
  obtain ⟨_, _, rfl⟩ := List.mem_map.1 hv
  rfl
@[simp] theorem byteV_length (l : List UInt8) : (byteV l).length = l.length := by simp [byteV]
theorem byteV_get (l : List UInt8) (i : Nat) : (byteV l)[i]? = (l[i]?).map fun b => Value.int .u8 b.toNat := by simp [byteV]

/-- Bytes as an array's value. -/
def arrV (l : List UInt8) : Value := .agg (byteV l).toArray
theorem cells_arrV (l : List UInt8) : (arrV l).cells = (byteV l).toArray := rfl
theorem byteV_all (l : List UInt8) : (byteV l).toArray.all (·.oneCell') = true := all_oneCell_toArray (byteV_one l)
theorem byteV_set (l : List UInt8) (i : Nat) (b : UInt8) : (byteV l).toArray.setIfInBounds i (.int .u8 b.toNat) = (byteV (l.set i b)).toArray := by
  simp [byteV]

/-- A whole array of bytes is loaded. -/
theorem wpList_loadarr_st (hwt : Region.wanted o (yielded ops a.tmps) = true) (ty : TypeId) (x : Operand) (ho : o.op = .load ty x) (g : Nat) (hx : a.eval x = .pointer (some ⟨g, 0, none⟩))
    (l : List UInt8) (t : TypeId) (fr : Nat × Nat) (hg : W.heap[g]? = some (.cells (byteV l).toArray t fr)) (d : TypeDesc) (hu : P.underlying ty = some d)
    (hd : (match d with | .struct _ | .array _ _ => true | _ => false) = true) (n : Nat) (hi : (P.info? ty).map (·.size) = some n) (hl : l.length = n)
    (h : wpList P ops Q rest (a.put o.dst (arrV l)) W) : wpList P ops Q (o :: rest) a W :=
  wpList_want hwt fun _ hK => wp_load_row ty x ho g hx t (byteV l).toArray fr d hg hu hd (by rw [hi]; simp [hl]) (hK _ _ h)

/-- A whole array of bytes is stored. -/
theorem wpList_storearr_st (H : St M0 R0 w0 W L) (i : Nat) (hwt : Region.wanted o (yielded ops a.tmps) = true) (ty : TypeId) (x y : Operand) (ho : o.op = .store ty x y)
    (g : Nat) (l : List UInt8) (hx : a.eval x = .pointer (some ⟨g, 0, none⟩)) (hy : a.eval y = arrV l)
    (t : TypeId) (old : List UInt8) (hi : L[i]? = some (blk g (.cells (byteV old).toArray t (0, 0)))) (n : Nat) (hn : (P.info? ty).map (·.size) = some n)
    (hold : old.length = n) (hl : l.length = n)
    (h : ∀ W', St M0 R0 w0 W' (L.set i (blk g (.cells (byteV l).toArray t (0, 0)))) → wpList P ops Q rest (a.put o.dst undef) W') : wpList P ops Q (o :: rest) a W :=
  wpList_want hwt fun _ hK => wp_store_row ty x y ho g (byteV l).toArray hx hy t _ (H.at i hi) (by rw [hn]; simp [hl]) (by simp [hold, hl]) (byteV_all _) (hK _ _ (h _ (H.setRow i hi _)))

/-- copy(x[..], s): a string's bytes go into a row. -/
theorem wpList_copystr_st (H : St M0 R0 w0 W L) (i : Nat) (hwt : Region.wanted o (yielded ops a.tmps) = true) (d s : Operand) (dT sT : TypeId)
    (ho : o.op = .call { callee := .builtin .copy, args := #[d, s], argTypes := #[dT, sT] }) (elem : TypeId) (hu : P.underlying dT = some (.slice elem)) (hsz : (P.info? elem).map (·.size) = some 1)
    (g off dLen dCap : Nat) (hd : a.eval d = .slice (some ⟨g, off, none⟩) dLen dCap) (b : ByteArray) (hs : a.eval s = .string b)
    (old : List UInt8) (t : TypeId) (hi : L[i]? = some (blk g (.cells (byteV old).toArray t (0, 0)))) (hn : b.size ≤ dLen) (hfit : off + b.size ≤ old.length)
    (h : ∀ W', St M0 R0 w0 W' (L.set i (blk g (.cells (byteV (old.take off ++ b.data.toList ++ old.drop (off + b.size))).toArray t (0, 0)))) → wpList P ops Q rest (a.put o.dst (goInt b.size)) W') :
    wpList P ops Q (o :: rest) a W := by
  refine wpList_want hwt fun K hK => ?_
  have hg := H.at i hi
  have hbs : b.data.toList.length = b.size := by simp
  have hst := run_storeCells_at P g off t (byteV b.data.toList) 0 _ W hg (by simp; omega) (byteV_one _)
  have e1 : (b.extract 0 b.size).data.map (fun c => Value.int .u8 c.toNat) = (byteV b.data.toList).toArray := by
    have : b.extract 0 b.size = b := by
      apply ByteArray.ext; simp
    rw [this]
    apply Array.ext'
    simp [byteV]
  have e2 : Nat.min b.size dLen = b.size := Nat.min_eq_left hn
  have e3 : ((byteV old).take off ++ byteV b.data.toList ++ (byteV old).drop (off + b.size)) = byteV (old.take off ++ b.data.toList ++ old.drop (off + b.size)) := by
    simp [byteV]
  simp only [Nat.add_zero, byteV_length, hbs] at hst
  rw [e3] at hst
  have h' := hK _ _ (h _ (H.setRow i hi _))
  cases hq : P.info? elem with
  | none => simp [hq] at hsz
  | some j =>
    have hj : j.size = 1 := by simpa [hq] using hsz
    have hfc : (Builtin.firstCells j.size b.size (.string b)).run P W = .ok (byteV b.data.toList).toArray W := by
      simp only [Builtin.firstCells, e1]
      rfl
    have hrun : (Builtin.copy_ #[dT, sT] o.type #[.slice (some ⟨g, off, none⟩) dLen dCap, .string b]).run P W = .ok (goInt b.size) (W.setRow g (byteV (old.take off ++ b.data.toList ++ old.drop (off + b.size))).toArray) := by
      simp [Builtin.copy_, run_underlying hu, Builtin.lenOf, sizeOf, typeInfo, hq, e2, hfc, hst]
    unfold Oper.wp
    simp [execOp, ho, resolve, invoke, builtin, hd, hs, hrun, Result.andThen]
    rw [← List.append_assoc]
    exact h'

/-- Two arrays of bytes are the same, or not. -/
theorem wpList_eqarr (hwt : Region.wanted o (yielded ops a.tmps) = true) (T T' : TypeId) (x y : Operand) (ho : o.op = .binOp .eql T x y T') (l m : List UInt8) (hx : a.eval x = arrV l) (hy : a.eval y = arrV m)
    (e : TypeId) (n : Nat) (hu : P.underlying T = some (.array n e)) (he : P.underlying e = some (.int .u8)) (hsz : (P.info? e).map (·.size) = some 1) (hgd : P.eqGuardType P.depth T = false) (hl : l.length = n) (hm : m.length = n)
    (h : wpList P ops Q rest (a.put o.dst (.bool (l == m))) W) : wpList P ops Q (o :: rest) a W := by
  refine wpList_want hwt fun K hK => ?_
  have hz : ∀ w, (sizeOf e).run P w = .ok 1 w := fun w => by
    cases hq : P.info? e with
    | none => simp [hq] at hsz
    | some i =>
      have hi : i.size = 1 := by simpa [hq] using hsz
      simp [sizeOf, typeInfo, hq, hi]
  have hrun := run_eql_bytes (P := P) W T e n hu he hz l m hl hm
  have hg := run_eqGuard_agg (P := P) W .eql T x y (l.map Extern.Stop.cell).toArray (m.map Extern.Stop.cell).toArray hgd
  unfold Oper.wp execOp
  simp only [ho, hx, hy]
  have e1 : arrV l = .agg (l.map Extern.Stop.cell).toArray := rfl
  have e2 : arrV m = .agg (m.map Extern.Stop.cell).toArray := rfl
  rw [e1, e2]
  simp only [Sem.run_bind, hg, hrun, Result.andThen_ok, Sem.run_pure]
  exact hK _ _ h

theorem wpList_nearr (hwt : Region.wanted o (yielded ops a.tmps) = true) (T T' : TypeId) (x y : Operand) (ho : o.op = .binOp .neq T x y T') (l m : List UInt8) (hx : a.eval x = arrV l) (hy : a.eval y = arrV m)
    (e : TypeId) (n : Nat) (hu : P.underlying T = some (.array n e)) (he : P.underlying e = some (.int .u8)) (hsz : (P.info? e).map (·.size) = some 1) (hgd : P.eqGuardType P.depth T = false) (hl : l.length = n) (hm : m.length = n)
    (h : wpList P ops Q rest (a.put o.dst (.bool (!(l == m)))) W) : wpList P ops Q (o :: rest) a W := by
  refine wpList_want hwt fun K hK => ?_
  have hz : ∀ w, (sizeOf e).run P w = .ok 1 w := fun w => by
    cases hq : P.info? e with
    | none => simp [hq] at hsz
    | some i =>
      have hi : i.size = 1 := by simpa [hq] using hsz
      simp [sizeOf, typeInfo, hq, hi]
  have hrun : (binOp .neq T (.agg (l.map Extern.Stop.cell).toArray) (.agg (m.map Extern.Stop.cell).toArray)).run P W = .ok (.bool (!(l == m))) W := by
    rw [run_neq_struct, run_equalIn_bytes W 9998 T e n hu he hz l m hl hm]; rfl
  have hg := run_eqGuard_agg (P := P) W .neq T x y (l.map Extern.Stop.cell).toArray (m.map Extern.Stop.cell).toArray hgd
  unfold Oper.wp execOp
  simp only [ho, hx, hy]
  have e1 : arrV l = .agg (l.map Extern.Stop.cell).toArray := rfl
  have e2 : arrV m = .agg (m.map Extern.Stop.cell).toArray := rfl
  rw [e1, e2]
  simp only [Sem.run_bind, hg, hrun, Result.andThen_ok, Sem.run_pure]
  exact hK _ _ h

/-- From place off of block g on lie the bytes l. -/
def BytesAt (W : World) (g off : Nat) (l : List UInt8) : Prop := ∀ (i : Nat) (h : i < l.length), W.cell? ⟨g, off + i, none⟩ = some (.int .u8 (l[i].toNat : Int))

theorem BytesAt.of_row {W : World} {g : Nat} {l : List UInt8} {t : TypeId} {fr : Nat × Nat} (hg : W.heap[g]? = some (.cells (byteV l).toArray t fr)) (off n : Nat) : BytesAt W g off ((l.drop off).take n) := by
  intro i h
  have h1 : off + i < l.length := by simp at h; omega
  rw [cell_of_row W g _ _ t fr hg]
  simp [byteV, h1]

theorem strOfNums_bytes (l : List UInt8) : strOfNums (l.map fun b => (b.toNat : Int)) = ⟨l.toArray⟩ := by
  apply ByteArray.ext
  apply Array.toList_inj.1
  rw [strOfNums_data, List.map_map]
  show _ = l
  conv => rhs; rw [← List.map_id l]
  apply List.map_congr_left
  intro x _
  simp

theorem run_bytes_str {P : Program} (W : World) (src dst e : TypeId) (hs : P.underlying src = some (.slice e)) (he : P.underlying e = some (.int .u8)) (hd : P.underlying dst = some .string)
    (g off cap : Nat) (l : List UInt8) (h : BytesAt W g off l) (n : Nat) (hn : n = l.length) : (convert src dst (.slice (some ⟨g, off, none⟩) n cap)).run P W = .ok (.string ⟨l.toArray⟩) W := by
  have := run_convert_bytes_arg (P := P) W src e hs he g off l.length cap (l.map fun b => (b.toNat : Int)) (by simp) (fun i hi => by
    rw [h i hi]; simp [List.getD, hi]) dst hd
  rw [hn, this, strOfNums_bytes]

/-- string(b) -/
theorem wpList_bytes_str (hwt : Region.wanted o (yielded ops a.tmps) = true) (src dst : TypeId) (x : Operand) (ho : o.op = .convert src dst x) (g off n cap : Nat) (hx : a.eval x = .slice (some ⟨g, off, none⟩) n cap)
    (e : TypeId) (hs : P.underlying src = some (.slice e)) (he : P.underlying e = some (.int .u8)) (hd : P.underlying dst = some .string) (l : List UInt8) (hb : BytesAt W g off l) (hn : n = l.length)
    (h : wpList P ops Q rest (a.put o.dst (.string ⟨l.toArray⟩)) W) : wpList P ops Q (o :: rest) a W := by
  refine wpList_want hwt fun K hK => ?_
  have hrun := run_bytes_str (P := P) W src dst e hs he hd g off cap l hb n hn
  unfold Oper.wp execOp
  simp only [ho, hx, Sem.run_bind, hrun, Result.andThen_ok, Sem.run_pure]
  exact hK _ _ h

/-- []T{..} -/
theorem wpList_buildslice_st (H : St M0 R0 w0 W L) (hwt : Region.wanted o (yielded ops a.tmps) = true) (T e : TypeId) (len : Nat) (parts : Array (Nat × Operand)) (ho : o.op = .buildSlice T len parts)
    (hu : P.underlying T = some (.slice e)) (s : Nat) (hs : (P.info? e).map (·.size) = some s) (z : Value) (hz : (P.info? e).bind (·.zero) = some z) (hle : len * s ≤ 16777216) (h0 : ¬ len * s = 0)
    (vs : List (Nat × Value)) (hv : (parts.map fun (i, x) => (i, a.eval x)).toList = vs) (cells : Array Value)
    (hf : Instr.fill (fun i => some (i * s, s)) ((Array.range (len * s)).map (z.cells[· % z.cells.size]!)) vs = some cells)
    (h : ∀ W' g, St M0 R0 w0 W' (L ++ [blk g (.cells cells e)]) → wpList P ops Q rest (a.put o.dst (.slice (some ⟨g, 0, none⟩) len len)) W') : wpList P ops Q (o :: rest) a W := by
  refine wpList_want hwt fun K hK => ?_
  have h' := hK _ _ (h _ _ (H.alloc (.cells cells e)))
  cases hq : P.info? e with
  | none => simp [hq] at hs
  | some j =>
    have hj : j.size = s := by simpa [hq] using hs
    have hjz : j.zero = some z := by simpa [hq] using hz
    have hrun : (Instr.buildSlice T len (parts.map fun (i, x) => (i, a.eval x))).run P W = .ok (.slice (some ⟨W.heap.size, 0, none⟩) len len) (W.alloc (.cells cells e)) := by
      unfold Instr.buildSlice
      simp only [Sem.run_bind, run_underlying hu W, Result.andThen_ok, sizeOf, typeInfo, hq, run_program, Sem.run_pure, hj]
      rw [if_neg (by omega)]
      simp only [Sem.run_pure, Result.andThen_ok, if_neg h0, Sem.run_bind, zeroValue, typeInfo, hq, run_program, hjz, hv, hf]
      simp [newRow, Result.andThen]
    unfold Oper.wp execOp
    simp only [ho, Sem.run_bind, hrun, Result.andThen_ok, Sem.run_pure]
    exact h'

/-- x ^ y on bytes -/
theorem wpList_xor8 (hwt : Region.wanted o (yielded ops a.tmps) = true) (T T' : TypeId) (x y : Operand) (ho : o.op = .binOp .xor T x y T') (p q : UInt8) (hx : a.eval x = .int .u8 (p.toNat : Int)) (hy : a.eval y = .int .u8 (q.toNat : Int)) (u : UInt8) (hu : p ^^^ q = u)
    (h : wpList P ops Q rest (a.put o.dst (.int .u8 (u.toNat : Int))) W) : wpList P ops Q (o :: rest) a W := by
  subst hu
  refine wpList_want hwt fun K hK => ?_
  have hrun : (binOp .xor T (.int .u8 (p.toNat : Int)) (.int .u8 (q.toNat : Int))).run P W = .ok (.int .u8 ((p ^^^ q).toNat : Int)) W := by
    have hb := u8_xor_nat p.toNat q.toNat p.toNat_lt q.toNat_lt
    have e : ((p ^^^ q).toNat : Int) = ((p.toNat ^^^ q.toNat : Nat) : Int) := by rw [UInt8.toNat_xor]
    rw [e, ← hb]
    simp [go_sem]
  have hg : (eqGuard .xor T x y (.int .u8 (p.toNat : Int)) (.int .u8 (q.toNat : Int))).run P W = .ok () W := by simp [eqGuard]
  unfold Oper.wp execOp
  simp only [ho, hx, hy, Sem.run_bind, hg, hrun, Result.andThen_ok, Sem.run_pure]
  exact hK _ _ h

/-- [n]byte{} -/
theorem wpList_buildz (hwt : Region.wanted o (yielded ops a.tmps) = true) (T : TypeId) (ho : o.op = .build T #[]) (l : List UInt8) (hb : P.built T [] = some (byteV l).toArray)
    (h : wpList P ops Q rest (a.put o.dst (arrV l)) W) : wpList P ops Q (o :: rest) a W := by
  refine wpList_want hwt fun K hK => ?_
  have e : ((#[] : Array (Nat × Operand)).map fun (i, x) => (i, a.eval x)).toList = [] := by simp
  have := wp_build (P := P) (o := o) (a := a) (w := W) (K := K) (Q := Q) T #[] ho (by rw [e, hb]; rfl) (by rw [e, hb]; exact hK _ _ h)
  exact this

end Go.Proofs.YtajlhloapglafaaGreatDoor
