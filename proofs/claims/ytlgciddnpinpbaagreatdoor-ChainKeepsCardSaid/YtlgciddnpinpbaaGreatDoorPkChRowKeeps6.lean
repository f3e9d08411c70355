/- Texts of this proof, packed: ChainReads: the rows grow; the law's start and what follows it. -/
import Derived.Test.YtlgciddnpinpbaaGreatDoorPkChRowKeeps5
import Derived.Deep.Slices
import Derived.Deep.Strs

namespace Go.Proofs.YtlgciddnpinpbaaGreatDoor
open Go.RowKit
set_option linter.unusedSimpArgs false
set_option linter.unusedVariables false
set_option maxRecDepth 40000

theorem rowsB_nil (v : Nat → List UInt8) (W : World) : (rowsB [] v).prop W := ⟨fun p h => (List.not_mem_nil h).elim, fun k p h => by simp at h⟩

theorem rowsB_more {ps : List (Nat × Nat × Nat)} {v : Nat → List UInt8} {W : World} {g off cap : Nat} {l : List UInt8} (hA : (rowsB ps v).prop W) (hB : (ownB g off l).prop W) (e : v ps.length = l) (hc : 248 ≤ cap) : (rowsB (ps ++ [(g, off, cap)]) v).prop W := by
  refine ⟨fun p hp => ?_, fun k p hp => ?_⟩
  · rcases List.mem_append.1 hp with h | h
    · exact hA.1 p h
    · obtain rfl := List.mem_singleton.1 h
      exact (ownB g off l).bound W hB g (.inl rfl)
  · rcases Nat.lt_trichotomy k ps.length with h | h | h
    · rw [List.getElem?_append_left h] at hp
      exact hA.2 k p hp
    · subst h
      simp at hp
      subst hp
      exact ⟨by rw [e]; exact ownB_bytes hB, hc⟩
    · rw [List.getElem?_eq_none (by simp; omega)] at hp
      cases hp

theorem rowsB_set {ps : List (Nat × Nat × Nat)} {v v' : Nat → List UInt8} {W : World} {g off cap k : Nat} {l : List UInt8} (hA : (rowsB ps v).prop W) (hB : (ownB g off l).prop W) (hv : ∀ j, v' j = if j = k then l else v j) (hc : 248 ≤ cap) : (rowsB (ps.set k (g, off, cap)) v').prop W := by
  refine ⟨fun p hp => ?_, fun j p hp => ?_⟩
  · rcases List.mem_or_eq_of_mem_set hp with h | h
    · exact hA.1 p h
    · subst h
      exact (ownB g off l).bound W hB g (.inl rfl)
  · rw [List.getElem?_set] at hp
    split at hp
    · rename_i e
      split at hp
      · cases hp
        exact ⟨by rw [hv, if_pos e.symm]; exact ownB_bytes hB, hc⟩
      · cases hp
    · rename_i e
      rw [hv, if_neg (fun x => e x.symm)]
      exact hA.2 j p hp

theorem rowsB_rd {ps : List (Nat × Nat × Nat)} {v v' : Nat → List UInt8} {g off cap : Nat} {l : List UInt8} (k : Nat) (h : (rowsB (ps ++ [(g, off, cap)]) v').rd k) : ((rowsB ps v).own k ∨ (rowsB ps v).rd k) ∨ ((ownB g off l).own k ∨ (ownB g off l).rd k) := by
  obtain ⟨p, hp, rfl⟩ := h
  rcases List.mem_append.1 hp with h | h
  · exact .inl (.inr ⟨p, h, rfl⟩)
  · obtain rfl := List.mem_singleton.1 h
    exact .inr (.inl rfl)

theorem rowsB_rd_set {ps : List (Nat × Nat × Nat)} {v v' : Nat → List UInt8} {g off cap i : Nat} {l : List UInt8} (k : Nat) (h : (rowsB (ps.set i (g, off, cap)) v').rd k) : ((rowsB ps v).own k ∨ (rowsB ps v).rd k) ∨ ((ownB g off l).own k ∨ (ownB g off l).rd k) := by
  obtain ⟨p, hp, rfl⟩ := h
  rcases List.mem_or_eq_of_mem_set hp with h | h
  · exact .inl (.inr ⟨p, h, rfl⟩)
  · subst h
    exact .inr (.inl rfl)

theorem rows_put (ps : List (Nat × Nat × Nat)) (n i g off cap : Nat) (h : ps.length = i) (hi : i < n) :
    (rowsV ps ++ List.replicate (n - i) (Value.slice none 0 0)).toArray.setIfInBounds i (Value.slice (some ⟨g, off, none⟩) 248 cap) = (rowsV (ps ++ [(g, off, cap)]) ++ List.replicate (n - (i + 1)) (Value.slice none 0 0)).toArray := by
  have hl : (rowsV ps).length = i := by simp [rowsV, h]
  obtain ⟨m, hm⟩ : ∃ m, n - i = m + 1 := ⟨n - i - 1, by omega⟩
  rw [hm, show n - (i + 1) = m by omega, List.setIfInBounds_toArray, List.set_append_right _ _ (by omega), hl, Nat.sub_self, List.replicate_succ, List.set_cons_zero]
  simp [rowsV]

end Go.Proofs.YtlgciddnpinpbaaGreatDoor

namespace Go.Proofs.YtlgciddnpinpbaaGreatDoor
open Go.ChangeShapes Go.WideShapes Go.ChangeAt Go.RowKit
set_option linter.unusedSimpArgs false
set_option linter.unusedVariables false
set_option maxRecDepth 40000

theorem flat_get (f : Nat → List Value) (s : Nat) : ∀ n, (∀ i, i < n → (f i).length = s) → ((List.range n).flatMap f).length = n * s ∧ ∀ k x, ((List.range n).flatMap f)[k]? = some x → ∃ i j, i < n ∧ k = i * s + j ∧ (f i)[j]? = some x
  | 0, _ => ⟨by simp, fun k x h => by simp at h⟩
  | n + 1, hf => by
    obtain ⟨h1, h2⟩ := flat_get f s n (fun i hi => hf i (by omega))
    have e : (List.range (n + 1)).flatMap f = (List.range n).flatMap f ++ f n := by rw [List.range_succ, List.flatMap_append]; simp
    refine ⟨by rw [e, List.length_append, h1, hf n (by omega), Nat.succ_mul], fun k x h => ?_⟩
    rw [e] at h
    rcases Nat.lt_or_ge k (n * s) with hk | hk
    · rw [List.getElem?_append_left (by rw [h1]; exact hk)] at h
      obtain ⟨i, j, a, b, c⟩ := h2 k x h
      exact ⟨i, j, by omega, b, c⟩
    · rw [List.getElem?_append_right (by rw [h1]; exact hk), h1] at h
      exact ⟨n, k - n * s, by omega, by omega, h⟩

theorem rdA_rows {W : World} {b o len s : Nat} (f : Nat → List Value) (hs : ∀ i, i < len → (f i).length = s) (hc : ∀ i, i < len → ∀ j v, (f i)[j]? = some v → W.cell? ⟨b, o + (i * s + j), none⟩ = some v) :
    (rdA (some ⟨b, o, none⟩) ((List.range len).flatMap f)).prop W := by
  obtain ⟨h1, h2⟩ := flat_get f s len hs
  rcases Nat.eq_zero_or_pos (len * s) with h0 | h0
  · left
    rw [h0] at h1
    exact List.eq_nil_of_length_eq_zero h1
  · right
    refine ⟨b, o, rfl, ?_, fun k x hk => ?_⟩
    · obtain ⟨x, hx⟩ : ∃ x, ((List.range len).flatMap f)[0]? = some x := ⟨_, List.getElem?_eq_getElem (by rw [h1]; exact h0)⟩
      obtain ⟨i, j, hi, _, hj⟩ := h2 0 x hx
      exact World.block_lt_of_cell? W _ (hc i hi j x hj)
    · obtain ⟨i, j, hi, rfl, hj⟩ := h2 k x hk
      exact hc i hi j x hj

/-- A slice of structs: of each element what its cells are. -/
theorem open_rowsA {H : Type} {enc : TypeId × Value → H} {W : World} {v : Value} {d : DataW H} {p : List MemPlace} {T e : TypeId} (s : Nat) {α : Type} [Inhabited α] (g : α → List Value) (ht : Tryz.prog.underlying T = some (.slice e)) (hc : Tryz.prog.cellsOf e = s) (hs0 : 0 < s)
    (hv : ∃ a1 len cap, v = .slice a1 len cap)
    (hel : ∀ n cs x, DataW.trod enc Tryz.prog W 0 (fun _ => true) true n e cs = some x → cs.length = s → ∃ y : α, cs = g y) (h : DataW.Trod enc Tryz.prog W 0 (fun _ => true) true T v d p) :
    ∃ q l cap, v = .slice q (List.length l) cap ∧ (rdA q (l.flatMap g)).prop W := by
  obtain ⟨a1, len, cap, rfl⟩ := hv
  obtain ⟨fuel, hf⟩ := h
  rcases Go.Deep.open_slice ht hf with ⟨hcs, hx⟩ | ⟨a, len', cap', m, n, D, Pl, hcs, _, hl, hm, hmm, hx, hE⟩
  · simp [Value.cells] at hcs
    obtain ⟨rfl, rfl, rfl⟩ := hcs
    exact ⟨none, [], 0, rfl, .inl rfl⟩
  · simp [Value.cells] at hcs
    obtain ⟨rfl, rfl, rfl⟩ := hcs
    simp only [if_true] at hmm
    subst hmm
    have each : ∀ i, i < len → ∃ y : α, (g y).length = s ∧ ∀ j v, (g y)[j]? = some v → W.cell? ((a.add (i * s)).add j) = some v := by
      intro i hi
      obtain ⟨cs', h1, h2⟩ := hE i (by omega)
      obtain ⟨_, hlen, hcell⟩ := World.cells?_some h1
      rw [hc] at hlen hcell
      obtain ⟨y, rfl⟩ := hel _ _ _ h2 hlen
      exact ⟨y, hlen, fun j v hj => by rw [hcell j (by have := (List.getElem?_eq_some_iff.1 hj).1; omega)]; exact hj⟩
    obtain ⟨f, hf⟩ := Go.Deep.choose_lt each
    refine ⟨some a, (List.range len).map f, _, by rw [List.length_map, List.length_range], ?_⟩
    rw [List.flatMap_map]
    rcases Nat.eq_zero_or_pos len with h0 | h0
    · subst h0; left; rfl
    · obtain ⟨ab, ao, spot⟩ := a
      have h1 := hf 0 h0
      obtain ⟨x, hx⟩ : ∃ x, (g (f 0))[0]? = some x := ⟨_, List.getElem?_eq_getElem (by rw [h1.1]; exact hs0)⟩
      have hc0 := h1.2 0 x hx
      have hspot : spot = none := by simpa [Addr.add] using World.cell?_spot hc0
      subst hspot
      refine rdA_rows (s := s) (fun i => g (f i)) (fun i hi => (hf i hi).1) (fun i hi j v hj => ?_)
      have := (hf i hi).2 j v hj
      rw [Addr.add_lit, Addr.add_lit, Nat.add_assoc] at this
      exact this

end Go.Proofs.YtlgciddnpinpbaaGreatDoor

namespace Go.Proofs.YtlgciddnpinpbaaGreatDoor
open Go.ChangeShapes Go.WideShapes Go.ChangeAt Go.RowKit
set_option linter.unusedSimpArgs false
set_option linter.unusedVariables false
set_option maxRecDepth 40000

/-- One slice of bytes, from its reading. -/
theorem trod_bytes {H : Type} {enc : TypeId × Value → H} {W : World} {n : Nat} {cs : List Value} {x : DataW H × List MemPlace} (hf : DataW.trod enc Tryz.prog W 0 (fun _ => true) true n 22 cs = some x) :
    ∃ q l cap, cs = [.slice q (List.length l) cap] ∧ (rdA q (byteV l)).prop W := by
  have hc : Tryz.prog.cellsOf 5 = 1 := by kernel_rfl
  rcases open_ints Tryz.underlying22 Tryz.underlying5 hc hf with ⟨hcs, hx⟩ | ⟨a, len, cap, zs, hcs, _, hl, hm, hz, hx, hcell, hwz⟩
  · exact ⟨none, [], 0, hcs, .inl rfl⟩
  · simp only [if_true] at hz
    have hlen : ((zs.take len).map fun n => UInt8.ofNat n.toNat).length = len := by simp; omega
    refine ⟨some a, (zs.take len).map fun n => UInt8.ofNat n.toNat, cap, by rw [hlen]; exact hcs, ?_⟩
    by_cases h0 : len = 0
    · left; subst h0; simp [byteV]
    · obtain ⟨ab, ao, spot⟩ := a
      have hspot : spot = none := by simpa [Addr.add] using World.cell?_spot (hcell 0 (by omega))
      subst hspot
      refine .inr ⟨ab, ao, rfl, ?_, fun i x hi => ?_⟩
      · have := World.block_lt_of_cell? W _ (hcell 0 (by omega))
        simpa [Addr.add] using this
      · have hi1 : i < len := by have := (List.getElem?_eq_some_iff.1 hi).1; simp only [byteV, List.length_map] at this; simp at this; omega
        have hci := hcell i (by omega)
        rw [Addr.add_lit] at hci
        rw [hci]
        have hzi : i < zs.length := by omega
        have hw := bounds_u8 (hwz _ (List.getElem_mem hzi))
        rw [byteV_get] at hi
        simp only [List.getElem?_map, List.getElem?_take_of_lt hi1, List.getElem?_eq_getElem hzi, Option.map_some, Option.some.injEq] at hi
        rw [← hi, List.getD_eq_getElem?_getD, List.getElem?_eq_getElem hzi, Option.getD_some]
        congr 2
        rw [UInt8.toNat_ofNat']
        omega

/-- A row of a slice of byte slices, with what it reads. -/
structure ByteRow (W : World) where
  p : Option Addr
  l : List UInt8
  cap : Nat
  ok : (rdA p (byteV l)).prop W

instance (W : World) : Inhabited (ByteRow W) := ⟨⟨none, [], 0, .inl rfl⟩⟩
def ByteRow.val {W : World} (y : ByteRow W) : List Value := [.slice y.p y.l.length y.cap]

theorem open_byteRowsA {H : Type} {enc : TypeId × Value → H} {W : World} {base : Nat} {v : Value} {d : DataW H} {p : List MemPlace} (hval : Value.okWide Tryz.prog W .any base 47 v) (h : DataW.Trod enc Tryz.prog W 0 (fun _ => true) true 47 v d p) :
    ∃ (q : Option Addr) (rs : List (ByteRow W)) (cap : Nat), v = .slice q rs.length cap ∧ (rdA q (rs.flatMap ByteRow.val)).prop W :=
  open_rowsA 1 (ByteRow.val (W := W)) Tryz.underlying47 (by kernel_rfl) (by omega) (okWide_slice Tryz.underlying47 hval) (fun n cs x ht _ => by
    obtain ⟨q, l, cap, e, hr⟩ := trod_bytes ht
    exact ⟨⟨q, l, cap, hr⟩, e⟩) h

end Go.Proofs.YtlgciddnpinpbaaGreatDoor

namespace Go.Proofs.YtlgciddnpinpbaaGreatDoor
open Go.RowKit
set_option linter.unusedSimpArgs false
set_option linter.unusedVariables false
set_option maxRecDepth 40000

section
variable {rest : List Oper} {ops : Array Oper} {o : Oper} {a : Act} {Q : Exit → Act → World → Prop} {M0 R0 : Nat → Prop} {w0 W : World} {L : List Asrt} {P : Program}
theorem wpList_copy_part (H : St M0 R0 w0 W L) (i : Nat) (hwt : Region.wanted o (yielded ops a.tmps) = true) (d s : Operand) (dT sT : TypeId)
    (ho : o.op = .call { callee := .builtin .copy, args := #[d, s], argTypes := #[dT, sT] }) (elem : TypeId) (hu : P.underlying dT = some (.slice elem)) (hsz : (P.info? elem).map (·.size) = some 1)
    (g dLen dCap : Nat) (hd : a.eval d = .slice (some ⟨g, 0, none⟩) dLen dCap) (p : Option Addr) (l : List UInt8) (cap : Nat) (hs : a.eval s = .slice p l.length cap) (hb : (rdA p (byteV l)).prop W)
    (cs : List Value) (t : TypeId) (hi : L[i]? = some (blk g (.cells cs.toArray t (0, 0)))) (hfit : dLen = cs.length)
    (h : ∀ W', St M0 R0 w0 W' (L.set i (blk g (.cells (byteV (l.take dLen) ++ cs.drop (l.take dLen).length).toArray t (0, 0)))) → wpList P ops Q rest (a.put o.dst (goInt (l.take dLen).length)) W') :
    wpList P ops Q (o :: rest) a W := by
  refine wpList_want hwt fun K hK => ?_
  have hg := H.at i hi
  obtain ⟨l', hl'⟩ : ∃ l', l.take dLen = l' := ⟨_, rfl⟩
  have hlen : l'.length = Nat.min l.length dLen := by rw [← hl', List.length_take]; exact Nat.min_comm _ _
  have hml : l'.length ≤ dLen := by rw [hlen]; exact Nat.min_le_right _ _
  rw [hl'] at h
  have key : ∃ W', (Builtin.copy_ #[dT, sT] o.type #[.slice (some ⟨g, 0, none⟩) dLen dCap, .slice p l.length cap]).run P W = .ok (goInt l'.length) W' ∧ St M0 R0 w0 W' (L.set i (blk g (.cells (byteV l' ++ cs.drop l'.length).toArray t (0, 0)))) := by
    by_cases hl : l = []
    · subst hl
      have e0 : l' = [] := by rw [← hl']; simp
      subst e0
      have hset : L.set i (blk g (.cells (byteV [] ++ cs.drop 0).toArray t (0, 0))) = L := by
        have hlt : i < L.length := (List.getElem?_eq_some_iff.1 hi).1
        have e : L[i] = blk g (.cells cs.toArray t (0, 0)) := (List.getElem?_eq_some_iff.1 hi).2
        simp only [byteV, List.map_nil, List.nil_append, List.drop_zero]
        rw [← e]; exact List.set_getElem_self hlt
      simp only [List.length_nil]
      rw [hset]
      exact ⟨W, run_copy_none W dT sT o.type elem _ _ _ _ _ _ hu hsz (by simp), H⟩
    · rcases hb with e | ⟨gs, off, rfl, _, hat⟩
      · exact absurd (by simpa [byteV] using e) hl
      · have hst := run_storeCells_at P g 0 t (byteV l') 0 _ W hg (by simp; omega) (byteV_one _)
        simp only [Nat.add_zero, byteV_length, List.take_zero, List.nil_append, Nat.zero_add, List.toList_toArray] at hst
        refine ⟨_, ?_, H.setRow i hi (byteV l' ++ cs.drop l'.length).toArray⟩
        cases hq : P.info? elem with
        | none => simp [hq] at hsz
        | some j =>
          have hj : j.size = 1 := by simpa [hq] using hsz
          have hfc := run_firstCells_some (P := P) W j.size l'.length ⟨gs, off, none⟩ l.length cap (byteV l') (by rw [hj]; simp) (fun q u hu => by
            rw [Addr.add_lit]
            refine hat q u ?_
            rw [byteV_get] at hu ⊢
            rw [← hl', List.getElem?_take] at hu
            split at hu
            · exact hu
            · cases hu)
          simp [Builtin.copy_, run_underlying hu, Builtin.lenOf, sizeOf, typeInfo, hq, ← hlen, hfc, hst]
  obtain ⟨W', hrun, H'⟩ := key
  unfold Oper.wp
  simp [execOp, ho, resolve, invoke, builtin, hd, hs, hrun, Result.andThen]
  have := hK _ _ (h W' H')
  exact this
end

theorem val_get {w : World} (rs : List (ByteRow w)) (j : Nat) (hj : j < rs.length) : (rs.flatMap ByteRow.val)[j]? = some (.slice rs[j].p rs[j].l.length rs[j].cap) := by
  have e : rs.flatMap ByteRow.val = rs.map fun y => Value.slice y.p y.l.length y.cap := by
    clear hj
    induction rs with
    | nil => rfl
    | cons y r ih => rw [List.flatMap_cons, ih]; rfl
  rw [e, List.getElem?_map, List.getElem?_eq_getElem hj]; rfl

/-- A row of bytes, cut or filled up to 248. -/
def padR (l : List UInt8) : List UInt8 := l.take 248 ++ List.replicate (248 - (l.take 248).length) 0
theorem padR_len (l : List UInt8) : (padR l).length = 248 := by simp [padR, List.length_take]; omega
theorem padR_row (l : List UInt8) : byteV (l.take 248) ++ (List.replicate 248 (Value.int .u8 0)).drop (l.take 248).length = byteV (padR l) ++ [] := by
  rw [List.append_nil, padR, List.drop_replicate]
  simp [byteV]

end Go.Proofs.YtlgciddnpinpbaaGreatDoor

namespace Go.Proofs.YtlgciddnpinpbaaGreatDoor
open Go.RowKit
set_option linter.unusedSimpArgs false
set_option linter.unusedVariables false
set_option maxRecDepth 40000

theorem rowsV_put (ps : List (Nat × Nat × Nat)) (k g off cap : Nat) : (rowsV ps).toArray.setIfInBounds k (Value.slice (some ⟨g, off, none⟩) 248 cap) = (rowsV (ps.set k (g, off, cap))).toArray := by
  rw [List.setIfInBounds_toArray]
  simp [rowsV, List.map_set]

theorem rdA_of_row {W : World} {g : Nat} {xs : List Value} {t : TypeId} (h : W.heap[g]? = some (.cells xs.toArray t (0, 0))) : (rdA (some ⟨g, 0, none⟩) xs).prop W :=
  .inr ⟨g, 0, rfl, (Array.getElem?_eq_some_iff.1 h).1, fun i x hi => by rw [Nat.zero_add]; exact row_cell h (by simpa using hi)⟩

section
variable {rest : List Oper} {ops : Array Oper} {o : Oper} {a : Act} {Q : Exit → Act → World → Prop} {W : World} {P : Program}
/-- string(b) of a row of ours. -/
theorem wpList_bytes_strO (hwt : Region.wanted o (yielded ops a.tmps) = true) (src dst : TypeId) (x : Operand) (ho : o.op = .convert src dst x) (p : Option Addr) (n cap : Nat) (hx : a.eval x = .slice p n cap)
    (e : TypeId) (hs : P.underlying src = some (.slice e)) (he : P.underlying e = some (.int .u8)) (hd : P.underlying dst = some .string) (l : List UInt8) (hn : n = l.length) (t : TypeId) (hb : (ownS t 1 p n cap (byteV l)).prop W)
    (h : wpList P ops Q rest (a.put o.dst (.string ⟨l.toArray⟩)) W) : wpList P ops Q (o :: rest) a W := by
  rcases hb.2 with ⟨e1, h0⟩ | ⟨g, cap', cur, e1, hbg, hg, h3, h4, h5, h6⟩
  · cases e1
    have hl : l = [] := List.eq_nil_of_length_eq_zero (by omega)
    subst hl
    refine wpList_want hwt fun K hK => ?_
    have hrun := run_convert_bytes_nil (P := P) (w := W) src e hs he 0 0 dst hd
    unfold Oper.wp execOp
    simp only [ho, hx, Sem.run_bind, hrun, Result.andThen_ok, Sem.run_pure]
    exact hK _ _ h
  · cases e1
    refine wpList_bytes_str hwt src dst x ho g 0 n cap hx e hs he hd l (fun i hi => ?_) hn h
    have hr := ownS_rd hb
    rcases hr with h0 | ⟨g2, off, e2, _, hat⟩
    · have := congrArg List.length h0
      simp [byteV] at this
      subst this; simp at hi
    · cases e2
      exact hat i _ (by rw [byteV_get, List.getElem?_eq_getElem hi]; rfl)
end

set_option maxRecDepth 100000 in
set_option maxHeartbeats 16000000 in
theorem chainReads_short (w : World) (pl : Option Addr) (rs : List (ByteRow w)) (cl : Nat) (first : Nat) (pa : Option Addr) (ats : List UInt8) (ca : Nat) (h1 : rs.length ≤ 10) (h2 : ats.length ≤ 10) (hf : first < 4294967296) (hg : errA.prop w) (ha : (rdA pl (rs.flatMap ByteRow.val)).prop w) (hb : (rdA pa (byteV ats)).prop w) :
    Calls Tryz.prog 5 #[.slice pl rs.length cl, .int .u32 (first : Int), .slice pa ats.length ca] w fun e w' => e = .returned (.bool true) ∧ Below w.heap.size w w' := by
  have H := St.reads_only (w := w) [errA, rdA pl (rs.flatMap ByteRow.val), rdA pa (byteV ats)] (by
    intro B hB
    simp only [List.mem_cons, List.not_mem_nil, or_false] at hB
    rcases hB with rfl | rfl | rfl
    · exact ⟨hg, fun _ h => h⟩
    · exact ⟨ha, fun _ h => h⟩
    · exact ⟨hb, fun _ h => h⟩)
  have hl1 : (rs.length : Int) ≤ 10 := by omega
  have hl2 : (ats.length : Int) ≤ 10 := by omega
  have hl3 : ¬ (10 < (rs.length : Int)) := by omega
  have hl4 : ¬ (10 < (ats.length : Int)) := by omega
  have HL1 := Lib.hid h1
  have HF9 := Lib.hid hf
  have hf0 : 0 ≤ (first : Int) := by omega
  clear hg ha hb h1 h2 hf
  go_enter Tryz.func5, Tryz.ntmps5
  go_wp2_with (first
    | (go_at_call 28; go_loud ((refine (begun22_calls _ (H.at 0 rfl)).mono ?_); rintro e W ⟨rfl, hb⟩; replace H := H.stay (Fix.of_below hb _); clear hb))
    | (go_at_call 29; go_loud ((refine (new21_calls H _ 60 34 rfl rfl (by omega) (by omega)).mono ?_); clear H; rintro e W ⟨s, rfl, hnew, H⟩; have HS := Lib.hid hnew; have HO := Lib.hid hnew.ok; have HN := Lib.hid hnew.cnt; clear hnew))
    | (go_at_call 27; go_loud ((refine (homes_TX (s := s) (H.take 7).bundle HO.out (z := 34) (by rw [HN.out]; rfl)).mono ?_); rintro e W ⟨rfl, hto⟩; replace H := hto.front (R := [errA, rdA pl (rs.flatMap ByteRow.val), rdA pa (byteV ats)]) H; clear hto))
    | (refine wpList_make2_st H rfl 47 _ _ rfl _ Tryz.underlying47 (.slice none 0 0) 24 (by kernel_rfl) rfl 34 34 rfl rfl (by omega) (by omega) (by simp only [maxLen]; omega) ?_; clear H; intro W gh H))
  replace H := H.add (Fix.refl _ _) (rowsB [] s.v) (rowsB_nil s.v _) (fun k hk => hk.elim) (fun k hk => by obtain ⟨p, hp, _⟩ := hk; exact (List.not_mem_nil hp).elim)
  go_loopw [10] (fun u wr => ∃ (i : Nat) (ps : List (Nat × Nat × Nat)), u = .int .i64 (i : Int) ∧ i ≤ 34 ∧ ps.length = i ∧ St NoBlk (fun _ => True) w wr (s.L ++ [errA, rdA pl (rs.flatMap ByteRow.val), rdA pa (byteV ats), blk gh (.cells (rowsV ps ++ List.replicate (34 - i) (Value.slice none 0 0)).toArray 22 (0, 0)), rowsB ps s.v])) (fun u _ => 34 - (intOf u).toNat)
  case atStart => exact ⟨0, [], rfl, Nat.zero_le _, rfl, H⟩
  case round =>
    clear H
    obtain ⟨i, ps, rfl, hi, hpl, H⟩ := hrel
    have hi0 : 0 ≤ (i : Int) := by omega
    rcases Nat.lt_or_ge i 34 with hlt | hge
    · have hii : (i : Int) < 34 := by omega
      have HI := Lib.hid hlt
      have HPL := Lib.hid hpl
      go_upto_region 11 with fail
      go_wp2_with (first
        | (go_at_call 19; go_loud ((refine (rd_TX (s := s) (H.take 7).bundle HO.out _ i rfl (by rw [HN.out]; exact HI.out)).mono ?_); rintro e W ⟨gc, off, cap, rfl, _, hcap, hgc, hto⟩; replace H := hto.front2 (R := [errA, rdA pl (rs.flatMap ByteRow.val), rdA pa (byteV ats), blk gh (.cells (rowsV ps ++ List.replicate (34 - i) (Value.slice none 0 0)).toArray 22 (0, 0)), rowsB ps s.v]) H; clear hto))
        | (refine wpList_store1_st H 10 rfl 22 _ _ rfl gh i (.slice (some ⟨gc, off, none⟩) 248 cap) rfl rfl rfl _ _ rfl (by kernel_rfl) (by simp [rowsV]; have := HPL.out; have := HI.out; omega) ?_; clear H; intro W H))
      go_roundw
      case rel =>
        refine ⟨i + 1, ps ++ [(gc, off, cap)], congrArg _ (by omega), HI.out, by rw [List.length_append, HPL.out]; rfl, ?_⟩
        rw [rows_put ps 34 i gc off cap HPL.out HI.out] at H
        replace H : St NoBlk (fun _ => True) w _ (s.L ++ [errA, rdA pl (rs.flatMap ByteRow.val), rdA pa (byteV ats), blk gh (.cells (rowsV (ps ++ [(gc, off, cap)]) ++ List.replicate (34 - (i + 1)) (Value.slice none 0 0)).toArray 22 (0, 0)), rowsB ps s.v, ownB gc off (s.v i)]) := H
        exact (H.join 12 11 (A' := rowsB (ps ++ [(gc, off, cap)]) s.v) rfl rfl (rowsB_more (H.at 11 rfl) (H.at 12 rfl) (by rw [HPL.out]) hcap) (fun k hk => hk.elim) (fun k hk => rowsB_rd k hk)).take 12
      case measure => have := HI.out; simp [intOf]; omega
    · obtain rfl : i = 34 := by omega
      rw [Nat.sub_self, List.replicate_zero, List.append_nil] at H
      obtain ⟨G, hG⟩ : ∃ G, s.g = G := ⟨_, rfl⟩
      have HG := Lib.hid hG
      rw [hG]
      have HPL := Lib.hid hpl
      clear hG hge hi hpl
      rw [show (((34 : Nat) : Int)) = (34 : Int) from rfl]
      go_upto_region 13 with fail
      go_loopw [11] (fun u wr => ∃ (j : Nat) (s : TX) (v : Nat → List UInt8) (ps : List (Nat × Nat × Nat)), u = .int .i64 (j : Int) ∧ j ≤ rs.length ∧ s.g = G ∧ s.n = 34 ∧ s.Ok 0 ∧ ps.length = 34 ∧ (∀ x, x < 34 → v x = s.v x) ∧ St NoBlk (fun _ => True) w wr (s.L ++ [errA, rdA pl (rs.flatMap ByteRow.val), rdA pa (byteV ats), blk gh (.cells (rowsV ps).toArray 22 (0, 0)), rowsB ps v])) (fun u _ => rs.length - (intOf u).toNat)
      case atStart => exact ⟨0, s, s.v, ps, rfl, Nat.zero_le _, HG.out, HN.out, HO.out, HPL.out, fun _ _ => rfl, H⟩
      case round =>
        clear H HG HS HO HN HPL
        obtain ⟨j, s, v, ps, rfl, hj, hg, hn, ho, hpl, hvv, H⟩ := hrel
        have hj0 : 0 ≤ (j : Int) := by omega
        have hj10 : (j : Int) ≤ 10 := by have := HL1.out; omega
        have HO := Lib.hid ho
        have HN := Lib.hid hn
        have HPL := Lib.hid hpl
        have HG := Lib.hid hg
        have HVV := Lib.hid hvv
        clear ho hn hpl hg hvv
        rcases Nat.lt_or_ge j rs.length with hlt | hge
        · have hjj : (j : Int) < (rs.length : Int) := by omega
          have HJ := Lib.hid hlt
          have HL2 := Lib.hid (show j < 10 by have := HL1.out; omega)
          by_cases hja : j < ats.length
          · have hja2 : (j : Int) < (ats.length : Int) := by omega
            obtain ⟨b, hb⟩ : ∃ b, ats[j]? = some b := ⟨_, List.getElem?_eq_getElem hja⟩
            obtain ⟨m, hm⟩ : ∃ m, b.toNat % 12 = m := ⟨_, rfl⟩
            have HKK := Lib.hid (show 2 + m < 34 by omega)
            have hm12 : ((b.toNat : Nat) : Int).tmod 12 = (m : Int) := by rw [Int.tmod_eq_emod_of_nonneg (by omega)]; omega
            have hm0 : 0 ≤ (m : Int) := by omega
            have hm9 : (m : Int) < 12 := by omega
            have hb0 : ((b.toNat : Nat) : Int) < 256 := by have := b.toNat_lt; omega
            obtain ⟨ga, oa, hpa, hcb⟩ : ∃ ga oa, pa = some ⟨ga, oa, none⟩ ∧ wr.cell? ⟨ga, oa + j, none⟩ = some (.int .u8 (b.toNat : Int)) := by
              have hby : (byteV ats)[j]? = some (.int .u8 (b.toNat : Int)) := by rw [byteV_get, hb]; rfl
              rcases H.at 9 rfl with h | ⟨ga, oa, e, _, h⟩
              · rw [h] at hby; cases hby
              · exact ⟨ga, oa, e, h j _ hby⟩
            subst hpa
            have HM := Lib.hid hm
            clear hb hm
            go_upto_region 18 with fail
            clear hcb hm12
            have hk7 : ((2 : Int) + (m : Int)).toNat = 2 + m := by omega
            go_upto_region 19 with (first
              | (refine wpList_make2_st H rfl 22 _ _ rfl _ Tryz.underlying22 _ _ info_u8 rfl 248 248 rfl rfl (by omega) (by omega) (by simp only [maxLen]; omega) ?_; clear H; intro W gb H))
            replace H : St NoBlk (fun _ => True) w _ (s.L ++ [errA, rdA pl (rs.flatMap ByteRow.val), rdA (some ⟨ga, oa, none⟩) (byteV ats), blk gh (.cells (rowsV ps).toArray 22 (0, 0)), rowsB ps v, blk gb (.cells (List.replicate 248 (Value.int .u8 0)).toArray 5 (0, 0))]) := H
            obtain ⟨gq, oq, hpq, hcell⟩ : ∃ gq oq, pl = some ⟨gq, oq, none⟩ ∧ W.cell? ⟨gq, oq + j, none⟩ = some (.slice rs[j].p rs[j].l.length rs[j].cap) := by
              rcases H.at 8 rfl with h | ⟨gq, oq, e, _, h⟩
              · have := val_get rs j hlt
                rw [h] at this
                cases this
              · exact ⟨gq, oq, e, h j _ (val_get rs j hlt)⟩
            subst hpq
            have hrow : (rdA rs[j].p (byteV rs[j].l)).prop W := Asrt.stable _ w W (fun k hk => H.fix.block k (Asrt.bound _ w rs[j].ok k hk) (fun h => h)) rs[j].ok
            obtain ⟨row, hrw⟩ : ∃ row, rs[j] = row := ⟨_, rfl⟩
            rw [hrw] at hcell hrow
            clear hrw
            go_upto_region 20 with (first
              | (refine wpList_copy_part H 12 rfl _ _ 22 22 rfl _ Tryz.underlying22 size_u8 gb 248 248 rfl row.p row.l row.cap rfl hrow (List.replicate 248 (.int .u8 0)) _ rfl (by simp) ?_; clear H hcell hrow; intro W H))
            rw [padR_row] at H
            replace H : St NoBlk (fun _ => True) w _ (s.L ++ [errA, rdA (some ⟨gq, oq, none⟩) (rs.flatMap ByteRow.val), rdA (some ⟨ga, oa, none⟩) (byteV ats), blk gh (.cells (rowsV ps).toArray 22 (0, 0)), rowsB ps v, ownB gb 0 (padR row.l)]) := H.recast 12 (A' := ownB gb 0 (padR row.l)) rfl (fun h => ownB_of_row h) (fun k hk => hk) (fun k hk => hk.elim)
            replace H : St NoBlk (fun _ => True) w _ (s.L ++ [ownB gb 0 (padR row.l)] ++ [errA, rdA (some ⟨gq, oq, none⟩) (rs.flatMap ByteRow.val), rdA (some ⟨ga, oa, none⟩) (byteV ats), blk gh (.cells (rowsV ps).toArray 22 (0, 0)), rowsB ps v]) := St.swap (A := s.L) (E := [errA, rdA (some ⟨gq, oq, none⟩) (rs.flatMap ByteRow.val), rdA (some ⟨ga, oa, none⟩) (byteV ats), blk gh (.cells (rowsV ps).toArray 22 (0, 0)), rowsB ps v]) (R := [ownB gb 0 (padR row.l)]) H
            obtain ⟨nl, hnl⟩ : ∃ nl, padR row.l = nl := ⟨_, rfl⟩
            have HNL := Lib.hid (show nl.length = 248 by rw [← hnl]; exact padR_len _)
            rw [hnl] at H
            clear hnl
            go_wp2_with (first
              | (go_at_call 17; rw [← HG.out]; go_loud ((refine (wr_TX (s := s) (B := ownB gb 0 nl) (H.take 8).bundle HO.out _ (2 + m) (by omega) (by rw [HN.out]; exact HKK.out) (fun W h => ⟨ownB_bytes h, ownB_lt h⟩) HNL.out).mono ?_); rintro e W ⟨rfl, s1, hs1, hto⟩; replace H := hto.front (R := [errA, rdA (some ⟨gq, oq, none⟩) (rs.flatMap ByteRow.val), rdA (some ⟨ga, oa, none⟩) (byteV ats), blk gh (.cells (rowsV ps).toArray 22 (0, 0)), rowsB ps v]) H; clear hto; have HS1 := Lib.hid hs1; clear hs1))
              | (refine wpList_store1_st H 11 rfl 22 _ _ rfl gh (2 + m) (.slice (some ⟨gb, 0, none⟩) 248 248) rfl rfl rfl _ _ rfl (by kernel_rfl) (by have := HPL.out; have := HKK.out; simp [rowsV]; omega) ?_; clear H; intro W H))
            simp only [HG.out]
            go_roundw
            case rel =>
              have hg1 := HS1.out
              refine ⟨j + 1, s1, fun x => if x = 2 + m then nl else v x, ps.set (2 + m) (gb, 0, 248), congrArg _ (by omega), HJ.out, hg1.g.trans HG.out, hg1.n.trans HN.out, hg1.ok, by rw [List.length_set]; exact HPL.out, fun x hx => ?_, ?_⟩
              · rw [hg1.v x (by rw [HN.out]; exact hx)]
                show (if x = 2 + m then nl else v x) = (updV s.V (2 + m) nl x).1
                unfold updV
                by_cases e : x = 2 + m
                · rw [if_pos e, if_pos e]
                · rw [if_neg e, if_neg e]; exact HVV.out x hx
              · rw [rowsV_put] at H
                replace H : St NoBlk (fun _ => True) w _ (s1.L ++ [ownB gb 0 nl] ++ [errA, rdA (some ⟨gq, oq, none⟩) (rs.flatMap ByteRow.val), rdA (some ⟨ga, oa, none⟩) (byteV ats), blk gh (.cells (rowsV (ps.set (2 + m) (gb, 0, 248))).toArray 22 (0, 0)), rowsB ps v]) := H
                have H2 := H.join 7 12 (A' := rowsB (ps.set (2 + m) (gb, 0, 248)) (fun x => if x = 2 + m then nl else v x)) rfl rfl (rowsB_set (H.at 12 rfl) (H.at 7 rfl) (fun _ => rfl) (Nat.le_refl _)) (fun k hk => hk.elim) (fun k hk => rowsB_rd_set k hk)
                exact (St.swap (A := s1.L) (E := [emp]) (R := [errA, rdA (some ⟨gq, oq, none⟩) (rs.flatMap ByteRow.val), rdA (some ⟨ga, oa, none⟩) (byteV ats), blk gh (.cells (rowsV (ps.set (2 + m) (gb, 0, 248))).toArray 22 (0, 0)), rowsB (ps.set (2 + m) (gb, 0, 248)) (fun x => if x = 2 + m then nl else v x)]) H2).take 12
            case measure => have := HJ.out; simp [intOf]; omega
          · have hja2 : ¬ (j : Int) < (ats.length : Int) := by omega
            have HKK := Lib.hid (show 2 + j < 34 by have := HL2.out; omega)
            have hk7 : ((2 : Int) + (j : Int)).toNat = 2 + j := by omega
            go_upto_region 19 with (first
              | (refine wpList_make2_st H rfl 22 _ _ rfl _ Tryz.underlying22 _ _ info_u8 rfl 248 248 rfl rfl (by omega) (by omega) (by simp only [maxLen]; omega) ?_; clear H; intro W gb H))
            replace H : St NoBlk (fun _ => True) w _ (s.L ++ [errA, rdA pl (rs.flatMap ByteRow.val), rdA pa (byteV ats), blk gh (.cells (rowsV ps).toArray 22 (0, 0)), rowsB ps v, blk gb (.cells (List.replicate 248 (Value.int .u8 0)).toArray 5 (0, 0))]) := H
            obtain ⟨gq, oq, hpq, hcell⟩ : ∃ gq oq, pl = some ⟨gq, oq, none⟩ ∧ W.cell? ⟨gq, oq + j, none⟩ = some (.slice rs[j].p rs[j].l.length rs[j].cap) := by
              rcases H.at 8 rfl with h | ⟨gq, oq, e, _, h⟩
              · have := val_get rs j hlt
                rw [h] at this
                cases this
              · exact ⟨gq, oq, e, h j _ (val_get rs j hlt)⟩
            subst hpq
            have hrow : (rdA rs[j].p (byteV rs[j].l)).prop W := Asrt.stable _ w W (fun k hk => H.fix.block k (Asrt.bound _ w rs[j].ok k hk) (fun h => h)) rs[j].ok
            obtain ⟨row, hrw⟩ : ∃ row, rs[j] = row := ⟨_, rfl⟩
            rw [hrw] at hcell hrow
            clear hrw
            go_upto_region 20 with (first
              | (refine wpList_copy_part H 12 rfl _ _ 22 22 rfl _ Tryz.underlying22 size_u8 gb 248 248 rfl row.p row.l row.cap rfl hrow (List.replicate 248 (.int .u8 0)) _ rfl (by simp) ?_; clear H hcell hrow; intro W H))
            rw [padR_row] at H
            replace H : St NoBlk (fun _ => True) w _ (s.L ++ [errA, rdA (some ⟨gq, oq, none⟩) (rs.flatMap ByteRow.val), rdA pa (byteV ats), blk gh (.cells (rowsV ps).toArray 22 (0, 0)), rowsB ps v, ownB gb 0 (padR row.l)]) := H.recast 12 (A' := ownB gb 0 (padR row.l)) rfl (fun h => ownB_of_row h) (fun k hk => hk) (fun k hk => hk.elim)
            replace H : St NoBlk (fun _ => True) w _ (s.L ++ [ownB gb 0 (padR row.l)] ++ [errA, rdA (some ⟨gq, oq, none⟩) (rs.flatMap ByteRow.val), rdA pa (byteV ats), blk gh (.cells (rowsV ps).toArray 22 (0, 0)), rowsB ps v]) := St.swap (A := s.L) (E := [errA, rdA (some ⟨gq, oq, none⟩) (rs.flatMap ByteRow.val), rdA pa (byteV ats), blk gh (.cells (rowsV ps).toArray 22 (0, 0)), rowsB ps v]) (R := [ownB gb 0 (padR row.l)]) H
            obtain ⟨nl, hnl⟩ : ∃ nl, padR row.l = nl := ⟨_, rfl⟩
            have HNL := Lib.hid (show nl.length = 248 by rw [← hnl]; exact padR_len _)
            rw [hnl] at H
            clear hnl
            go_wp2_with (first
              | (go_at_call 17; rw [← HG.out]; go_loud ((refine (wr_TX (s := s) (B := ownB gb 0 nl) (H.take 8).bundle HO.out _ (2 + j) (by omega) (by rw [HN.out]; exact HKK.out) (fun W h => ⟨ownB_bytes h, ownB_lt h⟩) HNL.out).mono ?_); rintro e W ⟨rfl, s1, hs1, hto⟩; replace H := hto.front (R := [errA, rdA (some ⟨gq, oq, none⟩) (rs.flatMap ByteRow.val), rdA pa (byteV ats), blk gh (.cells (rowsV ps).toArray 22 (0, 0)), rowsB ps v]) H; clear hto; have HS1 := Lib.hid hs1; clear hs1))
              | (refine wpList_store1_st H 11 rfl 22 _ _ rfl gh (2 + j) (.slice (some ⟨gb, 0, none⟩) 248 248) rfl rfl rfl _ _ rfl (by kernel_rfl) (by have := HPL.out; have := HKK.out; simp [rowsV]; omega) ?_; clear H; intro W H))
            simp only [HG.out]
            go_roundw
            case rel =>
              have hg1 := HS1.out
              refine ⟨j + 1, s1, fun x => if x = 2 + j then nl else v x, ps.set (2 + j) (gb, 0, 248), congrArg _ (by omega), HJ.out, hg1.g.trans HG.out, hg1.n.trans HN.out, hg1.ok, by rw [List.length_set]; exact HPL.out, fun x hx => ?_, ?_⟩
              · rw [hg1.v x (by rw [HN.out]; exact hx)]
                show (if x = 2 + j then nl else v x) = (updV s.V (2 + j) nl x).1
                unfold updV
                by_cases e : x = 2 + j
                · rw [if_pos e, if_pos e]
                · rw [if_neg e, if_neg e]; exact HVV.out x hx
              · rw [rowsV_put] at H
                replace H : St NoBlk (fun _ => True) w _ (s1.L ++ [ownB gb 0 nl] ++ [errA, rdA (some ⟨gq, oq, none⟩) (rs.flatMap ByteRow.val), rdA pa (byteV ats), blk gh (.cells (rowsV (ps.set (2 + j) (gb, 0, 248))).toArray 22 (0, 0)), rowsB ps v]) := H
                have H2 := H.join 7 12 (A' := rowsB (ps.set (2 + j) (gb, 0, 248)) (fun x => if x = 2 + j then nl else v x)) rfl rfl (rowsB_set (H.at 12 rfl) (H.at 7 rfl) (fun _ => rfl) (Nat.le_refl _)) (fun k hk => hk.elim) (fun k hk => rowsB_rd_set k hk)
                exact (St.swap (A := s1.L) (E := [emp]) (R := [errA, rdA (some ⟨gq, oq, none⟩) (rs.flatMap ByteRow.val), rdA pa (byteV ats), blk gh (.cells (rowsV (ps.set (2 + j) (gb, 0, 248))).toArray 22 (0, 0)), rowsB (ps.set (2 + j) (gb, 0, 248)) (fun x => if x = 2 + j then nl else v x)]) H2).take 12
            case measure => have := HJ.out; simp [intOf]; omega
        · obtain hje : j = rs.length := by omega
          subst hje
          have hjj : ¬ ((rs.length : Int) < (rs.length : Int)) := by omega
          clear hj hge
          replace H := H.recast 10 (A' := rdA (some ⟨gh, 0, none⟩) (rowsV ps)) rfl (fun h => rdA_of_row h) (fun k hk => hk.elim) (fun k ⟨_, ad, e, hk⟩ => by cases e; exact .inl hk)
          replace H : St NoBlk (fun _ => True) w _ ((s.L ++ [errA, rdA pl (rs.flatMap ByteRow.val), rdA pa (byteV ats)]) ++ [rdA (some ⟨gh, 0, none⟩) (rowsV ps), rowsB ps v]) := H
          replace H := H.rotate
          have HL8 := Lib.hid (show ∀ k, k < 34 → (v k).length = 248 from fun k hk => by rw [HVV.out k hk]; exact HO.out.lens k (by rw [HN.out]; exact hk))
          have tokq : True := trivial
          by_cases hf2 : 2 ≤ first ∧ first < 34
          · have HF2 := Lib.hid hf2
            obtain ⟨R, hR⟩ : ∃ R, walkC v 34 40 first [] [] = R := ⟨_, rfl⟩
            have HRS := Lib.hid (show walkC s.v s.n 40 first [] [] = R by rw [← hR, HN.out]; exact walkC_congr (fun k _ hk => (HVV.out k hk).symm) 40 first [] [])
            have HR := Lib.hid hR
            clear hf2 hR
            cases R with
            | none =>
              go_wp2_with (first
                | (go_at_call 30; go_loud ((refine (read22_in (ps := ps) (v := v) (gh := gh) (n := 34) (H.take 2).bundle HL8.out HPL.out _ first rfl HF2.out.1 HF2.out.2 (by omega) none HR.out).mono ?_); rintro e W ⟨p2, bs, c2, rfl, _, hbs, hto⟩; obtain rfl := hbs rfl; replace H := hto.front2 (R := s.L ++ [errA, rdA pl (rs.flatMap ByteRow.val), rdA pa (byteV ats)]) H; clear hto hbs; replace H : St NoBlk (fun _ => True) w _ ([rdA (some ⟨gh, 0, none⟩) (rowsV ps), rowsB ps v] ++ (s.L ++ [errA, rdA pl (rs.flatMap ByteRow.val), rdA pa (byteV ats)] ++ [ownS 5 1 p2 0 c2 (byteV [])])) := by { rw [List.append_assoc] at H; exact H }; replace H := H.rotate))
                | (go_at_call 31; rw [← HG.out]; go_loud ((refine (Get_bad (s := s) (cc := 16) (H.take 8).bundle (fun W hb => gets_none hb HO.out _ first rfl HF9.out HF2.out.1 (by rw [HN.out]; exact HF2.out.2) HRS.out)).mono ?_); rintro e W ⟨rfl, hto⟩; replace H := hto.front (R := [rdA pl (rs.flatMap ByteRow.val), rdA pa (byteV ats), ownS 5 1 p2 0 c2 (byteV []), rdA (some ⟨gh, 0, none⟩) (rowsV ps), rowsB ps v]) H; clear hto))
                | (have _t := tokq; clear _t; refine wpList_bytes_strO rfl 22 9 _ rfl none 0 0 rfl 5 Tryz.underlying22 Tryz.underlying5 Tryz.underlying9 [] rfl 5 (ownS_nil _ _ _) ?_; clear tokq)
                | (refine wpList_bytes_strO rfl 22 9 _ rfl p2 0 c2 rfl 5 Tryz.underlying22 Tryz.underlying5 Tryz.underlying9 [] rfl 5 (H.at 10 rfl) ?_))
              go_ret
              exact ⟨rfl, H.fix.below⟩
            | some q =>
              obtain ⟨hs, bs⟩ := q
              go_wp2_with (first
                | (go_at_call 30; go_loud ((refine (read22_in (ps := ps) (v := v) (gh := gh) (n := 34) (H.take 2).bundle HL8.out HPL.out _ first rfl HF2.out.1 HF2.out.2 (by omega) (some (hs, bs)) HR.out).mono ?_); rintro e W ⟨p2, bs', c2, rfl, hbs, _, hto⟩; have hbe : bs = bs' := (hbs _ rfl).symm; subst hbe; replace H := hto.front2 (R := s.L ++ [errA, rdA pl (rs.flatMap ByteRow.val), rdA pa (byteV ats)]) H; clear hto hbs; replace H : St NoBlk (fun _ => True) w _ ([rdA (some ⟨gh, 0, none⟩) (rowsV ps), rowsB ps v] ++ (s.L ++ [errA, rdA pl (rs.flatMap ByteRow.val), rdA pa (byteV ats)] ++ [ownS 5 1 p2 bs.length c2 (byteV bs)])) := by { rw [List.append_assoc] at H; exact H }; replace H := H.rotate))
                | (go_at_call 31; rw [← HG.out]; go_loud ((refine (Get_ok (s := s) (H.take 7).bundle HO.out _ first rfl HF9.out HF2.out.1 (by rw [HN.out]; exact HF2.out.2) HRS.out).mono ?_); rintro e W ⟨p3, c3, rfl, hto⟩; replace H := hto.front2 (R := [errA, rdA pl (rs.flatMap ByteRow.val), rdA pa (byteV ats), ownS 5 1 p2 bs.length c2 (byteV bs), rdA (some ⟨gh, 0, none⟩) (rowsV ps), rowsB ps v]) H; clear hto))
                | (have _t := tokq; clear _t; refine wpList_bytes_strO rfl 22 9 _ rfl p3 bs.length c3 rfl 5 Tryz.underlying22 Tryz.underlying5 Tryz.underlying9 bs rfl 5 (H.at 13 rfl) ?_; clear tokq)
                | (refine wpList_bytes_strO rfl 22 9 _ rfl p2 bs.length c2 rfl 5 Tryz.underlying22 Tryz.underlying5 Tryz.underlying9 bs rfl 5 (H.at 10 rfl) ?_))
              go_ret
              exact ⟨by simp, H.fix.below⟩
          · have HF2 := Lib.hid (show first < 2 ∨ 34 ≤ first by omega)
            clear hf2
            replace H := H.rotate
            go_wp2_with (first
              | (go_at_call 30; go_loud ((refine (read22_bad (some ⟨gh, 0, none⟩) 34 34 _ first rfl HF2.out (by omega) HF9.out).mono ?_); rintro e W' ⟨rfl, rfl⟩))
              | (go_at_call 31; rw [← HG.out]; go_loud ((refine (Get_bad (s := s) (cc := 1) (H.take 8).bundle (fun W hb => gets_arg hb HO.out _ first rfl HF9.out (by rw [HN.out]; exact HF2.out))).mono ?_); rintro e W ⟨rfl, hto⟩; replace H := hto.front (R := [rdA pl (rs.flatMap ByteRow.val), rdA pa (byteV ats), rdA (some ⟨gh, 0, none⟩) (rowsV ps), rowsB ps v]) H; clear hto))
              | (refine wpList_bytes_strO rfl 22 9 _ rfl none 0 0 rfl 5 Tryz.underlying22 Tryz.underlying5 Tryz.underlying9 [] rfl 5 (ownS_nil _ _ _) ?_))
            go_ret
            exact ⟨rfl, H.fix.below⟩

end Go.Proofs.YtlgciddnpinpbaaGreatDoor

namespace Go.Proofs.YtlgciddnpinpbaaGreatDoor
open Go.RowKit
set_option linter.unusedSimpArgs false
set_option linter.unusedVariables false
set_option maxRecDepth 40000

theorem walkC_pre {v : Nat → List UInt8} {n : Nat} : ∀ {fuel next : Nat} {hs : List Nat} {bs : List UInt8} {q : List Nat × List UInt8}, walkC v n fuel next hs bs = some q → hs <+: q.1
  | 0, next, hs, bs, q, h => by
    rw [walkC] at h
    split at h
    · cases h; exact List.prefix_refl _
    · cases h
  | f + 1, next, hs, bs, q, h => by
    rw [walkC] at h
    split at h
    · cases h; exact List.prefix_refl _
    · split at h
      · cases h
      · split at h
        · cases h
        · exact (List.prefix_append hs [next]).trans (walkC_pre h)

theorem walkC_same {v v' : Nat → List UInt8} {n : Nat} : ∀ {fuel next : Nat} {hs : List Nat} {bs : List UInt8} {q : List Nat × List UInt8}, (∀ k ∈ q.1, v' k = v k) → walkC v n fuel next hs bs = some q → walkC v' n fuel next hs bs = some q
  | 0, next, hs, bs, q, _, h => by rw [walkC] at h ⊢; exact h
  | f + 1, next, hs, bs, q, hv, h => by
    rw [walkC] at h ⊢
    by_cases h0 : next = 0
    · rw [if_pos h0] at h ⊢; exact h
    · rw [if_neg h0] at h ⊢
      by_cases h1 : next < 2 ∨ n ≤ next
      · rw [if_pos h1] at h; cases h
      · rw [if_neg h1] at h ⊢
        by_cases h2 : 242 < le (v next) 4 2 ∨ (le (v next) 0 4 ≠ 0 ∧ le (v next) 4 2 < 242)
        · rw [if_pos h2] at h; cases h
        · rw [if_neg h2] at h
          have hm : next ∈ q.1 := (walkC_pre h).subset (by simp)
          rw [hv next hm, if_neg h2]
          exact walkC_same hv h

theorem count_one {q r : Nat → Bool} {h : Nat} (hr : r h = true) : ∀ n, h < n → (∀ k, k < n → q k = (r k && k != h)) → (List.range n).countP q + 1 = (List.range n).countP r
  | 0, hn, _ => by omega
  | n + 1, hn, hq => by
    rw [List.range_succ, List.countP_append, List.countP_append]
    by_cases e : h = n
    · subst e
      have h1 : (List.range h).countP q = (List.range h).countP r := List.countP_congr fun k hk => by
        have hk' := List.mem_range.1 hk
        rw [hq k (by omega)]
        have : (k != h) = true := by simp; omega
        rw [this, Bool.and_true]
      have h2 : q h = false := by rw [hq h (by omega)]; simp
      simp [h1, h2, hr]
    · have ih := count_one hr n (by omega) (fun k hk => hq k (by omega))
      have h2 : q n = r n := by
        rw [hq n (by omega)]
        have : (n != h) = true := by simp; omega
        rw [this, Bool.and_true]
      have h3 : List.countP q [n] = List.countP r [n] := by simp [List.countP_cons, h2]
      rw [h3]
      omega

theorem count_turn {p : Nat → Bool} {n : Nat} : ∀ (hs : List Nat) (q : Nat → Bool), hs.Nodup → (∀ k ∈ hs, k < n ∧ p k = true) → (∀ k, k < n → q k = (p k && !decide (k ∈ hs))) → (List.range n).countP q + hs.length = (List.range n).countP p
  | [], q, _, _, hq => by
    rw [List.length_nil, Nat.add_zero]
    exact List.countP_congr fun k hk => by rw [hq k (List.mem_range.1 hk)]; simp
  | h :: t, q, hnd, hall, hq => by
    have hnd' := List.nodup_cons.1 hnd
    have ih := count_turn (p := p) t (fun k => p k && !decide (k ∈ t)) hnd'.2 (fun k hk => hall k (List.mem_cons_of_mem _ hk)) (fun k _ => rfl)
    have hh := hall h List.mem_cons_self
    have h1 := count_one (q := q) (r := fun k => p k && !decide (k ∈ t)) (h := h) (by simp [hh.2, hnd'.1]) n hh.1 (fun k hk => by
      rw [hq k hk]
      by_cases e : k = h
      · subst e; simp
      · simp [e])
    rw [List.length_cons]
    omega

theorem leftOf_count (l : List UInt8) (n : Nat) : leftOf l n = (List.range n).countP fun i => !hasB l i := by rw [leftOf, List.countP_eq_length_filter]

end Go.Proofs.YtlgciddnpinpbaaGreatDoor

namespace Go.Proofs.YtlgciddnpinpbaaGreatDoor
open Go.RowKit
set_option linter.unusedSimpArgs false
set_option linter.unusedVariables false
set_option maxRecDepth 40000

/-- Chains beside each other, and how many homes are left. -/
structure Keeps (s : TX) (cs : List (List Nat × List UInt8)) : Prop where
  ok : s.Ok 0
  cnt : s.n = 394
  one : ∀ c ∈ cs, c.1.length = longC c.2.length ∧ c.2.length ≤ 9680 ∧ c.1.Nodup ∧ (∀ k ∈ c.1, 2 ≤ k ∧ k < s.n ∧ hasB (s.v 1) k = true) ∧ walkC s.v s.n 40 (c.1.getD 0 0) [] [] = some c
  two : cs.Pairwise fun a b => ∀ k ∈ a.1, k ∉ b.1
  left : leftOf (s.v 1) s.n + (cs.map fun c => longC c.2.length).sum = 392

theorem Keeps.nil {s : TX} (h : NewSpace s 394) : Keeps s [] where
  ok := h.ok
  cnt := h.cnt
  one := fun c hc => (List.not_mem_nil hc).elim
  two := List.Pairwise.nil
  left := by rw [h.v1, h.cnt, leftOf_new 394 (by omega)]; rfl

theorem Keeps.sum {s : TX} {cs : List (List Nat × List UInt8)} (h : Keeps s cs) : (cs.map fun c => longC c.2.length).sum ≤ 40 * cs.length := by
  have : ∀ cs : List (List Nat × List UInt8), (∀ c ∈ cs, c.2.length ≤ 9680) → (cs.map fun c => longC c.2.length).sum ≤ 40 * cs.length := by
    intro cs
    induction cs with
    | nil => intro _; simp
    | cons c cs ih =>
      intro h
      have h1 := longC_le c.2.length (h c List.mem_cons_self)
      have h2 := ih fun c hc => h c (List.mem_cons_of_mem _ hc)
      rw [List.map_cons, List.sum_cons, List.length_cons]
      omega
  exact this cs fun c hc => (h.one c hc).2.1

theorem Keeps.room {s : TX} {cs : List (List Nat × List UInt8)} (h : Keeps s cs) (h8 : cs.length < 8) {n : Nat} (hn : n ≤ 9680) : longC n ≤ leftOf (s.v 1) s.n := by
  have h1 := h.left
  have h2 := h.sum
  have h3 := longC_le n hn
  omega

theorem Keeps.put {s s' : TX} {cs : List (List Nat × List UInt8)} (h : Keeps s cs) (h8 : cs.length < 8) {hs : List Nat} {bs : List UInt8} (hl : bs.length ≤ 9680) (hhs : hs = (freeL (s.v 1) s.n).take (longC bs.length))
    (hs' : s.To s' 0 (linksV (takV s.V hs (longC bs.length)) hs bs (longC bs.length))) : Keeps s' (cs ++ [(hs, bs)]) := by
  have hroom := h.room h8 hl
  obtain ⟨f1, f2, f3, f4, f5, f6⟩ := put_facts h.ok hhs hroom hs'
  have hr := put_reads h.ok hhs hroom hl hs'
  have hold : ∀ c ∈ cs, ∀ k ∈ c.1, k ∉ hs := fun c hc k hk hm => by
    have h1 := ((h.one c hc).2.2.2.1 k hk).2.2
    rw [(f3 k hm).2.2] at h1
    cases h1
  refine ⟨hs'.ok, hs'.n.trans h.cnt, fun c hc => ?_, ?_, ?_⟩
  · rcases List.mem_append.1 hc with hc | hc
    · obtain ⟨o1, o2, o3, o4, o5⟩ := h.one c hc
      refine ⟨o1, o2, o3, fun k hk => ?_, ?_⟩
      · have := o4 k hk
        rw [hs'.n]
        exact ⟨this.1, this.2.1, by rw [f6 k this.1 this.2.1, this.2.2, Bool.true_or]⟩
      · rw [hs'.n]
        exact walkC_same (fun k hk => by have := o4 k hk; exact f5 k this.1 this.2.1 (hold c hc k hk)) o5
    · obtain rfl := List.mem_singleton.1 hc
      refine ⟨f1, hl, f2, fun k hk => ?_, hr.1⟩
      have := f3 k hk
      rw [hs'.n]
      exact ⟨this.1, this.2.1, by rw [f6 k this.1 this.2.1, decide_eq_true hk, Bool.or_true]⟩
  · refine List.pairwise_append.2 ⟨h.two, List.pairwise_singleton _ _, fun a ha b hb => ?_⟩
    obtain rfl := List.mem_singleton.1 hb
    exact hold a ha
  · have h1 := h.left
    have h2 : leftOf (s'.v 1) s'.n + hs.length = leftOf (s.v 1) s.n := by
      rw [leftOf_count, leftOf_count, hs'.n]
      refine count_turn hs _ f2 (fun k hk => by have := f3 k hk; exact ⟨this.2.1, by simp [this.2.2]⟩) fun k hk => ?_
      rcases Nat.lt_or_ge k 2 with h2 | h2
      · have e1 : hasB (s.v 1) k = true := by
          rcases hq : hasB (s.v 1) k with _ | _
          · have := freeL_lt (freeL_mem hk hq); omega
          · rfl
        have e2 : hasB (s'.v 1) k = true := by
          rcases hq : hasB (s'.v 1) k with _ | _
          · have := freeL_lt (freeL_mem hk hq); omega
          · rfl
        simp [e1, e2]
      · rw [f6 k h2 hk]; simp
    rw [List.map_append, List.sum_append]
    simp only [List.map_cons, List.map_nil, List.sum_cons, List.sum_nil]
    omega

theorem Keeps.drop {s s' : TX} {xs ys : List (List Nat × List UInt8)} {c : List Nat × List UInt8} (h : Keeps s (xs ++ c :: ys)) (hs' : s.To s' 0 (takV s.V c.1 c.1.length)) : Keeps s' (xs ++ ys) := by
  have hc : c ∈ xs ++ c :: ys := by simp
  obtain ⟨o1, o2, o3, o4, o5⟩ := h.one c hc
  obtain ⟨f1, f2⟩ := drop_facts h.ok o3 o4 hs'
  have hap : ∀ d ∈ xs ++ ys, ∀ k ∈ d.1, k ∉ c.1 := fun d hd k hk hm => by
    have h2 := List.pairwise_append.1 h.two
    rcases List.mem_append.1 hd with hd | hd
    · exact h2.2.2 d hd c List.mem_cons_self k hk hm
    · exact (List.pairwise_cons.1 h2.2.1).1 d hd k hm hk
  have hsub : ∀ d ∈ xs ++ ys, d ∈ xs ++ c :: ys := fun d hd => by
    rcases List.mem_append.1 hd with hd | hd
    · exact List.mem_append_left _ hd
    · exact List.mem_append_right _ (List.mem_cons_of_mem _ hd)
  refine ⟨hs'.ok, hs'.n.trans h.cnt, fun d hd => ?_, ?_, ?_⟩
  · obtain ⟨p1, p2, p3, p4, p5⟩ := h.one d (hsub d hd)
    refine ⟨p1, p2, p3, fun k hk => ?_, ?_⟩
    · have := p4 k hk
      rw [hs'.n]
      exact ⟨this.1, this.2.1, by rw [f1 k this.1 this.2.1, this.2.2, decide_eq_false (hap d hd k hk)]; rfl⟩
    · rw [hs'.n]
      exact walkC_same (fun k hk => by have := p4 k hk; exact f2 k (by omega) this.2.1) p5
  · have h2 := List.pairwise_append.1 h.two
    exact List.pairwise_append.2 ⟨h2.1, (List.pairwise_cons.1 h2.2.1).2, fun a ha b hb => h2.2.2 a ha b (List.mem_cons_of_mem _ hb)⟩
  · have h1 := h.left
    have h2 : leftOf (s.v 1) s.n + c.1.length = leftOf (s'.v 1) s'.n := by
      rw [leftOf_count, leftOf_count, hs'.n]
      refine count_turn c.1 _ o3 (fun k hk => by have := o4 k hk; exact ⟨this.2.1, by rw [f1 k this.1 this.2.1, decide_eq_true hk]; simp⟩) fun k hk => ?_
      rcases Nat.lt_or_ge k 2 with h2 | h2
      · have e1 : hasB (s.v 1) k = true := by
          rcases hq : hasB (s.v 1) k with _ | _
          · have := freeL_lt (freeL_mem hk hq); omega
          · rfl
        have e2 : hasB (s'.v 1) k = true := by
          rcases hq : hasB (s'.v 1) k with _ | _
          · have := freeL_lt (freeL_mem hk hq); omega
          · rfl
        simp [e1, e2]
      · rw [f1 k h2 hk]
        by_cases hm : k ∈ c.1
        · simp [hm, (o4 k hm).2.2]
        · simp [hm]
    rw [List.map_append, List.sum_append] at h1 ⊢
    rw [List.map_cons, List.sum_cons] at h1
    omega

theorem Keeps.first {s : TX} {cs : List (List Nat × List UInt8)} (h : Keeps s cs) {c : List Nat × List UInt8} (hc : c ∈ cs) : 2 ≤ c.1.getD 0 0 ∧ c.1.getD 0 0 < s.n := by
  obtain ⟨o1, o2, o3, o4, o5⟩ := h.one c hc
  have h0 := longC_pos c.2.length
  have e : c.1.getD 0 0 = c.1[0] := by rw [List.getD_eq_getElem?_getD, List.getElem?_eq_getElem (by omega)]; rfl
  have := o4 _ (List.getElem_mem (show 0 < c.1.length by omega))
  rw [e]
  exact ⟨this.1, this.2.1⟩

theorem longs_take (cs : List (List Nat × List UInt8)) (k : Nat) : ((cs.take k).map fun c => longC c.2.length).sum ≤ (cs.map fun c => longC c.2.length).sum := by
  have : (cs.map fun c => longC c.2.length).sum = ((cs.take k).map fun c => longC c.2.length).sum + ((cs.drop k).map fun c => longC c.2.length).sum := by
    rw [← List.sum_append, ← List.map_append, List.take_append_drop]
  omega

theorem longs_succ (cs : List (List Nat × List UInt8)) (k : Nat) (c : List Nat × List UInt8) (h : cs[k]? = some c) : ((cs.take (k + 1)).map fun c => longC c.2.length).sum = ((cs.take k).map fun c => longC c.2.length).sum + longC c.2.length := by
  obtain ⟨hk, rfl⟩ := List.getElem?_eq_some_iff.1 h
  rw [List.take_succ_eq_append_getElem hk, List.map_append, List.sum_append]
  simp

end Go.Proofs.YtlgciddnpinpbaaGreatDoor

namespace Go.Proofs.YtlgciddnpinpbaaGreatDoor
open Go.RowKit
set_option linter.unusedSimpArgs false
set_option linter.unusedVariables false
set_option maxRecDepth 40000

def e5B : List UInt8 := List.replicate 3 229

set_option maxHeartbeats 4000000 in
theorem Twin_calls {w : World} {p : Option Addr} {bs : List UInt8} {n cap : Nat} (hb : (rdA p (byteV bs)).prop w) (hn : bs.length = n) (hl : n ≤ 1099511627776) :
    Calls Tryz.prog 33 #[.slice p n cap] w fun e w' => ∃ g, e = .returned (.slice (some ⟨g, 0, none⟩) n (n + 3)) ∧ (ownB g 0 (bs ++ e5B)).prop w' ∧ w.heap.size ≤ g ∧ Below w.heap.size w w' := by
  have H := St.reads_only (w := w) [rdA p (byteV bs)] (by
    intro B hB
    simp only [List.mem_cons, List.not_mem_nil, or_false] at hB
    rcases hB with rfl
    exact ⟨hb, fun _ h => h⟩)
  clear hb
  have hn0 : 0 ≤ (n : Int) := by omega
  have hn9 : (n : Int) ≤ 1099511627776 := by omega
  have k1 : ((n : Int) + 3).toNat = n + 3 := by omega
  have k2 : (n : Int) ≤ (n : Int) + 3 := by omega
  have k3 : n ≤ n + 3 := by omega
  have HN := Lib.hid hn
  have HL := Lib.hid hl
  clear hn hl
  go_enter Tryz.func33, Tryz.ntmps33
  go_upto_region 2 with (first
    | (refine wpList_make2_st H rfl 22 _ _ rfl _ Tryz.underlying22 _ _ info_u8 rfl (n + 3) (n + 3) (by rw [Int.natCast_add]; rfl) (by rw [Int.natCast_add]; rfl) (by omega) (by have := HL.out; omega) (by have := HL.out; simp only [maxLen]; omega) ?_; clear H; intro W g H))
  replace H : St _ _ w _ [rdA p (byteV bs), blk g (.cells (List.replicate (n + 3) (Value.int .u8 0)).toArray 5 (0, 0))] := H
  go_upto_region 3 with (first
    | (refine wpList_copy_part H 1 rfl _ _ 22 22 rfl _ Tryz.underlying22 size_u8 g (n + 3) (n + 3) rfl p bs cap (by rw [HN.out]; rfl) (H.at 0 rfl) _ _ rfl (by simp) ?_; clear H; intro W H))
  rw [List.take_of_length_le (by rw [HN.out]; omega)] at H
  rw [show (List.replicate (n + 3) (Value.int .u8 0)).drop bs.length = byteV [0, 0, 0] by rw [List.drop_replicate, HN.out, Nat.add_sub_cancel_left]; rfl] at H
  replace H : St _ _ w _ [rdA p (byteV bs), blk g (.cells (byteV bs ++ byteV [0, 0, 0]).toArray 5 (0, 0))] := H
  rw [show byteV bs ++ byteV [0, 0, 0] = byteV (bs ++ [0, 0, 0]) ++ [] by simp [byteV]] at H
  replace H := H.recast 1 (A' := ownB g 0 (bs ++ [0, 0, 0])) rfl (fun h => ownB_of_row h) (fun k hk => hk) (fun k hk => hk.elim)
  replace H : St _ _ w _ [rdA p (byteV bs), ownB g 0 (bs ++ [0, 0, 0])] := H
  go_upto_region 4 with fail
  go_loopw [4] (fun u wr => ∃ (i : Nat) (m : List UInt8), u = .int .i64 (i : Int) ∧ n ≤ i ∧ i ≤ n + 3 ∧ m.length = n + 3 ∧ m.take i = bs ++ List.replicate (i - n) 229 ∧ St NoBlk (fun _ => True) w wr [rdA p (byteV bs), ownB g 0 m]) (fun u _ => n + 3 - (intOf u).toNat)
  case atStart => exact ⟨n, bs ++ [0, 0, 0], rfl, Nat.le_refl _, by omega, by rw [List.length_append, HN.out]; rfl, by rw [List.take_append_of_le_length (by rw [HN.out]; omega), List.take_of_length_le (by rw [HN.out]; omega), Nat.sub_self]; simp, H⟩
  case round =>
    clear H
    obtain ⟨i, m, rfl, hi1, hi2, hm, hmt, H⟩ := hrel
    have hi0 : 0 ≤ (i : Int) := by omega
    have hi9 : (i : Int) ≤ 1099511627779 := by omega
    have HM := Lib.hid hm
    have HT := Lib.hid hmt
    clear hm hmt
    rcases Nat.lt_or_ge i (n + 3) with hlt | hge
    · have hii : (i : Int) < (n : Int) + 3 := by omega
      have HI := Lib.hid hlt
      have HI1 := Lib.hid hi1
      clear hlt hi1 hi2
      go_wp2_with (first
        | (refine wpList_storeB H 1 rfl 5 _ _ rfl g 0 i m (by rw [Nat.zero_add]; rfl) 229 rfl rfl size_u8 (by rw [HM.out]; exact HI.out) ?_; clear H; intro W H))
      go_roundw
      case rel =>
        refine ⟨i + 1, m.set i 229, congrArg _ (by omega), by have := HI1.out; omega, by have := HI.out; omega, by rw [List.length_set]; exact HM.out, ?_, H⟩
        have h1 := HI.out
        have h2 := HM.out
        have h3 := HI1.out
        rw [List.take_succ_eq_append_getElem (by rw [List.length_set]; omega), List.getElem_set_self, List.take_set_of_le (Nat.le_refl _), HT.out, show i + 1 - n = (i - n) + 1 by omega, List.replicate_succ']
        simp
      case measure => have := HI.out; simp [intOf]; omega
    · obtain rfl : i = n + 3 := by omega
      have hii : ¬ (((n + 3 : Nat) : Int) < (n : Int) + 3) := by omega
      have h5 : m = bs ++ e5B := by
        have h1 := HT.out
        rw [List.take_of_length_le (by rw [HM.out]; omega), Nat.add_sub_cancel_left] at h1
        exact h1
      subst h5
      clear hi1 hi2 hge
      go_wp2
      go_ret
      exact ⟨g, rfl, H.at 1 rfl, (H.mine 1 _ rfl g rfl).resolve_right id, H.fix.below⟩

set_option maxHeartbeats 4000000 in
theorem Spoil_st {M0 R0 : Nat → Prop} {w0 W : World} {L : List Asrt} (H : St M0 R0 w0 W L) (i : Nat) {g n : Nat} {m : List UInt8} (hi : L[i]? = some (ownB g 0 m)) (hm : m.length = n + 3) (hl : n ≤ 1099511627776) :
    Calls Tryz.prog 36 #[.slice (some ⟨g, 0, none⟩) n (n + 3)] W fun e W' => e = .returned (.tuple #[]) ∧ ∃ m', m'.length = n + 3 ∧ St M0 R0 w0 W' (L.set i (ownB g 0 m')) := by
  have hn0 : 0 ≤ (n : Int) := by omega
  have hn9 : (n : Int) ≤ 1099511627776 := by omega
  have HI := Lib.hid hi
  have HM := Lib.hid hm
  have HIL := Lib.hid (List.getElem?_eq_some_iff.1 hi).1
  have HSET := Lib.hid (show L = L.set i (ownB g 0 m) from by
    have h1 := (List.getElem?_eq_some_iff.1 hi).2
    rw [← h1, List.set_getElem_self])
  clear hi hm hl
  rw [HSET.out] at H
  clear HSET
  have k1 : (n : Int) ≤ (n : Int) + 3 := by omega
  have k2 : n ≤ n + 3 := by omega
  go_enter Tryz.func36, Tryz.ntmps36
  go_upto_region 2 with fail
  go_loopw [3] (fun u wr => ∃ (j : Nat) (m : List UInt8), u = .int .i64 (j : Int) ∧ j ≤ n + 3 ∧ m.length = n + 3 ∧ St M0 R0 w0 wr (L.set i (ownB g 0 m))) (fun u _ => n + 3 - (intOf u).toNat)
  case atStart => exact ⟨0, m, rfl, Nat.zero_le _, HM.out, H⟩
  case round =>
    clear H HI HM
    obtain ⟨j, m2, rfl, hj, hm, H⟩ := hrel
    have hj0 : 0 ≤ (j : Int) := by omega
    have hj9 : (j : Int) ≤ 1099511627779 := by omega
    have HM := Lib.hid hm
    clear hm
    rcases Nat.lt_or_ge j (n + 3) with hlt | hge
    · have hii : (j : Int) < (n : Int) + 3 := by omega
      have HJ := Lib.hid hlt
      clear hlt hj
      go_wp2_with (first
        | (refine wpList_storeB H i rfl 5 _ _ rfl g 0 j m2 (by rw [Nat.zero_add]; rfl) 90 rfl (List.getElem?_set_self HIL.out) size_u8 (by rw [HM.out]; exact HJ.out) ?_; clear H; intro W H; rw [List.set_set] at H))
      go_roundw
      case rel => exact ⟨j + 1, m2.set j 90, congrArg _ (by omega), HJ.out, by rw [List.length_set]; exact HM.out, H⟩
      case measure => have := HJ.out; simp [intOf]; omega
    · obtain rfl : j = n + 3 := by omega
      have hii : ¬ (((n + 3 : Nat) : Int) < (n : Int) + 3) := by omega
      clear hj hge
      go_wp2
      exact bodyPost_end (v := .tuple #[]) (results_none rfl) rfl ⟨rfl, m2, HM.out, H⟩

set_option maxHeartbeats 4000000 in
theorem Kept_calls {w : World} {g gb n : Nat} {bs : List UInt8} (ha : BytesAt w g 0 (bs ++ e5B)) (hb : BytesAt w gb 0 bs) (hn : bs.length = n) (hl : n ≤ 1099511627776) :
    Calls Tryz.prog 35 #[.slice (some ⟨g, 0, none⟩) n (n + 3), .slice (some ⟨gb, 0, none⟩) n n] w fun e w' => e = .returned (.bool true) ∧ w = w' := by
  have hn0 : 0 ≤ (n : Int) := by omega
  have hn9 : (n : Int) ≤ 1099511627776 := by omega
  have HA := Lib.hid ha
  have HB := Lib.hid hb
  have HN := Lib.hid hn
  have HP := Lib.hid (show BytesAt w g 0 bs by have := ha.take n; rwa [← hn, List.take_left'] at this; rfl)
  clear ha hb hn hl
  have k1 : (n : Int) ≤ (n : Int) + 3 := by omega
  have k2 : n ≤ n + 3 := by omega
  have k3 : ¬ ((n : Int) + 3 < (n : Int) + 3) := by omega
  go_enter Tryz.func35, Tryz.ntmps35
  go_upto_region 5 with (first
    | (refine wpList_bytes_str rfl 22 9 _ rfl _ _ _ _ rfl 5 Tryz.underlying22 Tryz.underlying5 Tryz.underlying9 bs HP.out HN.out.symm ?_)
    | (refine wpList_bytes_str rfl 22 9 _ rfl _ _ _ _ rfl 5 Tryz.underlying22 Tryz.underlying5 Tryz.underlying9 bs HB.out HN.out.symm ?_))
  go_loopw [6] (fun u wr => ∃ i : Nat, u = .int .i64 (i : Int) ∧ n ≤ i ∧ i ≤ n + 3 ∧ w = wr) (fun u _ => n + 3 - (intOf u).toNat)
  case atStart => exact ⟨n, rfl, Nat.le_refl _, by omega, rfl⟩
  case round =>
    obtain ⟨i, rfl, hi1, hi2, rfl⟩ := hrel
    have hi0 : 0 ≤ (i : Int) := by omega
    have hi9 : (i : Int) ≤ 1099511627779 := by omega
    rcases Nat.lt_or_ge i (n + 3) with hlt | hge
    · have hii : (i : Int) < (n : Int) + 3 := by omega
      have hcell := HA.out.cellv (i := i) (b := 229) (by
        have := HN.out
        rw [List.getElem?_append_right (by omega), e5B, List.getElem?_replicate, if_pos (by omega)])
      rw [show (((229 : UInt8).toNat : Nat) : Int) = 229 from rfl, Nat.zero_add] at hcell
      have HI := Lib.hid (show n ≤ i + 1 ∧ i + 1 ≤ n + 3 by omega)
      clear hlt hi1 hi2
      go_wp2
      go_roundw
      case rel => exact ⟨i + 1, congrArg _ (by omega), HI.out.1, HI.out.2, by trivial⟩
      case measure => have := HI.out; simp [intOf]; omega
    · obtain rfl : i = n + 3 := by omega
      have hii : ¬ (((n + 3 : Nat) : Int) < (n : Int) + 3) := by omega
      clear hi1 hi2 hge
      go_wp2
      go_ret
      exact ⟨rfl, rfl⟩

theorem Put_long {w : World} {s : TX} {pb : Option Addr} {cb n : Nat} {bs : List UInt8} (hg : errA.prop w) (hn : bs.length = n) (hl : 9680 < n) (hl2 : n ≤ 1099511627776) :
    Calls Tryz.prog 34 #[.pointer (some ⟨s.g, 0, none⟩), .slice pb n cb] w fun e w' => e = .returned (.tuple #[.int .u32 0, .int .i64 4]) ∧ Below w.heap.size w w' := by
  subst hn
  have HP := Lib.hid (puts_long (w := w) (s := s) (B := errA) (pb := pb) (cb := cb) hl hl2)
  have H := St.err hg
  clear hg hl hl2
  go_enter Tryz.func34, Tryz.ntmps34
  go_wp2_with (first
    | (go_at_call 77; go_loud ((refine HP.out.mono ?_); rintro e W ⟨ge, rfl, hge, hbl⟩; replace H := H.stay (Fix.of_below hbl _); clear hbl; unfold partVC))
    | (go_at_call 74; go_loud ((refine (code_errC ge 4 _ (H.at 0 rfl) hge).mono ?_); rintro e W2 ⟨rfl, hbl⟩; replace H := H.stay (Fix.of_below hbl _); clear hbl)))
  refine bodyPost_ret (results_tmp2 rfl _ _ _) rfl ?_
  exact ⟨rfl, H.fix.below⟩

end Go.Proofs.YtlgciddnpinpbaaGreatDoor

namespace Go.Proofs.YtlgciddnpinpbaaGreatDoor
open Go.RowKit
set_option linter.unusedSimpArgs false
set_option linter.unusedVariables false
set_option maxRecDepth 40000

/-- Rows of bytes that are not written any more. -/
def rowsP (rs : List (Nat × List UInt8)) : Asrt where
  own _ := False
  rd k := ∃ r ∈ rs, r.1 = k
  prop W := ∀ r ∈ rs, r.1 < W.heap.size ∧ BytesAt W r.1 0 r.2
  stable W W' h hp := fun r hm => ⟨by
      have h1 := h r.1 (.inr ⟨r, hm, rfl⟩)
      rw [Array.getElem?_eq_getElem (hp r hm).1] at h1
      exact (Array.getElem?_eq_some_iff.1 h1).1, fun i hi => by
        have e : W'.cell? ⟨r.1, 0 + i, none⟩ = W.cell? ⟨r.1, 0 + i, none⟩ := World.cell?_of_block (w := W) (a := ⟨r.1, 0 + i, none⟩) (h r.1 (.inr ⟨r, hm, rfl⟩))
        exact e.trans ((hp r hm).2 i hi)⟩
  bound W hp k hk := by
    rcases hk with h | ⟨r, hm, rfl⟩
    · exact h.elim
    · exact (hp r hm).1

def slV (rs : List (Nat × List UInt8)) : List Value := rs.map fun r => Value.slice (some ⟨r.1, 0, none⟩) r.2.length r.2.length
def u32V (fs : List Nat) : List Value := fs.map fun (f : Nat) => Value.int .u32 (f : Int)

theorem rowsP_nil (W : World) : (rowsP []).prop W := fun r hr => (List.not_mem_nil hr).elim
theorem rowsP_more {rs : List (Nat × List UInt8)} {W : World} {g : Nat} {l : List UInt8} (hA : (rowsP rs).prop W) (hB : (ownB g 0 l).prop W) : (rowsP (rs ++ [(g, l)])).prop W := fun r hr => by
  rcases List.mem_append.1 hr with h | h
  · exact hA r h
  · obtain rfl := List.mem_singleton.1 h
    exact ⟨ownB_lt hB, ownB_bytes hB⟩
theorem rowsP_rd {rs : List (Nat × List UInt8)} {g : Nat} {l : List UInt8} (k : Nat) (h : (rowsP (rs ++ [(g, l)])).rd k) : ((rowsP rs).own k ∨ (rowsP rs).rd k) ∨ ((ownB g 0 l).own k ∨ (ownB g 0 l).rd k) := by
  obtain ⟨r, hr, rfl⟩ := h
  rcases List.mem_append.1 hr with h | h
  · exact .inl (.inr ⟨r, h, rfl⟩)
  · obtain rfl := List.mem_singleton.1 h
    exact .inr (.inl rfl)
theorem slV_more (rs : List (Nat × List UInt8)) (g n : Nat) (l : List UInt8) (h : l.length = n) : slV rs ++ [Value.slice (some ⟨g, 0, none⟩) n n] = slV (rs ++ [(g, l)]) := by
  subst h; simp [slV]
theorem u32V_more (fs : List Nat) (f : Nat) : u32V fs ++ [Value.int .u32 (f : Int)] = u32V (fs ++ [f]) := by simp [u32V]

theorem info_u32 : (Tryz.prog.info? 48).map (fun i => (i.zero, i.size, i.bytes)) = some (some (.int .u32 0), 1, 4) := by kernel_rfl
theorem size_u32 : (Tryz.prog.info? 48).map (·.size) = some 1 := by kernel_rfl
theorem zero_u32 : (Tryz.prog.info? 48).bind (·.zero) = some (.int .u32 0) := by kernel_rfl
theorem fill_u32 (n : Int) : Instr.fill (fun i => some (i * 1, 1)) ((Array.range (1 * 1)).map ((Value.int .u32 0).cells[· % (Value.int .u32 0).cells.size]!)) [(0, .int .u32 n)] = some #[.int .u32 n] := by kernel_rfl
theorem fill_rowZ (p : Option Addr) (n c : Nat) : Instr.fill (fun i => some (i * 1, 1)) ((Array.range (1 * 1)).map ((Value.slice none 0 0).cells[· % (Value.slice none 0 0).cells.size]!)) [(0, .slice p n c)] = some #[.slice p n c] := by kernel_rfl

theorem rdA_front {W : World} {g : Nat} {xs junk : List Value} {t : TypeId} {fr : Nat × Nat} (h : W.heap[g]? = some (.cells (xs ++ junk).toArray t fr)) : (rdA (some ⟨g, 0, none⟩) xs).prop W :=
  .inr ⟨g, 0, rfl, (Array.getElem?_eq_some_iff.1 h).1, fun i x hi => by
    rw [Nat.zero_add]
    exact row_cell h (by
      have hlt := (List.getElem?_eq_some_iff.1 hi).1
      simp only [List.getElem?_toArray]
      rw [List.getElem?_append_left hlt]; exact hi)⟩

theorem rdA_pre {W : World} {p : Option Addr} {xs ys : List Value} (h : (rdA p (xs ++ ys)).prop W) : (rdA p xs).prop W := by
  rcases h with h | ⟨g, off, e, hg, h⟩
  · exact .inl (List.append_eq_nil_iff.1 h).1
  · refine .inr ⟨g, off, e, hg, fun i x hi => h i x ?_⟩
    rw [List.getElem?_append_left (List.getElem?_eq_some_iff.1 hi).1]; exact hi

theorem twin_rd {W : World} {g : Nat} {bs : List UInt8} (h : (ownB g 0 (bs ++ e5B)).prop W) : (rdA (some ⟨g, 0, none⟩) (byteV bs)).prop W :=
  rdA_pre (ys := byteV e5B) (by have := ownB_rd h; rwa [show byteV (bs ++ e5B) = byteV bs ++ byteV e5B by simp [byteV]] at this)

/-- A row of bytes of ours: nil, or at the head of a block. -/
theorem ownS_bytes {W : World} {e : TypeId} {p : Option Addr} {n cap : Nat} {l : List UInt8} (h : (ownS e 1 p n cap (byteV l)).prop W) : (p = none ∧ l = []) ∨ ∃ g, p = some ⟨g, 0, none⟩ ∧ BytesAt W g 0 l := by
  have hr := ownS_rd h
  rcases h.2 with ⟨e1, h0⟩ | ⟨g, cap', cur, e1, hb, hg, h3, h4⟩
  · cases e1
    have := h.1
    rw [h0] at this
    simp [byteV] at this
    exact .inl ⟨rfl, this⟩
  · cases e1
    refine .inr ⟨g, rfl, fun i hi => ?_⟩
    rcases hr with h0 | ⟨g2, off, e2, _, hat⟩
    · have := congrArg List.length h0
      simp [byteV] at this
      subst this; simp at hi
    · cases e2
      exact hat i _ (by rw [byteV_get, List.getElem?_eq_getElem hi]; rfl)

section
variable {P : Program} {ops : Array Oper} {o : Oper} {a : Act} {S : World → Prop}
/-- string(b) of a row of ours yields. -/
theorem yieldsIf_str_own (hw : Region.wanted o (yielded ops a.tmps) = true) (src dst : TypeId) (x : Operand) (ho : o.op = .convert src dst x) (p : Option Addr) (n cap : Nat) (hx : a.eval x = .slice p n cap)
    (e : TypeId) (hs : P.underlying src = some (.slice e)) (he : P.underlying e = some (.int .u8)) (hd : P.underlying dst = some .string) (l : List UInt8) (hn : n = l.length) (hc : p = none → cap = 0) (hS : ∀ w, S w → (p = none ∧ l = []) ∨ ∃ g, p = some ⟨g, 0, none⟩ ∧ BytesAt w g 0 l) :
    YieldsIf P ops S o (.string ⟨l.toArray⟩) a := by
  refine Or.inl ⟨hw, fun w h => ?_⟩
  rcases hS w h with ⟨rfl, rfl⟩ | ⟨g, rfl, hb⟩
  · have hn0 : n = 0 := by rw [hn]; rfl
    subst hn0
    rw [hc rfl] at hx
    have hrun := run_convert_bytes_nil (P := P) (w := w) src e hs he 0 0 dst hd
    unfold execOp
    simp only [ho, hx, Sem.run_bind, hrun, Result.andThen_ok, Sem.run_pure]
    rfl
  · have hrun := run_bytes_str (P := P) w src dst e hs he hd g 0 cap l hb n hn
    unfold execOp
    simp only [ho, hx, Sem.run_bind, hrun, Result.andThen_ok, Sem.run_pure]
end

theorem ownS_none {W : World} {e : TypeId} {s : Nat} {p : Option Addr} {n cap : Nat} {xs : List Value} (h : (ownS e s p n cap xs).prop W) (hp : p = none) : cap = 0 := by
  rcases h.2 with ⟨e1, h0⟩ | ⟨g, cap', cur, e1, _⟩
  · cases e1; rfl
  · cases e1; cases hp

theorem rd_take {W : World} {g o : Nat} {xs : List Value} (h : (rdA (some ⟨g, o, none⟩) xs).prop W) (m : Nat) : ∀ j u, (xs.take m)[j]? = some u → W.cell? ((⟨g, o, none⟩ : Addr).add j) = some u := fun j u hu => by
  rw [Addr.add_lit]
  refine rdA_cell h ?_
  rw [List.getElem?_take] at hu
  split at hu
  · exact hu
  · cases hu

theorem rd_drop {W : World} {g o q : Nat} {xs : List Value} (h : (rdA (some ⟨g, o, none⟩) xs).prop W) (d : Nat) (hq : d < xs.length → q = o + d) : ∀ j u, (xs.drop d)[j]? = some u → W.cell? ((⟨g, q, none⟩ : Addr).add j) = some u := fun j u hu => by
  rw [List.getElem?_drop] at hu
  have hlt := (List.getElem?_eq_some_iff.1 hu).1
  rw [Addr.add_lit, hq (by omega), Nat.add_assoc]
  exact rdA_cell h hu

theorem take_front (A J : List Value) (m : Nat) (h : A.length = m) : (([] : List Value).take 0 ++ A ++ J).take (0 + m) = A := by subst h; simp

theorem St.blkRd {M0 R0 : Nat → Prop} {w0 W : World} {L : List Asrt} (H : St M0 R0 w0 W L) (i : Nat) {g : Nat} {t : TypeId} {xs junk : List Value} (hi : L[i]? = some (blk g (.cells (xs ++ junk).toArray t (0, 0)))) : St M0 R0 w0 W (L.set i (rdA (some ⟨g, 0, none⟩) xs)) :=
  H.recast i hi (fun h => rdA_front h) (fun k hk => hk.elim) (fun k hk => by obtain ⟨_, ad, e, hk⟩ := hk; cases e; exact .inl hk)

theorem St.rowsSub {M0 R0 : Nat → Prop} {w0 W : World} {L : List Asrt} (H : St M0 R0 w0 W L) (i : Nat) {rs rs' : List (Nat × List UInt8)} (hi : L[i]? = some (rowsP rs)) (h : ∀ r ∈ rs', r ∈ rs) : St M0 R0 w0 W (L.set i (rowsP rs')) :=
  H.recast i hi (fun hp r hr => hp r (h r hr)) (fun k hk => hk.elim) (fun k hk => by obtain ⟨r, hr, e⟩ := hk; exact .inr ⟨r, h r hr, e⟩)

theorem u32V_one (fs : List Nat) : ∀ u ∈ u32V fs, u.oneCell' = true := fun u hu => by
  obtain ⟨f, _, rfl⟩ := List.mem_map.1 hu; rfl
theorem slV_one (rs : List (Nat × List UInt8)) : ∀ u ∈ slV rs, u.oneCell' = true := fun u hu => by
  obtain ⟨f, _, rfl⟩ := List.mem_map.1 hu; rfl

end Go.Proofs.YtlgciddnpinpbaaGreatDoor

namespace Go.Proofs.YtlgciddnpinpbaaGreatDoor
open Go.RowKit
set_option linter.unusedSimpArgs false
set_option linter.unusedVariables false
set_option maxRecDepth 40000

set_option maxRecDepth 100000 in
set_option maxHeartbeats 16000000 in
theorem chainKeeps_short (w : World) (pz : Option Addr) (zs : List Int) (cz : Nat) (pd : Option Addr) (ds : List UInt8) (cd : Nat) (x : UInt8) (h1 : zs.length ≤ 8) (h2 : ds.length ≤ 20) (hz : ∀ z ∈ zs, 0 ≤ z ∧ z ≤ 65535) (hg : errA.prop w) (ha : (rdA pz (zs.map (Value.int .u16))).prop w) (hb : (rdA pd (byteV ds)).prop w) :
    Calls Tryz.prog 6 #[.slice pz zs.length cz, .slice pd ds.length cd, .int .u8 (x.toNat : Int)] w fun e w' => e = .returned (.bool true) ∧ Below w.heap.size w w' := by
  have H := St.reads_only (w := w) [errA, rdA pz (zs.map (Value.int .u16)), rdA pd (byteV ds)] (by
    intro B hB
    simp only [List.mem_cons, List.not_mem_nil, or_false] at hB
    rcases hB with rfl | rfl | rfl
    · exact ⟨hg, fun _ h => h⟩
    · exact ⟨ha, fun _ h => h⟩
    · exact ⟨hb, fun _ h => h⟩)
  have hl1 : (zs.length : Int) ≤ 8 := by omega
  have hl2 : (ds.length : Int) ≤ 20 := by omega
  have hl3 : ¬ (8 < (zs.length : Int)) := by omega
  have hl4 : ¬ (20 < (ds.length : Int)) := by omega
  have hxb : (x.toNat : Int) < 256 := by have := x.toNat_lt; omega
  have hxb0 : 0 ≤ (x.toNat : Int) := by omega
  have HL1 := Lib.hid h1
  have HL2 := Lib.hid h2
  have HZ := Lib.hid hz
  clear hg ha hb h1 h2 hz
  go_enter Tryz.func6, Tryz.ntmps6
  go_upto_region 10 with (first
    | (go_at_call 28; go_loud ((refine (begun22_calls _ (H.at 0 rfl)).mono ?_); rintro e W ⟨rfl, hb⟩; replace H := H.stay (Fix.of_below hb _); clear hb))
    | (go_at_call 29; go_loud ((refine (new21_calls H _ 420 394 rfl rfl (by omega) (by omega)).mono ?_); clear H; rintro e W ⟨s, rfl, hnew, H⟩; have HS := Lib.hid hnew; have HK := Lib.hid (Keeps.nil hnew); clear hnew))
    | (go_at_call 32; go_loud ((refine (Left_ok (s := s) (H.take 7).bundle HS.out.ok).mono ?_); rintro e W ⟨rfl, hto⟩; replace H := hto.front (R := [errA, rdA pz (zs.map (Value.int .u16)), rdA pd (byteV ds)]) H; clear hto; rw [HS.out.v1, HS.out.cnt, leftOf_new 394 (by omega), show (((394 - 2 : Nat)) : Int) = 392 from rfl])))
  replace H := H.add (Fix.refl _ _) (rowsP []) (rowsP_nil _) (fun k hk => hk.elim) (fun k hk => by obtain ⟨p, hp, _⟩ := hk; exact (List.not_mem_nil hp).elim)
  replace H := (H.addNil 48 1).addNil 22 1
  obtain ⟨G, hG⟩ : ∃ G, s.g = G := ⟨_, rfl⟩
  have HG := Lib.hid hG
  rw [hG]
  clear hG
  go_loopw [10, 11, 12] (fun av hv u wr => ∃ (i n : Nat) (s : TX) (cs : List (List Nat × List UInt8)) (rs : List (Nat × List UInt8)) (pa : Option Addr) (ca : Nat) (ph : Option Addr) (ch : Nat), av = .slice pa n ca ∧ hv = .slice ph n ch ∧ u = .int .i64 (i : Int) ∧ i ≤ zs.length ∧ s.g = G ∧ Keeps s cs ∧ cs.length = n ∧ rs.map (·.2) = cs.map (·.2) ∧ n ≤ i ∧
    St NoBlk (fun _ => True) w wr (s.L ++ [errA, rdA pz (zs.map (Value.int .u16)), rdA pd (byteV ds), rowsP rs, ownS 48 1 pa n ca (u32V (cs.map fun c => c.1.getD 0 0)), ownS 22 1 ph n ch (slV rs)])) (fun _ _ u _ => zs.length - (intOf u).toNat)
  case atStart => exact ⟨0, 0, s, [], [], none, 0, none, 0, rfl, rfl, rfl, Nat.zero_le _, HG.out, HK.out, rfl, rfl, Nat.zero_le _, H⟩
  case round =>
    clear H HG HS HK
    obtain ⟨i, n, s, cs, rs, pa, ca, ph, ch, rfl, rfl, rfl, hi, hg, hk, hcn, hrc, hni, H⟩ := hrel
    have hi0 : 0 ≤ (i : Int) := by omega
    have hi8 : (i : Int) ≤ 8 := by have := HL1.out; omega
    have HK := Lib.hid hk
    have HO := Lib.hid hk.ok
    have HN := Lib.hid hk.cnt
    have HG := Lib.hid hg
    have HCN := Lib.hid hcn
    have HRC := Lib.hid hrc
    have HNI := Lib.hid hni
    clear hk hg hcn hrc hni
    rcases Nat.lt_or_ge i zs.length with hlt | hge
    · have hii : (i : Int) < (zs.length : Int) := by omega
      have HI := Lib.hid hlt
      have HI8 := Lib.hid (show i < 8 by have := HL1.out; omega)
      obtain ⟨z, hzi⟩ : ∃ z, zs[i]? = some z := ⟨_, List.getElem?_eq_getElem hlt⟩
      obtain ⟨ga, oa, hpa, hcell⟩ : ∃ ga oa, pz = some ⟨ga, oa, none⟩ ∧ wr.cell? ⟨ga, oa + i, none⟩ = some (.int .u16 z) := by
        have hv : (zs.map (Value.int .u16))[i]? = some (.int .u16 z) := by rw [List.getElem?_map, hzi]; rfl
        obtain ⟨ga, oa, e, _⟩ := rdA_at (H.at 8 rfl) hv
        subst e
        exact ⟨ga, oa, rfl, rdA_cell (H.at 8 rfl) hv⟩
      subst hpa
      have hzb := HZ.out z (List.mem_of_getElem? hzi)
      obtain ⟨q, hq, hq2⟩ : ∃ q : Nat, z.tmod 10000 = (q : Int) ∧ q < 10000 := ⟨(z % 10000).toNat, by rw [Int.tmod_eq_emod_of_nonneg (by omega)]; omega, by omega⟩
      have hz0 : 0 ≤ z := hzb.1
      have hz9 : z ≤ 65535 := hzb.2
      have hqi : (q : Int) < 10000 := by omega
      have hq0 : 0 ≤ (q : Int) := by omega
      have HQ := Lib.hid hq2
      clear hzi hzb hq2 hlt hi
      go_upto_region 14 with (first
        | (refine wpList_make2_st H rfl 22 _ _ rfl _ Tryz.underlying22 _ _ info_u8 rfl q q rfl rfl (by omega) (by have := HQ.out; omega) (by have := HQ.out; simp only [maxLen]; omega) ?_; clear H hcell; intro W gz H))
      clear hz0 hz9 hq
      rw [show List.replicate q (Value.int .u8 0) = byteV (List.replicate q 0) ++ [] by simp [byteV]] at H
      replace H := H.recast 13 (A' := ownB gz 0 (List.replicate q 0)) rfl (fun h => ownB_of_row h) (fun k hk => hk) (fun k hk => hk.elim)
      replace H : St NoBlk (fun _ => True) w W (s.L ++ [errA, rdA (some ⟨ga, oa, none⟩) (zs.map (Value.int .u16)), rdA pd (byteV ds), rowsP rs, ownS 48 1 pa n ca (u32V (cs.map fun c => c.1.getD 0 0)), ownS 22 1 ph n ch (slV rs), ownB gz 0 (List.replicate q 0)]) := H
      go_loopw [14] (fun u wr => ∃ (k : Nat) (bs : List UInt8), u = .int .i64 (k : Int) ∧ k ≤ q ∧ bs.length = q ∧ St NoBlk (fun _ => True) w wr (s.L ++ [errA, rdA (some ⟨ga, oa, none⟩) (zs.map (Value.int .u16)), rdA pd (byteV ds), rowsP rs, ownS 48 1 pa n ca (u32V (cs.map fun c => c.1.getD 0 0)), ownS 22 1 ph n ch (slV rs), ownB gz 0 bs])) (fun u _ => q - (intOf u).toNat)
      case atStart => exact ⟨0, List.replicate q 0, rfl, Nat.zero_le _, List.length_replicate, H⟩
      case round =>
        clear H
        obtain ⟨k, bs, rfl, hk, hbl, H⟩ := hrel
        have HBL := Lib.hid hbl
        clear hbl
        have hk0 : 0 ≤ (k : Int) := by omega
        rcases Nat.lt_or_ge k q with hlt | hge
        · have hkk : (k : Int) < (q : Int) := by omega
          have HKQ := Lib.hid hlt
          obtain ⟨u, hu⟩ : ∃ u : UInt8, (u.toNat : Int) = IntKind.u8.wrap ((x.toNat : Int) + IntKind.u8.wrap ((k : Int) * 7 + (i : Int))) := ⟨UInt8.ofNat (IntKind.u8.wrap ((x.toNat : Int) + IntKind.u8.wrap ((k : Int) * 7 + (i : Int)))).toNat, by rw [IntKind.wrap_u8, UInt8.toNat_ofNat']; omega⟩
          have HU := Lib.hid hu
          clear hu hk hlt
          go_wp2_with (first
            | (refine wpList_storeB H 13 rfl 5 _ _ rfl gz 0 k bs (by rw [Nat.zero_add]; rfl) u (by rw [HU.out]; rfl) rfl size_u8 (by rw [HBL.out]; exact HKQ.out) ?_; clear H; intro W H))
          go_roundw
          case rel => exact ⟨k + 1, bs.set k u, congrArg _ (by omega), HKQ.out, by rw [List.length_set]; exact HBL.out, H⟩
          case measure => have := HKQ.out; simp [intOf]; omega
        · obtain rfl : q = k := by omega
          have hkk : ¬ ((q : Int) < (q : Int)) := by omega
          clear hk hge
          go_upto_region 18 with (first
            | (go_at_call 33; go_loud ((refine (Twin_calls (ownB_rd (H.at 13 rfl)) HBL.out (by have := HQ.out; omega)).mono ?_); rintro e W ⟨gt, rfl, hown, hge, hbl⟩; replace H := H.add (Fix.of_below hbl _) (ownB gt 0 (bs ++ e5B)) hown (fun k hk => by rw [show k = gt from hk]; exact hge) (fun k hk => hk.elim); clear hown hge hbl)))
          replace H : St NoBlk (fun _ => True) w _ (s.L ++ [ownB gt 0 (bs ++ e5B)] ++ [errA, rdA (some ⟨ga, oa, none⟩) (zs.map (Value.int .u16)), rdA pd (byteV ds), rowsP rs, ownS 48 1 pa n ca (u32V (cs.map fun c => c.1.getD 0 0)), ownS 22 1 ph n ch (slV rs), ownB gz 0 bs]) := St.swap (A := s.L) (E := [errA, rdA (some ⟨ga, oa, none⟩) (zs.map (Value.int .u16)), rdA pd (byteV ds), rowsP rs, ownS 48 1 pa n ca (u32V (cs.map fun c => c.1.getD 0 0)), ownS 22 1 ph n ch (slV rs), ownB gz 0 bs]) (R := [ownB gt 0 (bs ++ e5B)]) H
          have hn0 : n ≤ 8 := by have := HNI.out; have := HI8.out; omega
          rcases Nat.lt_or_ge 9680 q with hlong | hshort
          · have hqq : (9680 : Int) < (q : Int) := by omega
            have HLG := Lib.hid hlong
            clear hlong
            go_wp2_with (first
              | (go_at_call 34; rw [← HG.out]; go_loud ((refine (Put_long (s := s) (bs := bs) (H.at 8 rfl) HBL.out HLG.out (by have := HQ.out; omega)).mono ?_); rintro e W ⟨rfl, hbl⟩; replace H := H.stay (Fix.of_below hbl _); clear hbl))
              | (go_at_call 35; go_loud ((refine (Kept_calls (ownB_bytes (H.at 7 rfl)) (ownB_bytes (H.at 14 rfl)) HBL.out (by have := HQ.out; omega)).mono ?_); rintro e W' ⟨rfl, rfl⟩))
              | (go_at_call 36; go_loud ((refine (Spoil_st H 7 rfl (by rw [List.length_append, HBL.out]; rfl) (by have := HQ.out; omega)).mono ?_); clear H; rintro e W ⟨rfl, mt, _, H⟩)))
            simp only [HG.out]
            go_roundw
            case rel =>
              replace H : St NoBlk (fun _ => True) w _ (s.L ++ [ownB gt 0 mt] ++ [errA, rdA (some ⟨ga, oa, none⟩) (zs.map (Value.int .u16)), rdA pd (byteV ds), rowsP rs, ownS 48 1 pa n ca (u32V (cs.map fun c => c.1.getD 0 0)), ownS 22 1 ph n ch (slV rs), ownB gz 0 bs]) := H
              exact ⟨i + 1, n, s, cs, rs, pa, ca, ph, ch, rfl, rfl, congrArg _ (by omega), HI.out, HG.out, HK.out, HCN.out, HRC.out, by have := HNI.out; omega, (St.swap (A := s.L) (E := [ownB gt 0 mt]) (R := [errA, rdA (some ⟨ga, oa, none⟩) (zs.map (Value.int .u16)), rdA pd (byteV ds), rowsP rs, ownS 48 1 pa n ca (u32V (cs.map fun c => c.1.getD 0 0)), ownS 22 1 ph n ch (slV rs), ownB gz 0 bs]) H).take 13⟩
            case measure => have := HI.out; simp [intOf]; omega
          · have hqq : ¬ ((9680 : Int) < (q : Int)) := by omega
            have HLG := Lib.hid hshort
            clear hshort
            go_upto_region 27 with (first
              | (go_at_call 34; rw [← HG.out]; go_loud ((refine (Put_ok (s := s) (B := ownB gt 0 (bs ++ e5B)) (bs := bs) (n := q) (H.take 9).bundle HO.out (fun W h => twin_rd h) HBL.out (by omega) HLG.out (HK.out.room (by have := HCN.out; have := HNI.out; have := HI8.out; omega) HLG.out)).mono ?_); rintro e W ⟨hs, hhs, rfl, s1, hs1, hto⟩; replace H := hto.front (R := [rdA (some ⟨ga, oa, none⟩) (zs.map (Value.int .u16)), rdA pd (byteV ds), rowsP rs, ownS 48 1 pa n ca (u32V (cs.map fun c => c.1.getD 0 0)), ownS 22 1 ph n ch (slV rs), ownB gz 0 bs]) H; clear hto; have HS1 := Lib.hid hs1; have HHS := Lib.hid hhs; clear hs1 hhs; obtain ⟨f, hf⟩ : ∃ f, hs.getD 0 0 = f := ⟨_, rfl⟩; rw [hf]; have HF := Lib.hid hf; clear hf))
              | (go_at_call 35; go_loud ((refine (Kept_calls (ownB_bytes (H.at 7 rfl)) (ownB_bytes (H.at 14 rfl)) HBL.out (by have := HQ.out; omega)).mono ?_); rintro e W' ⟨rfl, rfl⟩))
              | (go_at_call 36; go_loud ((refine (Spoil_st H 7 rfl (by rw [List.length_append, HBL.out]; rfl) (by have := HQ.out; omega)).mono ?_); clear H; rintro e W ⟨rfl, mt, _, H⟩)))
            have HG1 := Lib.hid (HS1.out.g.trans HG.out)
            have HK1 := Lib.hid (show Keeps s1 (cs ++ [(hs, bs)]) by
              have e1 := HBL.out
              have e2 := HS1.out
              have e3 := HHS.out
              have e4 := HLG.out
              rw [← e1] at e2 e3 e4
              exact HK.out.put (by have := HCN.out; have := HNI.out; have := HI8.out; omega) e4 e3 e2)
            clear HS1 HHS
            replace H : St NoBlk (fun _ => True) w _ (s1.L ++ [ownB gt 0 mt] ++ [errA, rdA (some ⟨ga, oa, none⟩) (zs.map (Value.int .u16)), rdA pd (byteV ds), rowsP rs, ownS 48 1 pa n ca (u32V (cs.map fun c => c.1.getD 0 0)), ownS 22 1 ph n ch (slV rs), ownB gz 0 bs]) := H
            replace H := St.swap (A := s1.L) (E := [ownB gt 0 mt]) (R := [errA, rdA (some ⟨ga, oa, none⟩) (zs.map (Value.int .u16)), rdA pd (byteV ds), rowsP rs, ownS 48 1 pa n ca (u32V (cs.map fun c => c.1.getD 0 0)), ownS 22 1 ph n ch (slV rs), ownB gz 0 bs]) H
            go_wp2_with (first
              | (refine wpList_buildslice_st H rfl 56 48 _ _ rfl Tryz.underlying56 _ size_u32 _ zero_u32 (by decide) (by decide) [(0, .int .u32 (f : Int))] (by simp [Act.eval]) _ (fill_u32 _) ?_; clear H; intro W gs H)
              | (refine wpList_buildslice_st H rfl 47 22 _ _ rfl Tryz.underlying47 _ size_row _ zero_row (by decide) (by decide) [(0, .slice (some ⟨gz, 0, none⟩) q q)] (by simp [Act.eval]) _ (fill_rowZ _ _ _) ?_; clear H; intro W gs2 H)
              | (at_builtin; refine wpList_append_ownS H 11 rfl _ _ 56 rfl _ Tryz.underlying56 _ 1 4 info_u32 rfl (by omega) pa n ca rfl _ rfl _ 1 _ rfl [.int .u32 (f : Int)] rfl (news_of_row (H.at 15 rfl)) (by simp [Value.oneCell']) (by omega) (by simp only [maxLen]; omega) (by omega) ?_; clear H; intro W gp capp H)
              | (at_builtin; refine wpList_append_ownS H 12 rfl _ _ 47 rfl _ Tryz.underlying47 _ 1 24 info_row rfl (by omega) ph n ch rfl _ rfl _ 1 _ rfl [.slice (some ⟨gz, 0, none⟩) q q] rfl (news_of_row (H.at 16 rfl)) (by simp [Value.oneCell']) (by omega) (by simp only [maxLen]; omega) (by omega) ?_; clear H; intro W gq capq H))
            simp only [HG.out]
            go_roundw
            case rel =>
              replace H : St NoBlk (fun _ => True) w _ (s1.L ++ [errA, rdA (some ⟨ga, oa, none⟩) (zs.map (Value.int .u16)), rdA pd (byteV ds), rowsP rs, ownS 48 1 (some ⟨gp, 0, none⟩) (n + 1) capp (u32V (cs.map fun c => c.1.getD 0 0) ++ [.int .u32 (f : Int)]), ownS 22 1 (some ⟨gq, 0, none⟩) (n + 1) capq (slV rs ++ [.slice (some ⟨gz, 0, none⟩) q q]), ownB gz 0 bs]) := H.take 14
              rw [slV_more rs gz q bs HBL.out, ← HF.out, show u32V (cs.map fun c => c.1.getD 0 0) ++ [.int .u32 ((hs.getD 0 0 : Nat) : Int)] = u32V ((cs ++ [(hs, bs)]).map fun c => c.1.getD 0 0) by simp [u32V]] at H
              exact ⟨i + 1, n + 1, s1, cs ++ [(hs, bs)], rs ++ [(gz, bs)], _, _, _, _, rfl, rfl, congrArg _ (by omega), HI.out, HG1.out, HK1.out, by rw [List.length_append, HCN.out]; rfl, by rw [List.map_append, List.map_append, HRC.out]; rfl, by have := HNI.out; omega, (H.join 13 10 (A' := rowsP (rs ++ [(gz, bs)])) rfl rfl (rowsP_more (H.at 10 rfl) (H.at 13 rfl)) (fun k hk => hk.elim) (fun k hk => rowsP_rd k hk)).take 13⟩
            case measure => have := HI.out; simp [intOf]; omega
    · obtain hie : i = zs.length := by omega
      subst hie
      have hii : ¬ ((zs.length : Int) < (zs.length : Int)) := by omega
      have HN8 := Lib.hid (show n ≤ 8 by have := HNI.out; have := HL1.out; omega)
      have HCA := Lib.hid (ownS_cap (H.at 11 rfl))
      have HCH := Lib.hid (ownS_cap (H.at 12 rfl))
      replace H : St NoBlk (fun _ => True) w wr (s.L ++ [errA, rdA pz (zs.map (Value.int .u16)), rdA pd (byteV ds), rowsP rs, rdA pa (u32V (cs.map fun c => c.1.getD 0 0)), rdA ph (slV rs)]) := (H.rdOf 11 rfl).rdOf 12 rfl
      clear hi hge
      go_upto_region 29 with fail
      go_loopw [10, 11, 18] (fun av hv u wr => ∃ (i n : Nat) (s : TX) (cs : List (List Nat × List UInt8)) (rs : List (Nat × List UInt8)) (pa : Option Addr) (ca : Nat) (ph : Option Addr) (ch : Nat), av = .slice pa n ca ∧ hv = .slice ph n ch ∧ u = .int .i64 (i : Int) ∧ i ≤ ds.length + 1 ∧ s.g = G ∧ Keeps s cs ∧ cs.length = n ∧ rs.map (·.2) = cs.map (·.2) ∧ n ≤ 8 ∧ n ≤ ca ∧ n ≤ ch ∧
        St NoBlk (fun _ => True) w wr (s.L ++ [errA, rdA pz (zs.map (Value.int .u16)), rdA pd (byteV ds), rowsP rs, rdA pa (u32V (cs.map fun c => c.1.getD 0 0)), rdA ph (slV rs)])) (fun _ _ u _ => ds.length + 1 - (intOf u).toNat)
      case atStart => exact ⟨0, n, s, cs, rs, pa, ca, ph, ch, rfl, rfl, rfl, Nat.zero_le _, HG.out, HK.out, HCN.out, HRC.out, HN8.out, HCA.out, HCH.out, H⟩
      case round =>
        clear H HG HK HO HN HCN HRC HNI HN8 HCA HCH hii
        obtain ⟨i, n, s, cs, rs, pa, ca, ph, ch, rfl, rfl, rfl, hi, hg, hk, hcn, hrc, hn8, hca, hch, H⟩ := hrel
        have hi0 : 0 ≤ (i : Int) := by omega
        have hi21 : (i : Int) ≤ 21 := by have := HL2.out; omega
        have hnn0 : 0 ≤ (n : Int) := by omega
        have hnn8 : (n : Int) ≤ 8 := by omega
        have HK := Lib.hid hk
        have HO := Lib.hid hk.ok
        have HN := Lib.hid hk.cnt
        have HG := Lib.hid hg
        have HCN := Lib.hid hcn
        have HRC := Lib.hid hrc
        have HN8 := Lib.hid hn8
        have HCA := Lib.hid hca
        have HCH := Lib.hid hch
        clear hk hg hcn hrc hn8 hca hch
        rcases Nat.lt_or_ge ds.length i with hgt | hle
        · have hii : ¬ ((i : Int) ≤ (ds.length : Int)) := by omega
          clear hi hgt
          go_wp2
          go_ret
          exact ⟨rfl, H.fix.below⟩
        · have hii : (i : Int) ≤ (ds.length : Int) := by omega
          have HI := Lib.hid hle
          clear hi hle
          go_upto_region 33 with fail
          go_loopw [19, 20] (fun nd u wr => ∃ k : Nat, u = .int .i64 (k : Int) ∧ k ≤ n ∧ nd = .int .i64 ((((cs.take k).map fun c => longC c.2.length).sum : Nat) : Int) ∧ St NoBlk (fun _ => True) w wr (s.L ++ [errA, rdA pz (zs.map (Value.int .u16)), rdA pd (byteV ds), rowsP rs, rdA pa (u32V (cs.map fun c => c.1.getD 0 0)), rdA ph (slV rs)])) (fun _ u _ => n - (intOf u).toNat)
          case atStart => exact ⟨0, rfl, Nat.zero_le _, rfl, H⟩
          case round =>
            clear H
            obtain ⟨k, rfl, hkn, rfl, H⟩ := hrel
            have hk0 : 0 ≤ (k : Int) := by omega
            obtain ⟨A, hA⟩ : ∃ A, ((cs.take k).map fun c => longC c.2.length).sum = A := ⟨_, rfl⟩
            have HA := Lib.hid hA
            rw [hA]
            have hA9 : A ≤ 392 := by have := longs_take cs k; have := HK.out.left; omega
            have hAi : (A : Int) ≤ 392 := by omega
            have hA0 : 0 ≤ (A : Int) := by omega
            clear hA hA9
            rcases Nat.lt_or_ge k n with hlt | hge
            · have hkk : (k : Int) < (n : Int) := by omega
              have HKN := Lib.hid hlt
              obtain ⟨c, hc⟩ : ∃ c, cs[k]? = some c := ⟨_, List.getElem?_eq_getElem (by rw [HCN.out]; exact hlt)⟩
              obtain ⟨r, hr, hrc⟩ : ∃ r, rs[k]? = some r ∧ r.2 = c.2 := by
                have e1 : (rs.map (·.2))[k]? = some c.2 := by rw [HRC.out, List.getElem?_map, hc]; rfl
                rw [List.getElem?_map] at e1
                cases hq : rs[k]? with
                | none => rw [hq] at e1; cases e1
                | some r => rw [hq] at e1; exact ⟨r, rfl, by simpa using e1⟩
              obtain ⟨hcs, hbs⟩ := c
              obtain ⟨gr, lr⟩ := r
              obtain rfl : lr = hbs := hrc
              have HC := Lib.hid hc
              have HR := Lib.hid hr
              have HM := Lib.hid (List.mem_of_getElem? hc)
              obtain ⟨f, hf⟩ : ∃ f, hcs.getD 0 0 = f := ⟨_, rfl⟩
              have HFF := Lib.hid (show 2 ≤ f ∧ f < s.n by have := HK.out.first HM.out; rwa [show (hcs, lr).1.getD 0 0 = f from hf] at this)
              have HW := Lib.hid (show walkC s.v s.n 40 f [] [] = some (hcs, lr) by have := (HK.out.one _ HM.out).2.2.2.2; rwa [show (hcs, lr).1.getD 0 0 = f from hf] at this)
              obtain ⟨g1, o1, hpa, hcell⟩ : ∃ g1 o1, pa = some ⟨g1, o1, none⟩ ∧ wr.cell? ⟨g1, o1 + k, none⟩ = some (.int .u32 (f : Int)) := by
                have hv : (u32V (cs.map fun c => c.1.getD 0 0))[k]? = some (.int .u32 (f : Int)) := by rw [u32V, List.getElem?_map, List.getElem?_map, hc, ← hf]; rfl
                obtain ⟨g1, o1, e, _⟩ := rdA_at (H.at 11 rfl) hv
                subst e
                exact ⟨g1, o1, rfl, rdA_cell (H.at 11 rfl) hv⟩
              subst hpa
              have hl9 : lr.length ≤ 9680 := (HK.out.one _ HM.out).2.1
              have hli : (lr.length : Int) ≤ 9680 := by omega
              have hli0 : 0 ≤ (lr.length : Int) := by omega
              clear hc hr hf hlt hkn
              go_upto_region 36 with (first
                | (go_at_call 31; rw [← HG.out]; go_loud ((refine (Get_ok (s := s) (H.take 7).bundle HO.out _ f rfl (by have := HFF.out.2; rw [HN.out] at this; omega) HFF.out.1 HFF.out.2 HW.out).mono ?_); clear hcell; rintro e W ⟨p3, c3, rfl, hto⟩; replace H := hto.front2 (R := [errA, rdA pz (zs.map (Value.int .u16)), rdA pd (byteV ds), rowsP rs, rdA (some ⟨g1, o1, none⟩) (u32V (cs.map fun c => c.1.getD 0 0)), rdA ph (slV rs)]) H; clear hto)))
              obtain ⟨g2, o2, hph, hcell⟩ : ∃ g2 o2, ph = some ⟨g2, o2, none⟩ ∧ W.cell? ⟨g2, o2 + k, none⟩ = some (.slice (some ⟨gr, 0, none⟩) lr.length lr.length) := by
                have hv : (slV rs)[k]? = some (.slice (some ⟨gr, 0, none⟩) lr.length lr.length) := by rw [slV, List.getElem?_map, HR.out]; rfl
                obtain ⟨g2, o2, e, _⟩ := rdA_at (H.at 12 rfl) hv
                subst e
                exact ⟨g2, o2, rfl, rdA_cell (H.at 12 rfl) hv⟩
              subst hph
              have hrow : BytesAt W gr 0 lr := ((H.at 10 rfl) (gr, lr) (List.mem_of_getElem? HR.out)).2
              have hown := ownS_bytes (H.at 13 rfl)
              have HNO := Lib.hid (ownS_none (H.at 13 rfl))
              replace H : St NoBlk (fun _ => True) w W (s.L ++ [errA, rdA pz (zs.map (Value.int .u16)), rdA pd (byteV ds), rowsP rs, rdA (some ⟨g1, o1, none⟩) (u32V (cs.map fun c => c.1.getD 0 0)), rdA (some ⟨g2, o2, none⟩) (slV rs)] ++ [ownS 5 1 p3 lr.length c3 (byteV lr)]) := H
              replace H := H.drew
              refine wp_region_held_drew (S := fun w' => w'.cell? ⟨g2, o2 + k, none⟩ = some (.slice (some ⟨gr, 0, none⟩) lr.length lr.length) ∧ BytesAt w' gr 0 lr ∧ ((p3 = none ∧ lr = []) ∨ ∃ g, p3 = some ⟨g, 0, none⟩ ∧ BytesAt w' g 0 lr)) (by kernel_rfl) ⟨hcell, hrow, hown⟩ (fun hHeld => ?_)
              clear hcell hrow hown
              (refine wpAnyH_take (i := 0) (v := ?_) rfl (by kernel_rfl) (by kernel_rfl) (by kernel_rfl) (fun _ _ _ h => h) (Or.inl ⟨by rfl, ?_⟩) (by assumption) ?_; rotate_left; focus (intro w hSw; (try dsimp only at hSw); go_simp; all_goals (with_reducible rfl))); (try simp only [Act.put, List.setIfInBounds_toArray, List.set_cons_zero, List.set_cons_succ, List.getElem_toArray, List.getElem_cons_succ, List.getElem_cons_zero])
              (refine wpAnyH_take (i := 1) (v := ?_) rfl (by kernel_rfl) (by kernel_rfl) (by kernel_rfl) (fun _ _ _ h => h) (Or.inl ⟨by rfl, ?_⟩) (by assumption) ?_; rotate_left; focus (intro w hSw; (try dsimp only at hSw); go_simp; all_goals (with_reducible rfl))); (try simp only [Act.put, List.setIfInBounds_toArray, List.set_cons_zero, List.set_cons_succ, List.getElem_toArray, List.getElem_cons_succ, List.getElem_cons_zero])
              (refine wpAnyH_take (i := 2) (v := ?_) rfl (by kernel_rfl) (by kernel_rfl) (by kernel_rfl) (fun _ _ _ h => h) (Or.inl ⟨by rfl, ?_⟩) (by assumption) ?_; rotate_left; focus (intro w hSw; (try dsimp only at hSw); go_simp; all_goals (with_reducible rfl))); (try simp only [Act.put, List.setIfInBounds_toArray, List.set_cons_zero, List.set_cons_succ, List.getElem_toArray, List.getElem_cons_succ, List.getElem_cons_zero])
              (refine wpAnyH_take (i := 3) (v := ?_) rfl (by kernel_rfl) (by kernel_rfl) (by kernel_rfl) (fun _ _ _ h => h) (Or.inl ⟨by rfl, ?_⟩) (by assumption) ?_; rotate_left; focus (intro w hSw; (try dsimp only at hSw); go_simp; all_goals (with_reducible rfl))); (try simp only [Act.put, List.setIfInBounds_toArray, List.set_cons_zero, List.set_cons_succ, List.getElem_toArray, List.getElem_cons_succ, List.getElem_cons_zero])
              (refine wpAnyH_take (i := 4) rfl (by kernel_rfl) (by kernel_rfl) (by kernel_rfl) (fun _ _ _ h => h) ((yieldsIf_str_own (by rfl) 22 9 _ rfl _ _ _ (by rfl) 5 Tryz.underlying22 Tryz.underlying5 Tryz.underlying9 lr rfl HNO.out (fun w h => h.2.2))) (by assumption) ?_); (try simp only [Act.put, List.setIfInBounds_toArray, List.set_cons_zero, List.set_cons_succ, List.getElem_toArray, List.getElem_cons_succ, List.getElem_cons_zero])
              (refine wpAnyH_take (i := 5) (v := ?_) rfl (by kernel_rfl) (by kernel_rfl) (by kernel_rfl) (fun _ _ _ h => h) (Or.inl ⟨by rfl, ?_⟩) (by assumption) ?_; rotate_left; focus (intro w hSw; (try dsimp only at hSw); go_simp; all_goals (with_reducible rfl))); (try simp only [Act.put, List.setIfInBounds_toArray, List.set_cons_zero, List.set_cons_succ, List.getElem_toArray, List.getElem_cons_succ, List.getElem_cons_zero])
              (refine wpAnyH_take (i := 6) (v := ?_) rfl (by kernel_rfl) (by kernel_rfl) (by kernel_rfl) (fun _ _ _ h => h) (Or.inl ⟨by rfl, ?_⟩) (by assumption) ?_; rotate_left; focus (intro w hSw; (try dsimp only at hSw); go_simp; all_goals (with_reducible rfl))); (try simp only [Act.put, List.setIfInBounds_toArray, List.set_cons_zero, List.set_cons_succ, List.getElem_toArray, List.getElem_cons_succ, List.getElem_cons_zero])
              (refine wpAnyH_take (i := 7) (v := ?_) rfl (by kernel_rfl) (by kernel_rfl) (by kernel_rfl) (fun _ _ _ h => h) (Or.inl ⟨by rfl, ?_⟩) (by assumption) ?_; rotate_left; focus (intro w hSw; (try dsimp only at hSw); go_simp; all_goals (with_reducible rfl))); (try simp only [Act.put, List.setIfInBounds_toArray, List.set_cons_zero, List.set_cons_succ, List.getElem_toArray, List.getElem_cons_succ, List.getElem_cons_zero])
              (refine wpAnyH_take (i := 8) rfl (by kernel_rfl) (by kernel_rfl) (by kernel_rfl) (fun _ _ _ h => h) ((yieldsIf_load1 (by rfl) 22 _ rfl _ _ (by rfl) _ Tryz.underlying22 rfl _ (fun w h => h.1))) (by assumption) ?_); (try simp only [Act.put, List.setIfInBounds_toArray, List.set_cons_zero, List.set_cons_succ, List.getElem_toArray, List.getElem_cons_succ, List.getElem_cons_zero])
              (refine wpAnyH_take (i := 9) rfl (by kernel_rfl) (by kernel_rfl) (by kernel_rfl) (fun _ _ _ h => h) ((yieldsIf_bytes_str (by rfl) 22 9 _ rfl _ _ _ _ (by rfl) 5 Tryz.underlying22 Tryz.underlying5 Tryz.underlying9 lr rfl (fun w h => h.2.1))) (by assumption) ?_); (try simp only [Act.put, List.setIfInBounds_toArray, List.set_cons_zero, List.set_cons_succ, List.getElem_toArray, List.getElem_cons_succ, List.getElem_cons_zero])
              (refine wpAnyH_take (i := 10) (v := ?_) rfl (by kernel_rfl) (by kernel_rfl) (by kernel_rfl) (fun _ _ _ h => h) (Or.inl ⟨by rfl, ?_⟩) (by assumption) ?_; rotate_left; focus (intro w hSw; (try dsimp only at hSw); go_simp; all_goals (with_reducible rfl))); (try simp only [Act.put, List.setIfInBounds_toArray, List.set_cons_zero, List.set_cons_succ, List.getElem_toArray, List.getElem_cons_succ, List.getElem_cons_zero])
              (refine wpAnyH_take (i := 11) (v := ?_) rfl (by kernel_rfl) (by kernel_rfl) (by kernel_rfl) (fun _ _ _ h => h) (Or.inl ⟨by rfl, ?_⟩) (by assumption) ?_; rotate_left; focus (intro w hSw; (try dsimp only at hSw); go_simp; all_goals (with_reducible rfl))); (try simp only [Act.put, List.setIfInBounds_toArray, List.set_cons_zero, List.set_cons_succ, List.getElem_toArray, List.getElem_cons_succ, List.getElem_cons_zero])
              (refine wpAnyH_done (by kernel_rfl) ?_ _)
              clear hHeld
              obtain ⟨B, hB⟩ : ∃ B, longC lr.length = B := ⟨_, rfl⟩
              have HB := Lib.hid hB
              have hB40 : (B : Int) ≤ 40 := by have := longC_le lr.length hl9; omega
              have hB0 : 0 ≤ (B : Int) := by omega
              clear hB
              go_wp2_with (first
                | (go_at_call 37; go_loud ((refine (refLong_calls _ lr.length (by omega) (by omega) (by omega) _).mono ?_); rintro e W' ⟨rfl, rfl⟩; rw [HB.out])))
              simp only [HG.out]
              go_roundw
              case rel =>
                refine ⟨k + 1, congrArg _ (by omega), HKN.out, ?_, H.take 13⟩
                rw [longs_succ cs k _ HC.out, HA.out, HB.out, Int.natCast_add]
              case measure => have := HKN.out; simp [intOf]; omega
            · obtain rfl : k = n := by omega
              have hkk : ¬ ((k : Int) < (k : Int)) := by omega
              clear hkn hge
              obtain ⟨lf, hlf⟩ : ∃ lf, leftOf (s.v 1) s.n = lf := ⟨_, rfl⟩
              have HLF := Lib.hid hlf
              have hsum : lf + A = 392 := by
                have h1 := HK.out.left
                have h2 := HA.out
                rw [List.take_of_length_le (by rw [HCN.out]; exact Nat.le_refl _)] at h2
                rw [hlf, h2] at h1; exact h1
              have hl0 : 0 ≤ (lf : Int) := by omega
              have hl9 : (lf : Int) ≤ 392 := by omega
              have hsub : (392 : Int) - (lf : Int) = (A : Int) := by omega
              clear hlf
              go_upto_region 42 with (first
                | (go_at_call 32; rw [← HG.out]; go_loud ((refine (Left_ok (s := s) (H.take 7).bundle HO.out).mono ?_); rintro e W ⟨rfl, hto⟩; replace H := hto.front (R := [errA, rdA pz (zs.map (Value.int .u16)), rdA pd (byteV ds), rowsP rs, rdA pa (u32V (cs.map fun c => c.1.getD 0 0)), rdA ph (slV rs)]) H; clear hto; rw [HLF.out])))
              clear hsub hsum
              have HKD := Lib.hid (show k = cs.length from HCN.out.symm)
              rcases (show ¬ (i < ds.length) ∨ (i < ds.length ∧ k = 0) ∨ (i < ds.length ∧ 0 < k) by omega) with h0 | ⟨hid, h0⟩ | ⟨hid, h0⟩
              · have hid : ¬ ((i : Int) < (ds.length : Int)) := by omega
                clear h0
                go_wp2
                simp only [HG.out]
                go_roundw
                case rel => exact ⟨i + 1, k, s, cs, rs, pa, ca, ph, ch, rfl, rfl, congrArg _ (by omega), by have := HI.out; omega, HG.out, HK.out, HCN.out, HRC.out, HN8.out, HCA.out, HCH.out, H⟩
                case measure => have := HI.out; simp [intOf]; omega
              · have hid2 : (i : Int) < (ds.length : Int) := by omega
                have hk1 : ¬ ((0 : Int) < (k : Int)) := by omega
                clear h0 hid
                go_wp2
                simp only [HG.out]
                go_roundw
                case rel => exact ⟨i + 1, k, s, cs, rs, pa, ca, ph, ch, rfl, rfl, congrArg _ (by omega), by have := HI.out; omega, HG.out, HK.out, HCN.out, HRC.out, HN8.out, HCA.out, HCH.out, H⟩
                case measure => have := HI.out; simp [intOf]; omega
              · have hid2 : (i : Int) < (ds.length : Int) := by omega
                have hk1 : (0 : Int) < (k : Int) := by omega
                have hkz : ¬ (k : Int) = 0 := by omega
                have HID := Lib.hid hid
                obtain ⟨d, hd⟩ : ∃ d, ds[i]? = some d := ⟨_, List.getElem?_eq_getElem hid⟩
                have hd0 : ((d.toNat : Nat) : Int) < 256 := by have := d.toNat_lt; omega
                obtain ⟨m, hm, hmk⟩ : ∃ m : Nat, ((d.toNat : Nat) : Int).tmod (k : Int) = (m : Int) ∧ m < k := ⟨d.toNat % k, by rw [Int.tmod_eq_emod_of_nonneg (by omega)]; exact (Int.natCast_emod _ _).symm, Nat.mod_lt _ h0⟩
                have hmi : (m : Int) < (k : Int) := by omega
                have hm0 : 0 ≤ (m : Int) := by omega
                obtain ⟨gd, od, hpd, hcell⟩ : ∃ gd od, pd = some ⟨gd, od, none⟩ ∧ W.cell? ⟨gd, od + i, none⟩ = some (.int .u8 (d.toNat : Int)) := by
                  have hv : (byteV ds)[i]? = some (.int .u8 (d.toNat : Int)) := by rw [byteV_get, hd]; rfl
                  obtain ⟨gd, od, e, _⟩ := rdA_at (H.at 9 rfl) hv
                  subst e
                  exact ⟨gd, od, rfl, rdA_cell (H.at 9 rfl) hv⟩
                subst hpd
                have HMK := Lib.hid hmk
                clear h0 hid hd hmk
                go_upto_region 44 with fail
                clear hcell hm
                obtain ⟨c, hc⟩ : ∃ c, cs[m]? = some c := ⟨_, List.getElem?_eq_getElem (by rw [HCN.out]; exact HMK.out)⟩
                have HC := Lib.hid hc
                have HM := Lib.hid (List.mem_of_getElem? hc)
                obtain ⟨f, hf⟩ : ∃ f, c.1.getD 0 0 = f := ⟨_, rfl⟩
                have HFF := Lib.hid (show 2 ≤ f ∧ f < s.n by have := HK.out.first HM.out; rwa [hf] at this)
                have HW := Lib.hid (show walkC s.v s.n 40 f [] [] = some (c.1, c.2) by have := (HK.out.one _ HM.out).2.2.2.2; rwa [hf] at this)
                obtain ⟨g1, o1, hpa, hcell⟩ : ∃ g1 o1, pa = some ⟨g1, o1, none⟩ ∧ W.cell? ⟨g1, o1 + m, none⟩ = some (.int .u32 (f : Int)) := by
                  have hv : (u32V (cs.map fun c => c.1.getD 0 0))[m]? = some (.int .u32 (f : Int)) := by rw [u32V, List.getElem?_map, List.getElem?_map, hc, ← hf]; rfl
                  obtain ⟨g1, o1, e, _⟩ := rdA_at (H.at 11 rfl) hv
                  subst e
                  exact ⟨g1, o1, rfl, rdA_cell (H.at 11 rfl) hv⟩
                subst hpa
                clear hc hf
                go_upto_region 46 with (first
                  | (go_at_call 38; go_loud ((refine (Drop_ok (s := s) (H.take 7).bundle HO.out _ f rfl (by have := HFF.out.2; rw [HN.out] at this; omega) HFF.out.1 HFF.out.2 HW.out (by rw [(HK.out.one _ HM.out).1]; exact longC_le _ (HK.out.one _ HM.out).2.1) (HK.out.one _ HM.out).2.2.1 (HK.out.one _ HM.out).2.2.2.1).mono ?_); clear hcell; rintro e W ⟨rfl, s1, hs1, hto⟩; replace H := hto.front (R := [errA, rdA pz (zs.map (Value.int .u16)), rdA (some ⟨gd, od, none⟩) (byteV ds), rowsP rs, rdA (some ⟨g1, o1, none⟩) (u32V (cs.map fun c => c.1.getD 0 0)), rdA ph (slV rs)]) H; clear hto; have HS1 := Lib.hid hs1; clear hs1)))
                obtain ⟨g2, o2, hph⟩ : ∃ g2 o2, ph = some ⟨g2, o2, none⟩ := by
                  obtain ⟨r, hr⟩ : ∃ r, (slV rs)[m]? = some r := ⟨_, List.getElem?_eq_getElem (by have e := congrArg List.length HRC.out; rw [List.length_map, List.length_map, HCN.out] at e; rw [slV, List.length_map, e]; exact HMK.out)⟩
                  obtain ⟨g2, o2, e, _⟩ := rdA_at (H.at 12 rfl) hr
                  exact ⟨g2, o2, e⟩
                subst hph
                have HS2 := Lib.hid (show Keeps s1 (cs.take m ++ cs.drop (m + 1)) by
                  have e1 := HK.out
                  have hl : m < cs.length := by rw [HCN.out]; exact HMK.out
                  have e2 : cs = cs.take m ++ c :: cs.drop (m + 1) := by
                    obtain ⟨h1, h2⟩ := List.getElem?_eq_some_iff.1 HC.out
                    rw [← h2, ← List.drop_eq_getElem_cons h1, List.take_append_drop]
                  rw [e2] at e1
                  exact e1.drop HS1.out)
                have HG1 := Lib.hid (HS1.out.g.trans HG.out)
                clear HS1
                simp only [HG.out]
                replace H : St NoBlk (fun _ => True) w _ (s1.L ++ [errA, rdA pz (zs.map (Value.int .u16)), rdA (some ⟨gd, od, none⟩) (byteV ds), rowsP rs, rdA (some ⟨g1, o1, none⟩) (u32V (cs.map fun c => c.1.getD 0 0)), rdA (some ⟨g2, o2, none⟩) (slV rs)]) := H
                replace H := H.drew
                have hmca : m ≤ ca := by have := HCA.out; have := HMK.out; omega
                have hmch : m ≤ ch := by have := HCH.out; have := HMK.out; omega
                have hm1k : m + 1 ≤ k := HMK.out
                have hkca : k ≤ ca := HCA.out
                have hkch : k ≤ ch := HCH.out
                have hw : IntKind.i64.wrap ((m : Int) + 1) = (m : Int) + 1 := by rw [IntKind.wrap_i64]; omega
                have htn : ((m : Int) + 1).toNat = m + 1 := by omega
                have hc0 : 0 ≤ (m : Int) + 1 := by omega
                have hc1 : (m : Int) + 1 ≤ (k : Int) := by omega
                obtain ⟨q1, hq1, hq1e⟩ : ∃ q1, (if ca = m + 1 then some (⟨g1, o1, none⟩ : Addr) else some ⟨g1, o1 + (m + 1), none⟩) = some ⟨g1, q1, none⟩ ∧ (ca ≠ m + 1 → q1 = o1 + (m + 1)) := by
                  by_cases h : ca = m + 1
                  · exact ⟨o1, by rw [if_pos h], fun h2 => absurd h h2⟩
                  · exact ⟨o1 + (m + 1), by rw [if_neg h], fun _ => rfl⟩
                obtain ⟨q2, hq2, hq2e⟩ : ∃ q2, (if ch = m + 1 then some (⟨g2, o2, none⟩ : Addr) else some ⟨g2, o2 + (m + 1), none⟩) = some ⟨g2, q2, none⟩ ∧ (ch ≠ m + 1 → q2 = o2 + (m + 1)) := by
                  by_cases h : ch = m + 1
                  · exact ⟨o2, by rw [if_pos h], fun h2 => absurd h h2⟩
                  · exact ⟨o2 + (m + 1), by rw [if_neg h], fun _ => rfl⟩
                have HQ1 := Lib.hid hq1e
                have HQ2 := Lib.hid hq2e
                clear hq1e hq2e
                have HRL := Lib.hid (show rs.length = k by have e := congrArg List.length HRC.out; rw [List.length_map, List.length_map, HCN.out] at e; exact e)
                obtain ⟨US, hUS⟩ : ∃ US, u32V (cs.map fun c => c.1.getD 0 0) = US := ⟨_, rfl⟩
                obtain ⟨VS, hVS⟩ : ∃ VS, slV rs = VS := ⟨_, rfl⟩
                rw [hUS, hVS] at H
                have HUE := Lib.hid hUS
                have HVE := Lib.hid hVS
                have HUL := Lib.hid (show US.length = k by rw [← hUS, u32V, List.length_map, List.length_map, HCN.out])
                have HVL := Lib.hid (show VS.length = k by rw [← hVS, slV, List.length_map, HRL.out])
                have HU1 := Lib.hid (show ∀ u ∈ US, u.oneCell' = true from fun u hu => u32V_one _ u (by rw [hUS]; exact hu))
                have HV1 := Lib.hid (show ∀ u ∈ VS, u.oneCell' = true from fun u hu => slV_one _ u (by rw [hVS]; exact hu))
                clear hUS hVS
                have HQ3 := Lib.hid (show m + 1 < US.length → q1 = o1 + (m + 1) from fun h => HQ1.out (by rw [HUL.out] at h; omega))
                have HQ4 := Lib.hid (show m + 1 < VS.length → q2 = o2 + (m + 1) from fun h => HQ2.out (by rw [HVL.out] at h; omega))
                refine wp_region_held_drew (S := fun w' => True) (by kernel_rfl) trivial (fun hHeld => ?_)
                (refine wpAnyH_take (i := 1) (v := ?_) rfl (by kernel_rfl) (by kernel_rfl) (by kernel_rfl) (fun _ _ _ h => h) (Or.inl ⟨by rfl, ?_⟩) (by assumption) ?_; rotate_left; focus (intro w hSw; (try dsimp only at hSw); go_simp; all_goals (with_reducible rfl))); (try simp only [Act.put, List.setIfInBounds_toArray, List.set_cons_zero, List.set_cons_succ, List.getElem_toArray, List.getElem_cons_succ, List.getElem_cons_zero])
                (refine wpAnyH_take (i := 2) (v := ?_) rfl (by kernel_rfl) (by kernel_rfl) (by kernel_rfl) (fun _ _ _ h => h) (Or.inl ⟨by rfl, ?_⟩) (by assumption) ?_; rotate_left; focus (intro w hSw; (try dsimp only at hSw); go_simp; all_goals (with_reducible rfl))); (try simp only [Act.put, List.setIfInBounds_toArray, List.set_cons_zero, List.set_cons_succ, List.getElem_toArray, List.getElem_cons_succ, List.getElem_cons_zero])
                (refine wpAnyH_take (i := 3) (v := ?_) rfl (by kernel_rfl) (by kernel_rfl) (by kernel_rfl) (fun _ _ _ h => h) (Or.inl ⟨by rfl, ?_⟩) (by assumption) ?_; rotate_left; focus (intro w hSw; (try dsimp only at hSw); go_simp; all_goals (with_reducible rfl))); (try simp only [Act.put, List.setIfInBounds_toArray, List.set_cons_zero, List.set_cons_succ, List.getElem_toArray, List.getElem_cons_succ, List.getElem_cons_zero])
                (refine wpAnyH_take (i := 5) (v := ?_) rfl (by kernel_rfl) (by kernel_rfl) (by kernel_rfl) (fun _ _ _ h => h) (Or.inl ⟨by rfl, ?_⟩) (by assumption) ?_; rotate_left; focus (intro w hSw; (try dsimp only at hSw); go_simp; all_goals (with_reducible rfl))); (try simp only [Act.put, List.setIfInBounds_toArray, List.set_cons_zero, List.set_cons_succ, List.getElem_toArray, List.getElem_cons_succ, List.getElem_cons_zero])
                (refine wpAnyH_take (i := 6) (v := ?_) rfl (by kernel_rfl) (by kernel_rfl) (by kernel_rfl) (fun _ _ _ h => h) (Or.inl ⟨by rfl, ?_⟩) (by assumption) ?_; rotate_left; focus (intro w hSw; (try dsimp only at hSw); go_simp; all_goals (with_reducible rfl))); (try simp only [Act.put, List.setIfInBounds_toArray, List.set_cons_zero, List.set_cons_succ, List.getElem_toArray, List.getElem_cons_succ, List.getElem_cons_zero])
                (refine wpAnyH_take (i := 7) (v := ?_) rfl (by kernel_rfl) (by kernel_rfl) (by kernel_rfl) (fun _ _ _ h => h) (Or.inl ⟨by rfl, ?_⟩) (by assumption) ?_; rotate_left; focus (intro w hSw; (try dsimp only at hSw); go_simp; all_goals (with_reducible rfl))); (try simp only [Act.put, List.setIfInBounds_toArray, List.set_cons_zero, List.set_cons_succ, List.getElem_toArray, List.getElem_cons_succ, List.getElem_cons_zero])
                (refine wpAnyH_take (i := 8) (v := ?_) rfl (by kernel_rfl) (by kernel_rfl) (by kernel_rfl) (fun _ _ _ h => h) (Or.inl ⟨by rfl, ?_⟩) (by assumption) ?_; rotate_left; focus (intro w hSw; (try dsimp only at hSw); go_simp; all_goals (with_reducible rfl))); (try simp only [Act.put, List.setIfInBounds_toArray, List.set_cons_zero, List.set_cons_succ, List.getElem_toArray, List.getElem_cons_succ, List.getElem_cons_zero])
                (refine wpAnyH_take (i := 11) (v := ?_) rfl (by kernel_rfl) (by kernel_rfl) (by kernel_rfl) (fun _ _ _ h => h) (Or.inl ⟨by rfl, ?_⟩) (by assumption) ?_; rotate_left; focus (intro w hSw; (try dsimp only at hSw); go_simp; all_goals (with_reducible rfl))); (try simp only [Act.put, List.setIfInBounds_toArray, List.set_cons_zero, List.set_cons_succ, List.getElem_toArray, List.getElem_cons_succ, List.getElem_cons_zero])
                (refine wpAnyH_take (i := 12) (v := ?_) rfl (by kernel_rfl) (by kernel_rfl) (by kernel_rfl) (fun _ _ _ h => h) (Or.inl ⟨by rfl, ?_⟩) (by assumption) ?_; rotate_left; focus (intro w hSw; (try dsimp only at hSw); go_simp; all_goals (with_reducible rfl))); (try simp only [Act.put, List.setIfInBounds_toArray, List.set_cons_zero, List.set_cons_succ, List.getElem_toArray, List.getElem_cons_succ, List.getElem_cons_zero])
                (refine wpAnyH_take (i := 13) (v := ?_) rfl (by kernel_rfl) (by kernel_rfl) (by kernel_rfl) (fun _ _ _ h => h) (Or.inl ⟨by rfl, ?_⟩) (by assumption) ?_; rotate_left; focus (intro w hSw; (try dsimp only at hSw); go_simp; all_goals (with_reducible rfl))); (try simp only [Act.put, List.setIfInBounds_toArray, List.set_cons_zero, List.set_cons_succ, List.getElem_toArray, List.getElem_cons_succ, List.getElem_cons_zero])
                (refine wpAnyH_take (i := 15) (v := ?_) rfl (by kernel_rfl) (by kernel_rfl) (by kernel_rfl) (fun _ _ _ h => h) (Or.inl ⟨by rfl, ?_⟩) (by assumption) ?_; rotate_left; focus (intro w hSw; (try dsimp only at hSw); go_simp; all_goals (with_reducible rfl))); (try simp only [Act.put, List.setIfInBounds_toArray, List.set_cons_zero, List.set_cons_succ, List.getElem_toArray, List.getElem_cons_succ, List.getElem_cons_zero])
                (refine wpAnyH_take (i := 16) (v := ?_) rfl (by kernel_rfl) (by kernel_rfl) (by kernel_rfl) (fun _ _ _ h => h) (Or.inl ⟨by rfl, ?_⟩) (by assumption) ?_; rotate_left; focus (intro w hSw; (try dsimp only at hSw); go_simp; all_goals (with_reducible rfl))); (try simp only [Act.put, List.setIfInBounds_toArray, List.set_cons_zero, List.set_cons_succ, List.getElem_toArray, List.getElem_cons_succ, List.getElem_cons_zero])
                (refine wpAnyH_take (i := 17) (v := ?_) rfl (by kernel_rfl) (by kernel_rfl) (by kernel_rfl) (fun _ _ _ h => h) (Or.inl ⟨by rfl, ?_⟩) (by assumption) ?_; rotate_left; focus (intro w hSw; (try dsimp only at hSw); go_simp; all_goals (with_reducible rfl))); (try simp only [Act.put, List.setIfInBounds_toArray, List.set_cons_zero, List.set_cons_succ, List.getElem_toArray, List.getElem_cons_succ, List.getElem_cons_zero])
                (refine wpAnyH_take (i := 18) (v := ?_) rfl (by kernel_rfl) (by kernel_rfl) (by kernel_rfl) (fun _ _ _ h => h) (Or.inl ⟨by rfl, ?_⟩) (by assumption) ?_; rotate_left; focus (intro w hSw; (try dsimp only at hSw); go_simp; all_goals (with_reducible rfl))); (try simp only [Act.put, List.setIfInBounds_toArray, List.set_cons_zero, List.set_cons_succ, List.getElem_toArray, List.getElem_cons_succ, List.getElem_cons_zero])
                refine wpAnyH_ready (rs := [0, 10]) (by kernel_rfl) (by simp) (AllReadyH.cons rfl (fun K hK => ?_) (AllReadyH.cons rfl (fun K hK => ?_) AllReadyH.nil))
                · rw [if_pos (by rfl)]
                  (refine wp_buildslice0_st H 56 48 rfl Tryz.underlying56 1 size_u32 ?_; clear H; intro W gA H; refine hK.out _ _ trivial (fun hHeld => ?_); clear hK K); (try simp only [Act.put, List.setIfInBounds_toArray, List.set_cons_zero, List.set_cons_succ, List.getElem_toArray, List.getElem_cons_succ, List.getElem_cons_zero])
                  refine wpAnyH_ready (rs := [4, 10]) (by kernel_rfl) (by simp) (AllReadyH.cons rfl (fun K hK => ?_) (AllReadyH.cons rfl (fun K hK => ?_) AllReadyH.nil))
                  · rw [if_pos (by rfl)]
                    (refine wp_append_st H 13 _ _ 56 rfl 48 Tryz.underlying56 (.int .u32 0) 4 info_u32 rfl gA 0 0 rfl [] rfl (by omega) rfl (by simp [maxLen]) ⟨g1, o1, none⟩ m ca rfl (US.take m) (by rw [List.length_take, HUL.out]; omega) (rd_take (H.at 11 rfl) m) (fun u hu => HU1.out u (List.mem_of_mem_take hu)) (by simp only [maxLen]; have := HN8.out; omega) (by have := HN8.out; omega) ?_; clear H; intro W gA capA junkA H hlA hcA hmA; refine hK.out _ _ trivial (fun hHeld => ?_); clear hK K); (try simp only [Act.put, List.setIfInBounds_toArray, List.set_cons_zero, List.set_cons_succ, List.getElem_toArray, List.getElem_cons_succ, List.getElem_cons_zero])
                    refine wpAnyH_ready (rs := [9, 10]) (by kernel_rfl) (by simp) (AllReadyH.cons rfl (fun K hK => ?_) (AllReadyH.cons rfl (fun K hK => ?_) AllReadyH.nil))
                    · rw [if_pos (by rfl)]
                      (refine wp_append_st H 13 _ _ 56 rfl 48 Tryz.underlying56 (.int .u32 0) 4 info_u32 rfl gA (0 + m) capA rfl _ rfl hcA hlA hmA ⟨g1, q1, none⟩ (k - (m + 1)) (ca - (m + 1)) rfl (US.drop (m + 1)) (by rw [List.length_drop, HUL.out]) (rd_drop (H.at 11 rfl) (m + 1) HQ3.out) (fun u hu => HU1.out u (List.mem_of_mem_drop hu)) (by simp only [maxLen]; have := HN8.out; omega) (by have := HN8.out; omega) ?_; clear H hcA hlA hmA; intro W gA capA junkA2 H hlA hcA hmA; refine hK.out _ _ trivial (fun hHeld => ?_); clear hK K); (try simp only [Act.put, List.setIfInBounds_toArray, List.set_cons_zero, List.set_cons_succ, List.getElem_toArray, List.getElem_cons_succ, List.getElem_cons_zero])
                      refine wpAnyH_ready (rs := [10]) (by kernel_rfl) (by simp) (AllReadyH.cons rfl (fun K hK => ?_) AllReadyH.nil)
                      rw [if_pos (by rfl)]
                      (refine wp_buildslice0_st H 47 22 rfl Tryz.underlying47 1 size_row ?_; clear H; intro W gB H; refine hK.out _ _ trivial (fun hHeld => ?_); clear hK K); (try simp only [Act.put, List.setIfInBounds_toArray, List.set_cons_zero, List.set_cons_succ, List.getElem_toArray, List.getElem_cons_succ, List.getElem_cons_zero])
                      refine wpAnyH_ready (rs := [14]) (by kernel_rfl) (by simp) (AllReadyH.cons rfl (fun K hK => ?_) AllReadyH.nil)
                      rw [if_pos (by rfl)]
                      (refine wp_append_st H 14 _ _ 47 rfl 22 Tryz.underlying47 (.slice none 0 0) 24 info_row rfl gB 0 0 rfl [] rfl (by omega) rfl (by simp [maxLen]) ⟨g2, o2, none⟩ m ch rfl (VS.take m) (by rw [List.length_take, HVL.out]; omega) (rd_take (H.at 12 rfl) m) (fun u hu => HV1.out u (List.mem_of_mem_take hu)) (by simp only [maxLen]; have := HN8.out; omega) (by have := HN8.out; omega) ?_; clear H; intro W gB capB junkB H hlB hcB hmB; refine hK.out _ _ trivial (fun hHeld => ?_); clear hK K); (try simp only [Act.put, List.setIfInBounds_toArray, List.set_cons_zero, List.set_cons_succ, List.getElem_toArray, List.getElem_cons_succ, List.getElem_cons_zero])
                      refine wpAnyH_ready (rs := [19]) (by kernel_rfl) (by simp) (AllReadyH.cons rfl (fun K hK => ?_) AllReadyH.nil)
                      rw [if_pos (by rfl)]
                      (refine wp_append_st H 14 _ _ 47 rfl 22 Tryz.underlying47 (.slice none 0 0) 24 info_row rfl gB (0 + m) capB rfl _ rfl hcB hlB hmB ⟨g2, q2, none⟩ (k - (m + 1)) (ch - (m + 1)) rfl (VS.drop (m + 1)) (by rw [List.length_drop, HVL.out]) (rd_drop (H.at 12 rfl) (m + 1) HQ4.out) (fun u hu => HV1.out u (List.mem_of_mem_drop hu)) (by simp only [maxLen]; have := HN8.out; omega) (by have := HN8.out; omega) ?_; clear H hcB hlB hmB; intro W gB capB junkB2 H hlB hcB hmB; refine hK.out _ _ trivial (fun hHeld => ?_); clear hK K); (try simp only [Act.put, List.setIfInBounds_toArray, List.set_cons_zero, List.set_cons_succ, List.getElem_toArray, List.getElem_cons_succ, List.getElem_cons_zero])
                      (refine wpAnyH_take (i := 20) (v := ?_) rfl (by kernel_rfl) (by kernel_rfl) (by kernel_rfl) (fun _ _ _ h => h) (Or.inl ⟨by rfl, ?_⟩) (by assumption) ?_; rotate_left; focus (intro w hSw; (try dsimp only at hSw); go_simp; all_goals (with_reducible rfl))); (try simp only [Act.put, List.setIfInBounds_toArray, List.set_cons_zero, List.set_cons_succ, List.getElem_toArray, List.getElem_cons_succ, List.getElem_cons_zero])
                      (refine wpAnyH_take (i := 21) (v := ?_) rfl (by kernel_rfl) (by kernel_rfl) (by kernel_rfl) (fun _ _ _ h => h) (Or.inl ⟨by rfl, ?_⟩) (by assumption) ?_; rotate_left; focus (intro w hSw; (try dsimp only at hSw); go_simp; all_goals (with_reducible rfl))); (try simp only [Act.put, List.setIfInBounds_toArray, List.set_cons_zero, List.set_cons_succ, List.getElem_toArray, List.getElem_cons_succ, List.getElem_cons_zero])
                      (refine wpAnyH_done (by kernel_rfl) ?_ _)
                      clear hHeld
                      rw [take_front (US.take m) junkA m (by rw [List.length_take, HUL.out]; omega), take_front (VS.take m) junkB m (by rw [List.length_take, HVL.out]; omega)] at H
                      replace H := ((H.blkRd 13 rfl).blkRd 14 rfl).rowsSub 10 (rs' := rs.take m ++ rs.drop (m + 1)) rfl (fun r hr => (List.mem_append.1 hr).elim List.mem_of_mem_take List.mem_of_mem_drop)
                      replace H : St NoBlk (fun _ => True) w _ ((s1.L ++ [errA, rdA pz (zs.map (Value.int .u16)), rdA (some ⟨gd, od, none⟩) (byteV ds), rowsP (rs.take m ++ rs.drop (m + 1))]) ++ [rdA (some ⟨gA, 0, none⟩) (US.take m ++ US.drop (m + 1)), rdA (some ⟨gB, 0, none⟩) (VS.take m ++ VS.drop (m + 1))]) := (St.swap (A := (s1.L ++ [errA, rdA pz (zs.map (Value.int .u16)), rdA (some ⟨gd, od, none⟩) (byteV ds), rowsP (rs.take m ++ rs.drop (m + 1))])) (E := [rdA (some ⟨g1, o1, none⟩) US, rdA (some ⟨g2, o2, none⟩) VS]) (R := [rdA (some ⟨gA, 0, none⟩) (US.take m ++ US.drop (m + 1)), rdA (some ⟨gB, 0, none⟩) (VS.take m ++ VS.drop (m + 1))]) H).take 13
                      rw [← HUE.out, ← HVE.out, show (u32V (cs.map fun c => c.1.getD 0 0)).take m ++ (u32V (cs.map fun c => c.1.getD 0 0)).drop (m + 1) = u32V ((cs.take m ++ cs.drop (m + 1)).map fun c => c.1.getD 0 0) by simp [u32V, List.map_take, List.map_drop], show (slV rs).take m ++ (slV rs).drop (m + 1) = slV (rs.take m ++ rs.drop (m + 1)) by simp [slV, List.map_take, List.map_drop]] at H
                      clear hw htn hc0 hc1 hq1 hq2
                      go_wp2
                      go_roundw
                      case rel => exact ⟨i + 1, m + (k - (m + 1)), s1, cs.take m ++ cs.drop (m + 1), rs.take m ++ rs.drop (m + 1), _, _, _, _, rfl, rfl, congrArg _ (by omega), by have := HI.out; omega, HG1.out, HS2.out, by rw [List.length_append, List.length_take, List.length_drop, HCN.out]; omega, by rw [List.map_append, List.map_append, List.map_take, List.map_drop, List.map_take, List.map_drop, HRC.out], by have := HN8.out; omega, by omega, by omega, H⟩
                      case measure => have := HI.out; simp [intOf]; omega
                    · rw [if_pos (by rfl)]
                      (refine wp_buildslice0_st H 47 22 rfl Tryz.underlying47 1 size_row ?_; clear H; intro W gB H; refine hK.out _ _ trivial (fun hHeld => ?_); clear hK K); (try simp only [Act.put, List.setIfInBounds_toArray, List.set_cons_zero, List.set_cons_succ, List.getElem_toArray, List.getElem_cons_succ, List.getElem_cons_zero])
                      refine wpAnyH_ready (rs := [9]) (by kernel_rfl) (by simp) (AllReadyH.cons rfl (fun K hK => ?_) AllReadyH.nil)
                      rw [if_pos (by rfl)]
                      (refine wp_append_st H 13 _ _ 56 rfl 48 Tryz.underlying56 (.int .u32 0) 4 info_u32 rfl gA (0 + m) capA rfl _ rfl hcA hlA hmA ⟨g1, q1, none⟩ (k - (m + 1)) (ca - (m + 1)) rfl (US.drop (m + 1)) (by rw [List.length_drop, HUL.out]) (rd_drop (H.at 11 rfl) (m + 1) HQ3.out) (fun u hu => HU1.out u (List.mem_of_mem_drop hu)) (by simp only [maxLen]; have := HN8.out; omega) (by have := HN8.out; omega) ?_; clear H hcA hlA hmA; intro W gA capA junkA2 H hlA hcA hmA; refine hK.out _ _ trivial (fun hHeld => ?_); clear hK K); (try simp only [Act.put, List.setIfInBounds_toArray, List.set_cons_zero, List.set_cons_succ, List.getElem_toArray, List.getElem_cons_succ, List.getElem_cons_zero])
                      refine wpAnyH_ready (rs := [14]) (by kernel_rfl) (by simp) (AllReadyH.cons rfl (fun K hK => ?_) AllReadyH.nil)
                      rw [if_pos (by rfl)]
                      (refine wp_append_st H 14 _ _ 47 rfl 22 Tryz.underlying47 (.slice none 0 0) 24 info_row rfl gB 0 0 rfl [] rfl (by omega) rfl (by simp [maxLen]) ⟨g2, o2, none⟩ m ch rfl (VS.take m) (by rw [List.length_take, HVL.out]; omega) (rd_take (H.at 12 rfl) m) (fun u hu => HV1.out u (List.mem_of_mem_take hu)) (by simp only [maxLen]; have := HN8.out; omega) (by have := HN8.out; omega) ?_; clear H; intro W gB capB junkB H hlB hcB hmB; refine hK.out _ _ trivial (fun hHeld => ?_); clear hK K); (try simp only [Act.put, List.setIfInBounds_toArray, List.set_cons_zero, List.set_cons_succ, List.getElem_toArray, List.getElem_cons_succ, List.getElem_cons_zero])
                      refine wpAnyH_ready (rs := [19]) (by kernel_rfl) (by simp) (AllReadyH.cons rfl (fun K hK => ?_) AllReadyH.nil)
                      rw [if_pos (by rfl)]
                      (refine wp_append_st H 14 _ _ 47 rfl 22 Tryz.underlying47 (.slice none 0 0) 24 info_row rfl gB (0 + m) capB rfl _ rfl hcB hlB hmB ⟨g2, q2, none⟩ (k - (m + 1)) (ch - (m + 1)) rfl (VS.drop (m + 1)) (by rw [List.length_drop, HVL.out]) (rd_drop (H.at 12 rfl) (m + 1) HQ4.out) (fun u hu => HV1.out u (List.mem_of_mem_drop hu)) (by simp only [maxLen]; have := HN8.out; omega) (by have := HN8.out; omega) ?_; clear H hcB hlB hmB; intro W gB capB junkB2 H hlB hcB hmB; refine hK.out _ _ trivial (fun hHeld => ?_); clear hK K); (try simp only [Act.put, List.setIfInBounds_toArray, List.set_cons_zero, List.set_cons_succ, List.getElem_toArray, List.getElem_cons_succ, List.getElem_cons_zero])
                      (refine wpAnyH_take (i := 20) (v := ?_) rfl (by kernel_rfl) (by kernel_rfl) (by kernel_rfl) (fun _ _ _ h => h) (Or.inl ⟨by rfl, ?_⟩) (by assumption) ?_; rotate_left; focus (intro w hSw; (try dsimp only at hSw); go_simp; all_goals (with_reducible rfl))); (try simp only [Act.put, List.setIfInBounds_toArray, List.set_cons_zero, List.set_cons_succ, List.getElem_toArray, List.getElem_cons_succ, List.getElem_cons_zero])
                      (refine wpAnyH_take (i := 21) (v := ?_) rfl (by kernel_rfl) (by kernel_rfl) (by kernel_rfl) (fun _ _ _ h => h) (Or.inl ⟨by rfl, ?_⟩) (by assumption) ?_; rotate_left; focus (intro w hSw; (try dsimp only at hSw); go_simp; all_goals (with_reducible rfl))); (try simp only [Act.put, List.setIfInBounds_toArray, List.set_cons_zero, List.set_cons_succ, List.getElem_toArray, List.getElem_cons_succ, List.getElem_cons_zero])
                      (refine wpAnyH_done (by kernel_rfl) ?_ _)
                      clear hHeld
                      rw [take_front (US.take m) junkA m (by rw [List.length_take, HUL.out]; omega), take_front (VS.take m) junkB m (by rw [List.length_take, HVL.out]; omega)] at H
                      replace H := ((H.blkRd 13 rfl).blkRd 14 rfl).rowsSub 10 (rs' := rs.take m ++ rs.drop (m + 1)) rfl (fun r hr => (List.mem_append.1 hr).elim List.mem_of_mem_take List.mem_of_mem_drop)
                      replace H : St NoBlk (fun _ => True) w _ ((s1.L ++ [errA, rdA pz (zs.map (Value.int .u16)), rdA (some ⟨gd, od, none⟩) (byteV ds), rowsP (rs.take m ++ rs.drop (m + 1))]) ++ [rdA (some ⟨gA, 0, none⟩) (US.take m ++ US.drop (m + 1)), rdA (some ⟨gB, 0, none⟩) (VS.take m ++ VS.drop (m + 1))]) := (St.swap (A := (s1.L ++ [errA, rdA pz (zs.map (Value.int .u16)), rdA (some ⟨gd, od, none⟩) (byteV ds), rowsP (rs.take m ++ rs.drop (m + 1))])) (E := [rdA (some ⟨g1, o1, none⟩) US, rdA (some ⟨g2, o2, none⟩) VS]) (R := [rdA (some ⟨gA, 0, none⟩) (US.take m ++ US.drop (m + 1)), rdA (some ⟨gB, 0, none⟩) (VS.take m ++ VS.drop (m + 1))]) H).take 13
                      rw [← HUE.out, ← HVE.out, show (u32V (cs.map fun c => c.1.getD 0 0)).take m ++ (u32V (cs.map fun c => c.1.getD 0 0)).drop (m + 1) = u32V ((cs.take m ++ cs.drop (m + 1)).map fun c => c.1.getD 0 0) by simp [u32V, List.map_take, List.map_drop], show (slV rs).take m ++ (slV rs).drop (m + 1) = slV (rs.take m ++ rs.drop (m + 1)) by simp [slV, List.map_take, List.map_drop]] at H
                      clear hw htn hc0 hc1 hq1 hq2
                      go_wp2
                      go_roundw
                      case rel => exact ⟨i + 1, m + (k - (m + 1)), s1, cs.take m ++ cs.drop (m + 1), rs.take m ++ rs.drop (m + 1), _, _, _, _, rfl, rfl, congrArg _ (by omega), by have := HI.out; omega, HG1.out, HS2.out, by rw [List.length_append, List.length_take, List.length_drop, HCN.out]; omega, by rw [List.map_append, List.map_append, List.map_take, List.map_drop, List.map_take, List.map_drop, HRC.out], by have := HN8.out; omega, by omega, by omega, H⟩
                      case measure => have := HI.out; simp [intOf]; omega
                  · rw [if_pos (by rfl)]
                    (refine wp_buildslice0_st H 47 22 rfl Tryz.underlying47 1 size_row ?_; clear H; intro W gB H; refine hK.out _ _ trivial (fun hHeld => ?_); clear hK K); (try simp only [Act.put, List.setIfInBounds_toArray, List.set_cons_zero, List.set_cons_succ, List.getElem_toArray, List.getElem_cons_succ, List.getElem_cons_zero])
                    refine wpAnyH_ready (rs := [4]) (by kernel_rfl) (by simp) (AllReadyH.cons rfl (fun K hK => ?_) AllReadyH.nil)
                    rw [if_pos (by rfl)]
                    (refine wp_append_st H 13 _ _ 56 rfl 48 Tryz.underlying56 (.int .u32 0) 4 info_u32 rfl gA 0 0 rfl [] rfl (by omega) rfl (by simp [maxLen]) ⟨g1, o1, none⟩ m ca rfl (US.take m) (by rw [List.length_take, HUL.out]; omega) (rd_take (H.at 11 rfl) m) (fun u hu => HU1.out u (List.mem_of_mem_take hu)) (by simp only [maxLen]; have := HN8.out; omega) (by have := HN8.out; omega) ?_; clear H; intro W gA capA junkA H hlA hcA hmA; refine hK.out _ _ trivial (fun hHeld => ?_); clear hK K); (try simp only [Act.put, List.setIfInBounds_toArray, List.set_cons_zero, List.set_cons_succ, List.getElem_toArray, List.getElem_cons_succ, List.getElem_cons_zero])
                    refine wpAnyH_ready (rs := [9]) (by kernel_rfl) (by simp) (AllReadyH.cons rfl (fun K hK => ?_) AllReadyH.nil)
                    rw [if_pos (by rfl)]
                    (refine wp_append_st H 13 _ _ 56 rfl 48 Tryz.underlying56 (.int .u32 0) 4 info_u32 rfl gA (0 + m) capA rfl _ rfl hcA hlA hmA ⟨g1, q1, none⟩ (k - (m + 1)) (ca - (m + 1)) rfl (US.drop (m + 1)) (by rw [List.length_drop, HUL.out]) (rd_drop (H.at 11 rfl) (m + 1) HQ3.out) (fun u hu => HU1.out u (List.mem_of_mem_drop hu)) (by simp only [maxLen]; have := HN8.out; omega) (by have := HN8.out; omega) ?_; clear H hcA hlA hmA; intro W gA capA junkA2 H hlA hcA hmA; refine hK.out _ _ trivial (fun hHeld => ?_); clear hK K); (try simp only [Act.put, List.setIfInBounds_toArray, List.set_cons_zero, List.set_cons_succ, List.getElem_toArray, List.getElem_cons_succ, List.getElem_cons_zero])
                    refine wpAnyH_ready (rs := [14]) (by kernel_rfl) (by simp) (AllReadyH.cons rfl (fun K hK => ?_) AllReadyH.nil)
                    rw [if_pos (by rfl)]
                    (refine wp_append_st H 14 _ _ 47 rfl 22 Tryz.underlying47 (.slice none 0 0) 24 info_row rfl gB 0 0 rfl [] rfl (by omega) rfl (by simp [maxLen]) ⟨g2, o2, none⟩ m ch rfl (VS.take m) (by rw [List.length_take, HVL.out]; omega) (rd_take (H.at 12 rfl) m) (fun u hu => HV1.out u (List.mem_of_mem_take hu)) (by simp only [maxLen]; have := HN8.out; omega) (by have := HN8.out; omega) ?_; clear H; intro W gB capB junkB H hlB hcB hmB; refine hK.out _ _ trivial (fun hHeld => ?_); clear hK K); (try simp only [Act.put, List.setIfInBounds_toArray, List.set_cons_zero, List.set_cons_succ, List.getElem_toArray, List.getElem_cons_succ, List.getElem_cons_zero])
                    refine wpAnyH_ready (rs := [19]) (by kernel_rfl) (by simp) (AllReadyH.cons rfl (fun K hK => ?_) AllReadyH.nil)
                    rw [if_pos (by rfl)]
                    (refine wp_append_st H 14 _ _ 47 rfl 22 Tryz.underlying47 (.slice none 0 0) 24 info_row rfl gB (0 + m) capB rfl _ rfl hcB hlB hmB ⟨g2, q2, none⟩ (k - (m + 1)) (ch - (m + 1)) rfl (VS.drop (m + 1)) (by rw [List.length_drop, HVL.out]) (rd_drop (H.at 12 rfl) (m + 1) HQ4.out) (fun u hu => HV1.out u (List.mem_of_mem_drop hu)) (by simp only [maxLen]; have := HN8.out; omega) (by have := HN8.out; omega) ?_; clear H hcB hlB hmB; intro W gB capB junkB2 H hlB hcB hmB; refine hK.out _ _ trivial (fun hHeld => ?_); clear hK K); (try simp only [Act.put, List.setIfInBounds_toArray, List.set_cons_zero, List.set_cons_succ, List.getElem_toArray, List.getElem_cons_succ, List.getElem_cons_zero])
                    (refine wpAnyH_take (i := 20) (v := ?_) rfl (by kernel_rfl) (by kernel_rfl) (by kernel_rfl) (fun _ _ _ h => h) (Or.inl ⟨by rfl, ?_⟩) (by assumption) ?_; rotate_left; focus (intro w hSw; (try dsimp only at hSw); go_simp; all_goals (with_reducible rfl))); (try simp only [Act.put, List.setIfInBounds_toArray, List.set_cons_zero, List.set_cons_succ, List.getElem_toArray, List.getElem_cons_succ, List.getElem_cons_zero])
                    (refine wpAnyH_take (i := 21) (v := ?_) rfl (by kernel_rfl) (by kernel_rfl) (by kernel_rfl) (fun _ _ _ h => h) (Or.inl ⟨by rfl, ?_⟩) (by assumption) ?_; rotate_left; focus (intro w hSw; (try dsimp only at hSw); go_simp; all_goals (with_reducible rfl))); (try simp only [Act.put, List.setIfInBounds_toArray, List.set_cons_zero, List.set_cons_succ, List.getElem_toArray, List.getElem_cons_succ, List.getElem_cons_zero])
                    (refine wpAnyH_done (by kernel_rfl) ?_ _)
                    clear hHeld
                    rw [take_front (US.take m) junkA m (by rw [List.length_take, HUL.out]; omega), take_front (VS.take m) junkB m (by rw [List.length_take, HVL.out]; omega)] at H
                    replace H := ((H.blkRd 13 rfl).blkRd 14 rfl).rowsSub 10 (rs' := rs.take m ++ rs.drop (m + 1)) rfl (fun r hr => (List.mem_append.1 hr).elim List.mem_of_mem_take List.mem_of_mem_drop)
                    replace H : St NoBlk (fun _ => True) w _ ((s1.L ++ [errA, rdA pz (zs.map (Value.int .u16)), rdA (some ⟨gd, od, none⟩) (byteV ds), rowsP (rs.take m ++ rs.drop (m + 1))]) ++ [rdA (some ⟨gA, 0, none⟩) (US.take m ++ US.drop (m + 1)), rdA (some ⟨gB, 0, none⟩) (VS.take m ++ VS.drop (m + 1))]) := (St.swap (A := (s1.L ++ [errA, rdA pz (zs.map (Value.int .u16)), rdA (some ⟨gd, od, none⟩) (byteV ds), rowsP (rs.take m ++ rs.drop (m + 1))])) (E := [rdA (some ⟨g1, o1, none⟩) US, rdA (some ⟨g2, o2, none⟩) VS]) (R := [rdA (some ⟨gA, 0, none⟩) (US.take m ++ US.drop (m + 1)), rdA (some ⟨gB, 0, none⟩) (VS.take m ++ VS.drop (m + 1))]) H).take 13
                    rw [← HUE.out, ← HVE.out, show (u32V (cs.map fun c => c.1.getD 0 0)).take m ++ (u32V (cs.map fun c => c.1.getD 0 0)).drop (m + 1) = u32V ((cs.take m ++ cs.drop (m + 1)).map fun c => c.1.getD 0 0) by simp [u32V, List.map_take, List.map_drop], show (slV rs).take m ++ (slV rs).drop (m + 1) = slV (rs.take m ++ rs.drop (m + 1)) by simp [slV, List.map_take, List.map_drop]] at H
                    clear hw htn hc0 hc1 hq1 hq2
                    go_wp2
                    go_roundw
                    case rel => exact ⟨i + 1, m + (k - (m + 1)), s1, cs.take m ++ cs.drop (m + 1), rs.take m ++ rs.drop (m + 1), _, _, _, _, rfl, rfl, congrArg _ (by omega), by have := HI.out; omega, HG1.out, HS2.out, by rw [List.length_append, List.length_take, List.length_drop, HCN.out]; omega, by rw [List.map_append, List.map_append, List.map_take, List.map_drop, List.map_take, List.map_drop, HRC.out], by have := HN8.out; omega, by omega, by omega, H⟩
                    case measure => have := HI.out; simp [intOf]; omega
                · rw [if_pos (by rfl)]
                  (refine wp_buildslice0_st H 47 22 rfl Tryz.underlying47 1 size_row ?_; clear H; intro W gB H; refine hK.out _ _ trivial (fun hHeld => ?_); clear hK K); (try simp only [Act.put, List.setIfInBounds_toArray, List.set_cons_zero, List.set_cons_succ, List.getElem_toArray, List.getElem_cons_succ, List.getElem_cons_zero])
                  refine wpAnyH_ready (rs := [0]) (by kernel_rfl) (by simp) (AllReadyH.cons rfl (fun K hK => ?_) AllReadyH.nil)
                  rw [if_pos (by rfl)]
                  (refine wp_buildslice0_st H 56 48 rfl Tryz.underlying56 1 size_u32 ?_; clear H; intro W gA H; refine hK.out _ _ trivial (fun hHeld => ?_); clear hK K); (try simp only [Act.put, List.setIfInBounds_toArray, List.set_cons_zero, List.set_cons_succ, List.getElem_toArray, List.getElem_cons_succ, List.getElem_cons_zero])
                  refine wpAnyH_ready (rs := [4]) (by kernel_rfl) (by simp) (AllReadyH.cons rfl (fun K hK => ?_) AllReadyH.nil)
                  rw [if_pos (by rfl)]
                  (refine wp_append_st H 14 _ _ 56 rfl 48 Tryz.underlying56 (.int .u32 0) 4 info_u32 rfl gA 0 0 rfl [] rfl (by omega) rfl (by simp [maxLen]) ⟨g1, o1, none⟩ m ca rfl (US.take m) (by rw [List.length_take, HUL.out]; omega) (rd_take (H.at 11 rfl) m) (fun u hu => HU1.out u (List.mem_of_mem_take hu)) (by simp only [maxLen]; have := HN8.out; omega) (by have := HN8.out; omega) ?_; clear H; intro W gA capA junkA H hlA hcA hmA; refine hK.out _ _ trivial (fun hHeld => ?_); clear hK K); (try simp only [Act.put, List.setIfInBounds_toArray, List.set_cons_zero, List.set_cons_succ, List.getElem_toArray, List.getElem_cons_succ, List.getElem_cons_zero])
                  refine wpAnyH_ready (rs := [9]) (by kernel_rfl) (by simp) (AllReadyH.cons rfl (fun K hK => ?_) AllReadyH.nil)
                  rw [if_pos (by rfl)]
                  (refine wp_append_st H 14 _ _ 56 rfl 48 Tryz.underlying56 (.int .u32 0) 4 info_u32 rfl gA (0 + m) capA rfl _ rfl hcA hlA hmA ⟨g1, q1, none⟩ (k - (m + 1)) (ca - (m + 1)) rfl (US.drop (m + 1)) (by rw [List.length_drop, HUL.out]) (rd_drop (H.at 11 rfl) (m + 1) HQ3.out) (fun u hu => HU1.out u (List.mem_of_mem_drop hu)) (by simp only [maxLen]; have := HN8.out; omega) (by have := HN8.out; omega) ?_; clear H hcA hlA hmA; intro W gA capA junkA2 H hlA hcA hmA; refine hK.out _ _ trivial (fun hHeld => ?_); clear hK K); (try simp only [Act.put, List.setIfInBounds_toArray, List.set_cons_zero, List.set_cons_succ, List.getElem_toArray, List.getElem_cons_succ, List.getElem_cons_zero])
                  refine wpAnyH_ready (rs := [14]) (by kernel_rfl) (by simp) (AllReadyH.cons rfl (fun K hK => ?_) AllReadyH.nil)
                  rw [if_pos (by rfl)]
                  (refine wp_append_st H 13 _ _ 47 rfl 22 Tryz.underlying47 (.slice none 0 0) 24 info_row rfl gB 0 0 rfl [] rfl (by omega) rfl (by simp [maxLen]) ⟨g2, o2, none⟩ m ch rfl (VS.take m) (by rw [List.length_take, HVL.out]; omega) (rd_take (H.at 12 rfl) m) (fun u hu => HV1.out u (List.mem_of_mem_take hu)) (by simp only [maxLen]; have := HN8.out; omega) (by have := HN8.out; omega) ?_; clear H; intro W gB capB junkB H hlB hcB hmB; refine hK.out _ _ trivial (fun hHeld => ?_); clear hK K); (try simp only [Act.put, List.setIfInBounds_toArray, List.set_cons_zero, List.set_cons_succ, List.getElem_toArray, List.getElem_cons_succ, List.getElem_cons_zero])
                  refine wpAnyH_ready (rs := [19]) (by kernel_rfl) (by simp) (AllReadyH.cons rfl (fun K hK => ?_) AllReadyH.nil)
                  rw [if_pos (by rfl)]
                  (refine wp_append_st H 13 _ _ 47 rfl 22 Tryz.underlying47 (.slice none 0 0) 24 info_row rfl gB (0 + m) capB rfl _ rfl hcB hlB hmB ⟨g2, q2, none⟩ (k - (m + 1)) (ch - (m + 1)) rfl (VS.drop (m + 1)) (by rw [List.length_drop, HVL.out]) (rd_drop (H.at 12 rfl) (m + 1) HQ4.out) (fun u hu => HV1.out u (List.mem_of_mem_drop hu)) (by simp only [maxLen]; have := HN8.out; omega) (by have := HN8.out; omega) ?_; clear H hcB hlB hmB; intro W gB capB junkB2 H hlB hcB hmB; refine hK.out _ _ trivial (fun hHeld => ?_); clear hK K); (try simp only [Act.put, List.setIfInBounds_toArray, List.set_cons_zero, List.set_cons_succ, List.getElem_toArray, List.getElem_cons_succ, List.getElem_cons_zero])
                  (refine wpAnyH_take (i := 20) (v := ?_) rfl (by kernel_rfl) (by kernel_rfl) (by kernel_rfl) (fun _ _ _ h => h) (Or.inl ⟨by rfl, ?_⟩) (by assumption) ?_; rotate_left; focus (intro w hSw; (try dsimp only at hSw); go_simp; all_goals (with_reducible rfl))); (try simp only [Act.put, List.setIfInBounds_toArray, List.set_cons_zero, List.set_cons_succ, List.getElem_toArray, List.getElem_cons_succ, List.getElem_cons_zero])
                  (refine wpAnyH_take (i := 21) (v := ?_) rfl (by kernel_rfl) (by kernel_rfl) (by kernel_rfl) (fun _ _ _ h => h) (Or.inl ⟨by rfl, ?_⟩) (by assumption) ?_; rotate_left; focus (intro w hSw; (try dsimp only at hSw); go_simp; all_goals (with_reducible rfl))); (try simp only [Act.put, List.setIfInBounds_toArray, List.set_cons_zero, List.set_cons_succ, List.getElem_toArray, List.getElem_cons_succ, List.getElem_cons_zero])
                  (refine wpAnyH_done (by kernel_rfl) ?_ _)
                  clear hHeld
                  rw [take_front (US.take m) junkA m (by rw [List.length_take, HUL.out]; omega), take_front (VS.take m) junkB m (by rw [List.length_take, HVL.out]; omega)] at H
                  replace H := ((H.blkRd 14 rfl).blkRd 13 rfl).rowsSub 10 (rs' := rs.take m ++ rs.drop (m + 1)) rfl (fun r hr => (List.mem_append.1 hr).elim List.mem_of_mem_take List.mem_of_mem_drop)
                  replace H : St NoBlk (fun _ => True) w _ ((s1.L ++ [errA, rdA pz (zs.map (Value.int .u16)), rdA (some ⟨gd, od, none⟩) (byteV ds), rowsP (rs.take m ++ rs.drop (m + 1))]) ++ [rdA (some ⟨gB, 0, none⟩) (VS.take m ++ VS.drop (m + 1)), rdA (some ⟨gA, 0, none⟩) (US.take m ++ US.drop (m + 1))]) := (St.swap (A := (s1.L ++ [errA, rdA pz (zs.map (Value.int .u16)), rdA (some ⟨gd, od, none⟩) (byteV ds), rowsP (rs.take m ++ rs.drop (m + 1))])) (E := [rdA (some ⟨g1, o1, none⟩) US, rdA (some ⟨g2, o2, none⟩) VS]) (R := [rdA (some ⟨gB, 0, none⟩) (VS.take m ++ VS.drop (m + 1)), rdA (some ⟨gA, 0, none⟩) (US.take m ++ US.drop (m + 1))]) H).take 13
                  replace H : St NoBlk (fun _ => True) w _ ((s1.L ++ [errA, rdA pz (zs.map (Value.int .u16)), rdA (some ⟨gd, od, none⟩) (byteV ds), rowsP (rs.take m ++ rs.drop (m + 1))]) ++ [rdA (some ⟨gA, 0, none⟩) (US.take m ++ US.drop (m + 1)), rdA (some ⟨gB, 0, none⟩) (VS.take m ++ VS.drop (m + 1))]) := St.swap (A := (s1.L ++ [errA, rdA pz (zs.map (Value.int .u16)), rdA (some ⟨gd, od, none⟩) (byteV ds), rowsP (rs.take m ++ rs.drop (m + 1))])) (E := [rdA (some ⟨gB, 0, none⟩) (VS.take m ++ VS.drop (m + 1))]) (R := [rdA (some ⟨gA, 0, none⟩) (US.take m ++ US.drop (m + 1))]) H
                  rw [← HUE.out, ← HVE.out, show (u32V (cs.map fun c => c.1.getD 0 0)).take m ++ (u32V (cs.map fun c => c.1.getD 0 0)).drop (m + 1) = u32V ((cs.take m ++ cs.drop (m + 1)).map fun c => c.1.getD 0 0) by simp [u32V, List.map_take, List.map_drop], show (slV rs).take m ++ (slV rs).drop (m + 1) = slV (rs.take m ++ rs.drop (m + 1)) by simp [slV, List.map_take, List.map_drop]] at H
                  clear hw htn hc0 hc1 hq1 hq2
                  go_wp2
                  go_roundw
                  case rel => exact ⟨i + 1, m + (k - (m + 1)), s1, cs.take m ++ cs.drop (m + 1), rs.take m ++ rs.drop (m + 1), _, _, _, _, rfl, rfl, congrArg _ (by omega), by have := HI.out; omega, HG1.out, HS2.out, by rw [List.length_append, List.length_take, List.length_drop, HCN.out]; omega, by rw [List.map_append, List.map_append, List.map_take, List.map_drop, List.map_take, List.map_drop, HRC.out], by have := HN8.out; omega, by omega, by omega, H⟩
                  case measure => have := HI.out; simp [intOf]; omega

end Go.Proofs.YtlgciddnpinpbaaGreatDoor

namespace Go.Proofs.YtlgciddnpinpbaaGreatDoor
open Go.RowKit
set_option linter.unusedSimpArgs false
set_option linter.unusedVariables false
set_option maxRecDepth 40000

theorem chainKeeps_many (w : World) (pz : Option Addr) (n cz : Nat) (pd : Option Addr) (m cd : Nat) (x : UInt8) (h : 8 < n ∨ 20 < m) (hg : errA.prop w) :
    Calls Tryz.prog 6 #[.slice pz n cz, .slice pd m cd, .int .u8 (x.toNat : Int)] w fun e w' => e = .returned (.bool true) ∧ Below w.heap.size w w' := by
  have H := St.err hg
  clear hg
  by_cases h1 : 8 < (n : Int)
  · clear h
    go_enter Tryz.func6, Tryz.ntmps6
    go_wp2_with (first
      | (go_at_call 28; go_loud ((refine (begun22_calls _ (H.at 0 rfl)).mono ?_); rintro e W ⟨rfl, hb⟩; replace H := H.stay (Fix.of_below hb _); clear hb)))
    go_ret
    exact ⟨rfl, H.fix.below⟩
  · have h2 : 20 < (m : Int) := by omega
    clear h
    go_enter Tryz.func6, Tryz.ntmps6
    go_wp2_with (first
      | (go_at_call 28; go_loud ((refine (begun22_calls _ (H.at 0 rfl)).mono ?_); rintro e W ⟨rfl, hb⟩; replace H := H.stay (Fix.of_below hb _); clear hb)))
    go_ret
    exact ⟨rfl, H.fix.below⟩

theorem chainKeeps_calls (w : World) (pz : Option Addr) (zs : List Int) (cz : Nat) (pd : Option Addr) (ds : List UInt8) (cd : Nat) (x : UInt8) (hz : ∀ z ∈ zs, 0 ≤ z ∧ z ≤ 65535) (hg : errA.prop w) (ha : (rdA pz (zs.map (Value.int .u16))).prop w) (hb : (rdA pd (byteV ds)).prop w) :
    Calls Tryz.prog 6 #[.slice pz zs.length cz, .slice pd ds.length cd, .int .u8 (x.toNat : Int)] w fun e w' => e = .returned (.bool true) ∧ Below w.heap.size w w' := by
  by_cases h : zs.length ≤ 8 ∧ ds.length ≤ 20
  · exact chainKeeps_short w pz zs cz pd ds cd x h.1 h.2 hz hg ha hb
  · exact chainKeeps_many w pz zs.length cz pd ds.length cd x (by omega) hg

end Go.Proofs.YtlgciddnpinpbaaGreatDoor

namespace Go.Proofs.YtlgciddnpinpbaaGreatDoor
open Go.ChangeShapes Go.WideShapes Go.ChangeAt Go.RowKit
set_option linter.unusedSimpArgs false
set_option linter.unusedVariables false
set_option maxRecDepth 40000


theorem open_u16A {H : Type} {enc : TypeId × Value → H} {W : World} {base : Nat} {v : Value} {d : DataW H} {p : List MemPlace} (hval : Value.okWide Tryz.prog W .any base 53 v) (h : DataW.Trod enc Tryz.prog W 0 (fun _ => true) true 53 v d p) :
    ∃ q l cap, v = .slice q (List.length l) cap ∧ (rdA q (l.map (Value.int .u16))).prop W ∧ ∀ z ∈ l, 0 ≤ z ∧ z ≤ 65535 := by
  obtain ⟨a1, len, cap, rfl⟩ := okWide_slice Tryz.underlying53 hval
  obtain ⟨fuel, hf⟩ := h
  have hc : Tryz.prog.cellsOf 57 = 1 := by kernel_rfl
  rcases open_ints Tryz.underlying53 Tryz.underlying57 hc hf with ⟨hcs, hx⟩ | ⟨a, len', cap', zs, hcs, _, hl, hm, hz, hx, hcell, hwz⟩
  · simp [Value.cells] at hcs
    obtain ⟨rfl, rfl, rfl⟩ := hcs
    exact ⟨none, [], 0, rfl, .inl rfl, fun z hz => (List.not_mem_nil hz).elim⟩
  · simp [Value.cells] at hcs
    obtain ⟨rfl, rfl, rfl⟩ := hcs
    simp only [if_true] at hz
    have hlen : (zs.take len).length = len := by simp; omega
    refine ⟨some a, zs.take len, cap, by rw [hlen], ?_, fun z hz => bounds_u16 (hwz z (List.mem_of_mem_take hz))⟩
    by_cases h0 : len = 0
    · left; subst h0; simp
    · obtain ⟨ab, ao, spot⟩ := a
      have hspot : spot = none := by simpa [Addr.add] using World.cell?_spot (hcell 0 (by omega))
      subst hspot
      refine .inr ⟨ab, ao, rfl, ?_, fun i x hi => ?_⟩
      · have := World.block_lt_of_cell? W _ (hcell 0 (by omega))
        simpa [Addr.add] using this
      · have hi1 : i < len := by have := (List.getElem?_eq_some_iff.1 hi).1; simp only [List.length_map] at this; simp at this; omega
        have hci := hcell i (by omega)
        rw [Addr.add_lit] at hci
        rw [hci]
        have hzi : i < zs.length := by omega
        simp only [List.getElem?_map, List.getElem?_take_of_lt hi1, List.getElem?_eq_getElem hzi, Option.map_some, Option.some.injEq] at hi
        rw [← hi, List.getD_eq_getElem?_getD, List.getElem?_eq_getElem hzi, Option.getD_some]

end Go.Proofs.YtlgciddnpinpbaaGreatDoor
