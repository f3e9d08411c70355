/- Texts of this proof, packed: ChainReads: the rows grow; the law's start and what follows it. -/
import Derived.Test.YtlgciddnpinpbaaGreatDoorPkChRowReads5
import Derived.Deep.Slices
import Derived.Deep.Strs

namespace Go.Proofs.YtlgciddnpinpbaaGreatDoor
open Go.RowKit
set_option linter.unusedSimpArgs false
set_option linter.unusedVariables false
set_option maxRecDepth 40000

theorem rowsB_nil (v : Nat → List UInt8) (W : World) : (rowsB [] v).prop W := ⟨fun p h => (List.not_mem_nil h).elim, fun k p h => by simp at h⟩

theorem rowsB_more {ps : List (Nat × Nat × Nat)} {v : Nat → List UInt8} {W : World} {g off cap : Nat} {l : List UInt8} (hA : (rowsB ps v).prop W) (hB : (ownB g off l).prop W) (e : v ps.length = l) (hc : 248 ≤ cap) : (rowsB (ps ++ [(g, off, cap)]) v).prop W := by
  refine ⟨fun p hp => ?_, fun k p hp => ?_⟩
  · rcases List.mem_append.1 hp with h | h
    · exact hA.1 p h
    · obtain rfl := List.mem_singleton.1 h
      exact (ownB g off l).bound W hB g (.inl rfl)
  · rcases Nat.lt_trichotomy k ps.length with h | h | h
    · rw [List.getElem?_append_left h] at hp
      exact hA.2 k p hp
    · subst h
      simp at hp
      subst hp
      exact ⟨by rw [e]; exact ownB_bytes hB, hc⟩
    · rw [List.getElem?_eq_none (by simp; omega)] at hp
      cases hp

theorem rowsB_set {ps : List (Nat × Nat × Nat)} {v v' : Nat → List UInt8} {W : World} {g off cap k : Nat} {l : List UInt8} (hA : (rowsB ps v).prop W) (hB : (ownB g off l).prop W) (hv : ∀ j, v' j = if j = k then l else v j) (hc : 248 ≤ cap) : (rowsB (ps.set k (g, off, cap)) v').prop W := by
  refine ⟨fun p hp => ?_, fun j p hp => ?_⟩
  · rcases List.mem_or_eq_of_mem_set hp with h | h
    · exact hA.1 p h
    · subst h
      exact (ownB g off l).bound W hB g (.inl rfl)
  · rw [List.getElem?_set] at hp
    split at hp
    · rename_i e
      split at hp
      · cases hp
        exact ⟨by rw [hv, if_pos e.symm]; exact ownB_bytes hB, hc⟩
      · cases hp
    · rename_i e
      rw [hv, if_neg (fun x => e x.symm)]
      exact hA.2 j p hp

theorem rowsB_rd {ps : List (Nat × Nat × Nat)} {v v' : Nat → List UInt8} {g off cap : Nat} {l : List UInt8} (k : Nat) (h : (rowsB (ps ++ [(g, off, cap)]) v').rd k) : ((rowsB ps v).own k ∨ (rowsB ps v).rd k) ∨ ((ownB g off l).own k ∨ (ownB g off l).rd k) := by
  obtain ⟨p, hp, rfl⟩ := h
  rcases List.mem_append.1 hp with h | h
  · exact .inl (.inr ⟨p, h, rfl⟩)
  · obtain rfl := List.mem_singleton.1 h
    exact .inr (.inl rfl)

theorem rowsB_rd_set {ps : List (Nat × Nat × Nat)} {v v' : Nat → List UInt8} {g off cap i : Nat} {l : List UInt8} (k : Nat) (h : (rowsB (ps.set i (g, off, cap)) v').rd k) : ((rowsB ps v).own k ∨ (rowsB ps v).rd k) ∨ ((ownB g off l).own k ∨ (ownB g off l).rd k) := by
  obtain ⟨p, hp, rfl⟩ := h
  rcases List.mem_or_eq_of_mem_set hp with h | h
  · exact .inl (.inr ⟨p, h, rfl⟩)
  · subst h
    exact .inr (.inl rfl)

theorem rows_put (ps : List (Nat × Nat × Nat)) (n i g off cap : Nat) (h : ps.length = i) (hi : i < n) :
    (rowsV ps ++ List.replicate (n - i) (Value.slice none 0 0)).toArray.setIfInBounds i (Value.slice (some ⟨g, off, none⟩) 248 cap) = (rowsV (ps ++ [(g, off, cap)]) ++ List.replicate (n - (i + 1)) (Value.slice none 0 0)).toArray := by
  have hl : (rowsV ps).length = i := by simp [rowsV, h]
  obtain ⟨m, hm⟩ : ∃ m, n - i = m + 1 := ⟨n - i - 1, by omega⟩
  rw [hm, show n - (i + 1) = m by omega, List.setIfInBounds_toArray, List.set_append_right _ _ (by omega), hl, Nat.sub_self, List.replicate_succ, List.set_cons_zero]
  simp [rowsV]

end Go.Proofs.YtlgciddnpinpbaaGreatDoor

namespace Go.Proofs.YtlgciddnpinpbaaGreatDoor
open Go.ChangeShapes Go.WideShapes Go.ChangeAt Go.RowKit
set_option linter.unusedSimpArgs false
set_option linter.unusedVariables false
set_option maxRecDepth 40000

theorem flat_get (f : Nat → List Value) (s : Nat) : ∀ n, (∀ i, i < n → (f i).length = s) → ((List.range n).flatMap f).length = n * s ∧ ∀ k x, ((List.range n).flatMap f)[k]? = some x → ∃ i j, i < n ∧ k = i * s + j ∧ (f i)[j]? = some x
  | 0, _ => ⟨by simp, fun k x h => by simp at h⟩
  | n + 1, hf => by
    obtain ⟨h1, h2⟩ := flat_get f s n (fun i hi => hf i (by omega))
    have e : (List.range (n + 1)).flatMap f = (List.range n).flatMap f ++ f n := by rw [List.range_succ, List.flatMap_append]; simp
    refine ⟨by rw [e, List.length_append, h1, hf n (by omega), Nat.succ_mul], fun k x h => ?_⟩
    rw [e] at h
    rcases Nat.lt_or_ge k (n * s) with hk | hk
    · rw [List.getElem?_append_left (by rw [h1]; exact hk)] at h
      obtain ⟨i, j, a, b, c⟩ := h2 k x h
      exact ⟨i, j, by omega, b, c⟩
    · rw [List.getElem?_append_right (by rw [h1]; exact hk), h1] at h
      exact ⟨n, k - n * s, by omega, by omega, h⟩

theorem rdA_rows {W : World} {b o len s : Nat} (f : Nat → List Value) (hs : ∀ i, i < len → (f i).length = s) (hc : ∀ i, i < len → ∀ j v, (f i)[j]? = some v → W.cell? ⟨b, o + (i * s + j), none⟩ = some v) :
    (rdA (some ⟨b, o, none⟩) ((List.range len).flatMap f)).prop W := by
  obtain ⟨h1, h2⟩ := flat_get f s len hs
  rcases Nat.eq_zero_or_pos (len * s) with h0 | h0
  · left
    rw [h0] at h1
    exact List.eq_nil_of_length_eq_zero h1
  · right
    refine ⟨b, o, rfl, ?_, fun k x hk => ?_⟩
    · obtain ⟨x, hx⟩ : ∃ x, ((List.range len).flatMap f)[0]? = some x := ⟨_, List.getElem?_eq_getElem (by rw [h1]; exact h0)⟩
      obtain ⟨i, j, hi, _, hj⟩ := h2 0 x hx
      exact World.block_lt_of_cell? W _ (hc i hi j x hj)
    · obtain ⟨i, j, hi, rfl, hj⟩ := h2 k x hk
      exact hc i hi j x hj

/-- A slice of structs: of each element what its cells are. -/
theorem open_rowsA {H : Type} {enc : TypeId × Value → H} {W : World} {v : Value} {d : DataW H} {p : List MemPlace} {T e : TypeId} (s : Nat) {α : Type} [Inhabited α] (g : α → List Value) (ht : Tryz.prog.underlying T = some (.slice e)) (hc : Tryz.prog.cellsOf e = s) (hs0 : 0 < s)
    (hv : ∃ a1 len cap, v = .slice a1 len cap)
    (hel : ∀ n cs x, DataW.trod enc Tryz.prog W 0 (fun _ => true) true n e cs = some x → cs.length = s → ∃ y : α, cs = g y) (h : DataW.Trod enc Tryz.prog W 0 (fun _ => true) true T v d p) :
    ∃ q l cap, v = .slice q (List.length l) cap ∧ (rdA q (l.flatMap g)).prop W := by
  obtain ⟨a1, len, cap, rfl⟩ := hv
  obtain ⟨fuel, hf⟩ := h
  rcases Go.Deep.open_slice ht hf with ⟨hcs, hx⟩ | ⟨a, len', cap', m, n, D, Pl, hcs, _, hl, hm, hmm, hx, hE⟩
  · simp [Value.cells] at hcs
    obtain ⟨rfl, rfl, rfl⟩ := hcs
    exact ⟨none, [], 0, rfl, .inl rfl⟩
  · simp [Value.cells] at hcs
    obtain ⟨rfl, rfl, rfl⟩ := hcs
    simp only [if_true] at hmm
    subst hmm
    have each : ∀ i, i < len → ∃ y : α, (g y).length = s ∧ ∀ j v, (g y)[j]? = some v → W.cell? ((a.add (i * s)).add j) = some v := by
      intro i hi
      obtain ⟨cs', h1, h2⟩ := hE i (by omega)
      obtain ⟨_, hlen, hcell⟩ := World.cells?_some h1
      rw [hc] at hlen hcell
      obtain ⟨y, rfl⟩ := hel _ _ _ h2 hlen
      exact ⟨y, hlen, fun j v hj => by rw [hcell j (by have := (List.getElem?_eq_some_iff.1 hj).1; omega)]; exact hj⟩
    obtain ⟨f, hf⟩ := Go.Deep.choose_lt each
    refine ⟨some a, (List.range len).map f, _, by rw [List.length_map, List.length_range], ?_⟩
    rw [List.flatMap_map]
    rcases Nat.eq_zero_or_pos len with h0 | h0
    · subst h0; left; rfl
    · obtain ⟨ab, ao, spot⟩ := a
      have h1 := hf 0 h0
      obtain ⟨x, hx⟩ : ∃ x, (g (f 0))[0]? = some x := ⟨_, List.getElem?_eq_getElem (by rw [h1.1]; exact hs0)⟩
      have hc0 := h1.2 0 x hx
      have hspot : spot = none := by simpa [Addr.add] using World.cell?_spot hc0
      subst hspot
      refine rdA_rows (s := s) (fun i => g (f i)) (fun i hi => (hf i hi).1) (fun i hi j v hj => ?_)
      have := (hf i hi).2 j v hj
      rw [Addr.add_lit, Addr.add_lit, Nat.add_assoc] at this
      exact this

end Go.Proofs.YtlgciddnpinpbaaGreatDoor

namespace Go.Proofs.YtlgciddnpinpbaaGreatDoor
open Go.ChangeShapes Go.WideShapes Go.ChangeAt Go.RowKit
set_option linter.unusedSimpArgs false
set_option linter.unusedVariables false
set_option maxRecDepth 40000

/-- One slice of bytes, from its reading. -/
theorem trod_bytes {H : Type} {enc : TypeId × Value → H} {W : World} {n : Nat} {cs : List Value} {x : DataW H × List MemPlace} (hf : DataW.trod enc Tryz.prog W 0 (fun _ => true) true n 22 cs = some x) :
    ∃ q l cap, cs = [.slice q (List.length l) cap] ∧ (rdA q (byteV l)).prop W := by
  have hc : Tryz.prog.cellsOf 5 = 1 := by kernel_rfl
  rcases open_ints Tryz.underlying22 Tryz.underlying5 hc hf with ⟨hcs, hx⟩ | ⟨a, len, cap, zs, hcs, _, hl, hm, hz, hx, hcell, hwz⟩
  · exact ⟨none, [], 0, hcs, .inl rfl⟩
  · simp only [if_true] at hz
    have hlen : ((zs.take len).map fun n => UInt8.ofNat n.toNat).length = len := by simp; omega
    refine ⟨some a, (zs.take len).map fun n => UInt8.ofNat n.toNat, cap, by rw [hlen]; exact hcs, ?_⟩
    by_cases h0 : len = 0
    · left; subst h0; simp [byteV]
    · obtain ⟨ab, ao, spot⟩ := a
      have hspot : spot = none := by simpa [Addr.add] using World.cell?_spot (hcell 0 (by omega))
      subst hspot
      refine .inr ⟨ab, ao, rfl, ?_, fun i x hi => ?_⟩
      · have := World.block_lt_of_cell? W _ (hcell 0 (by omega))
        simpa [Addr.add] using this
      · have hi1 : i < len := by have := (List.getElem?_eq_some_iff.1 hi).1; simp only [byteV, List.length_map] at this; simp at this; omega
        have hci := hcell i (by omega)
        rw [Addr.add_lit] at hci
        rw [hci]
        have hzi : i < zs.length := by omega
        have hw := bounds_u8 (hwz _ (List.getElem_mem hzi))
        rw [byteV_get] at hi
        simp only [List.getElem?_map, List.getElem?_take_of_lt hi1, List.getElem?_eq_getElem hzi, Option.map_some, Option.some.injEq] at hi
        rw [← hi, List.getD_eq_getElem?_getD, List.getElem?_eq_getElem hzi, Option.getD_some]
        congr 2
        rw [UInt8.toNat_ofNat']
        omega

/-- A row of a slice of byte slices, with what it reads. -/
structure ByteRow (W : World) where
  p : Option Addr
  l : List UInt8
  cap : Nat
  ok : (rdA p (byteV l)).prop W

instance (W : World) : Inhabited (ByteRow W) := ⟨⟨none, [], 0, .inl rfl⟩⟩
def ByteRow.val {W : World} (y : ByteRow W) : List Value := [.slice y.p y.l.length y.cap]

theorem open_byteRowsA {H : Type} {enc : TypeId × Value → H} {W : World} {base : Nat} {v : Value} {d : DataW H} {p : List MemPlace} (hval : Value.okWide Tryz.prog W .any base 47 v) (h : DataW.Trod enc Tryz.prog W 0 (fun _ => true) true 47 v d p) :
    ∃ (q : Option Addr) (rs : List (ByteRow W)) (cap : Nat), v = .slice q rs.length cap ∧ (rdA q (rs.flatMap ByteRow.val)).prop W :=
  open_rowsA 1 (ByteRow.val (W := W)) Tryz.underlying47 (by kernel_rfl) (by omega) (okWide_slice Tryz.underlying47 hval) (fun n cs x ht _ => by
    obtain ⟨q, l, cap, e, hr⟩ := trod_bytes ht
    exact ⟨⟨q, l, cap, hr⟩, e⟩) h

end Go.Proofs.YtlgciddnpinpbaaGreatDoor

namespace Go.Proofs.YtlgciddnpinpbaaGreatDoor
open Go.RowKit
set_option linter.unusedSimpArgs false
set_option linter.unusedVariables false
set_option maxRecDepth 40000

section
variable {rest : List Oper} {ops : Array Oper} {o : Oper} {a : Act} {Q : Exit → Act → World → Prop} {M0 R0 : Nat → Prop} {w0 W : World} {L : List Asrt} {P : Program}
theorem wpList_copy_part (H : St M0 R0 w0 W L) (i : Nat) (hwt : Region.wanted o (yielded ops a.tmps) = true) (d s : Operand) (dT sT : TypeId)
    (ho : o.op = .call { callee := .builtin .copy, args := #[d, s], argTypes := #[dT, sT] }) (elem : TypeId) (hu : P.underlying dT = some (.slice elem)) (hsz : (P.info? elem).map (·.size) = some 1)
    (g dLen dCap : Nat) (hd : a.eval d = .slice (some ⟨g, 0, none⟩) dLen dCap) (p : Option Addr) (l : List UInt8) (cap : Nat) (hs : a.eval s = .slice p l.length cap) (hb : (rdA p (byteV l)).prop W)
    (cs : List Value) (t : TypeId) (hi : L[i]? = some (blk g (.cells cs.toArray t (0, 0)))) (hfit : dLen = cs.length)
    (h : ∀ W', St M0 R0 w0 W' (L.set i (blk g (.cells (byteV (l.take dLen) ++ cs.drop (l.take dLen).length).toArray t (0, 0)))) → wpList P ops Q rest (a.put o.dst (goInt (l.take dLen).length)) W') :
    wpList P ops Q (o :: rest) a W := by
  refine wpList_want hwt fun K hK => ?_
  have hg := H.at i hi
  obtain ⟨l', hl'⟩ : ∃ l', l.take dLen = l' := ⟨_, rfl⟩
  have hlen : l'.length = Nat.min l.length dLen := by rw [← hl', List.length_take]; exact Nat.min_comm _ _
  have hml : l'.length ≤ dLen := by rw [hlen]; exact Nat.min_le_right _ _
  rw [hl'] at h
  have key : ∃ W', (Builtin.copy_ #[dT, sT] o.type #[.slice (some ⟨g, 0, none⟩) dLen dCap, .slice p l.length cap]).run P W = .ok (goInt l'.length) W' ∧ St M0 R0 w0 W' (L.set i (blk g (.cells (byteV l' ++ cs.drop l'.length).toArray t (0, 0)))) := by
    by_cases hl : l = []
    · subst hl
      have e0 : l' = [] := by rw [← hl']; simp
      subst e0
      have hset : L.set i (blk g (.cells (byteV [] ++ cs.drop 0).toArray t (0, 0))) = L := by
        have hlt : i < L.length := (List.getElem?_eq_some_iff.1 hi).1
        have e : L[i] = blk g (.cells cs.toArray t (0, 0)) := (List.getElem?_eq_some_iff.1 hi).2
        simp only [byteV, List.map_nil, List.nil_append, List.drop_zero]
        rw [← e]; exact List.set_getElem_self hlt
      simp only [List.length_nil]
      rw [hset]
      exact ⟨W, run_copy_none W dT sT o.type elem _ _ _ _ _ _ hu hsz (by simp), H⟩
    · rcases hb with e | ⟨gs, off, rfl, _, hat⟩
      · exact absurd (by simpa [byteV] using e) hl
      · have hst := run_storeCells_at P g 0 t (byteV l') 0 _ W hg (by simp; omega) (byteV_one _)
        simp only [Nat.add_zero, byteV_length, List.take_zero, List.nil_append, Nat.zero_add, List.toList_toArray] at hst
        refine ⟨_, ?_, H.setRow i hi (byteV l' ++ cs.drop l'.length).toArray⟩
        cases hq : P.info? elem with
        | none => simp [hq] at hsz
        | some j =>
          have hj : j.size = 1 := by simpa [hq] using hsz
          have hfc := run_firstCells_some (P := P) W j.size l'.length ⟨gs, off, none⟩ l.length cap (byteV l') (by rw [hj]; simp) (fun q u hu => by
            rw [Addr.add_lit]
            refine hat q u ?_
            rw [byteV_get] at hu ⊢
            rw [← hl', List.getElem?_take] at hu
            split at hu
            · exact hu
            · cases hu)
          simp [Builtin.copy_, run_underlying hu, Builtin.lenOf, sizeOf, typeInfo, hq, ← hlen, hfc, hst]
  obtain ⟨W', hrun, H'⟩ := key
  unfold Oper.wp
  simp [execOp, ho, resolve, invoke, builtin, hd, hs, hrun, Result.andThen]
  have := hK _ _ (h W' H')
  exact this
end

theorem val_get {w : World} (rs : List (ByteRow w)) (j : Nat) (hj : j < rs.length) : (rs.flatMap ByteRow.val)[j]? = some (.slice rs[j].p rs[j].l.length rs[j].cap) := by
  have e : rs.flatMap ByteRow.val = rs.map fun y => Value.slice y.p y.l.length y.cap := by
    clear hj
    induction rs with
    | nil => rfl
    | cons y r ih => rw [List.flatMap_cons, ih]; rfl
  rw [e, List.getElem?_map, List.getElem?_eq_getElem hj]; rfl

/-- A row of bytes, cut or filled up to 248. -/
def padR (l : List UInt8) : List UInt8 := l.take 248 ++ List.replicate (248 - (l.take 248).length) 0
theorem padR_len (l : List UInt8) : (padR l).length = 248 := by simp [padR, List.length_take]; omega
theorem padR_row (l : List UInt8) : byteV (l.take 248) ++ (List.replicate 248 (Value.int .u8 0)).drop (l.take 248).length = byteV (padR l) ++ [] := by
  rw [List.append_nil, padR, List.drop_replicate]
  simp [byteV]

end Go.Proofs.YtlgciddnpinpbaaGreatDoor

namespace Go.Proofs.YtlgciddnpinpbaaGreatDoor
open Go.RowKit
set_option linter.unusedSimpArgs false
set_option linter.unusedVariables false
set_option maxRecDepth 40000

theorem rowsV_put (ps : List (Nat × Nat × Nat)) (k g off cap : Nat) : (rowsV ps).toArray.setIfInBounds k (Value.slice (some ⟨g, off, none⟩) 248 cap) = (rowsV (ps.set k (g, off, cap))).toArray := by
  rw [List.setIfInBounds_toArray]
  simp [rowsV, List.map_set]

theorem rdA_of_row {W : World} {g : Nat} {xs : List Value} {t : TypeId} (h : W.heap[g]? = some (.cells xs.toArray t (0, 0))) : (rdA (some ⟨g, 0, none⟩) xs).prop W :=
  .inr ⟨g, 0, rfl, (Array.getElem?_eq_some_iff.1 h).1, fun i x hi => by rw [Nat.zero_add]; exact row_cell h (by simpa using hi)⟩

section
variable {rest : List Oper} {ops : Array Oper} {o : Oper} {a : Act} {Q : Exit → Act → World → Prop} {W : World} {P : Program}
/-- string(b) of a row of ours. -/
theorem wpList_bytes_strO (hwt : Region.wanted o (yielded ops a.tmps) = true) (src dst : TypeId) (x : Operand) (ho : o.op = .convert src dst x) (p : Option Addr) (n cap : Nat) (hx : a.eval x = .slice p n cap)
    (e : TypeId) (hs : P.underlying src = some (.slice e)) (he : P.underlying e = some (.int .u8)) (hd : P.underlying dst = some .string) (l : List UInt8) (hn : n = l.length) (t : TypeId) (hb : (ownS t 1 p n cap (byteV l)).prop W)
    (h : wpList P ops Q rest (a.put o.dst (.string ⟨l.toArray⟩)) W) : wpList P ops Q (o :: rest) a W := by
  rcases hb.2 with ⟨e1, h0⟩ | ⟨g, cap', cur, e1, hbg, hg, h3, h4, h5, h6⟩
  · cases e1
    have hl : l = [] := List.eq_nil_of_length_eq_zero (by omega)
    subst hl
    refine wpList_want hwt fun K hK => ?_
    have hrun := run_convert_bytes_nil (P := P) (w := W) src e hs he 0 0 dst hd
    unfold Oper.wp execOp
    simp only [ho, hx, Sem.run_bind, hrun, Result.andThen_ok, Sem.run_pure]
    exact hK _ _ h
  · cases e1
    refine wpList_bytes_str hwt src dst x ho g 0 n cap hx e hs he hd l (fun i hi => ?_) hn h
    have hr := ownS_rd hb
    rcases hr with h0 | ⟨g2, off, e2, _, hat⟩
    · have := congrArg List.length h0
      simp [byteV] at this
      subst this; simp at hi
    · cases e2
      exact hat i _ (by rw [byteV_get, List.getElem?_eq_getElem hi]; rfl)
end

set_option maxRecDepth 100000 in
set_option maxHeartbeats 16000000 in
theorem chainReads_short (w : World) (pl : Option Addr) (rs : List (ByteRow w)) (cl : Nat) (first : Nat) (pa : Option Addr) (ats : List UInt8) (ca : Nat) (h1 : rs.length ≤ 10) (h2 : ats.length ≤ 10) (hf : first < 4294967296) (hg : errA.prop w) (ha : (rdA pl (rs.flatMap ByteRow.val)).prop w) (hb : (rdA pa (byteV ats)).prop w) :
    Calls Tryz.prog 5 #[.slice pl rs.length cl, .int .u32 (first : Int), .slice pa ats.length ca] w fun e w' => e = .returned (.bool true) ∧ Below w.heap.size w w' := by
  have H := St.reads_only (w := w) [errA, rdA pl (rs.flatMap ByteRow.val), rdA pa (byteV ats)] (by
    intro B hB
    simp only [List.mem_cons, List.not_mem_nil, or_false] at hB
    rcases hB with rfl | rfl | rfl
    · exact ⟨hg, fun _ h => h⟩
    · exact ⟨ha, fun _ h => h⟩
    · exact ⟨hb, fun _ h => h⟩)
  have hl1 : (rs.length : Int) ≤ 10 := by omega
  have hl2 : (ats.length : Int) ≤ 10 := by omega
  have hl3 : ¬ (10 < (rs.length : Int)) := by omega
  have hl4 : ¬ (10 < (ats.length : Int)) := by omega
  have HL1 := Lib.hid h1
  have HF9 := Lib.hid hf
  have hf0 : 0 ≤ (first : Int) := by omega
  clear hg ha hb h1 h2 hf
  go_enter Tryz.func5, Tryz.ntmps5
  go_wp2_with (first
    | (go_at_call 28; go_loud ((refine (begun22_calls _ (H.at 0 rfl)).mono ?_); rintro e W ⟨rfl, hb⟩; replace H := H.stay (Fix.of_below hb _); clear hb))
    | (go_at_call 29; go_loud ((refine (new21_calls H _ 60 34 rfl rfl (by omega) (by omega)).mono ?_); clear H; rintro e W ⟨s, rfl, hnew, H⟩; have HS := Lib.hid hnew; have HO := Lib.hid hnew.ok; have HN := Lib.hid hnew.cnt; clear hnew))
    | (go_at_call 27; go_loud ((refine (homes_TX (s := s) (H.take 7).bundle HO.out (z := 34) (by rw [HN.out]; rfl)).mono ?_); rintro e W ⟨rfl, hto⟩; replace H := hto.front (R := [errA, rdA pl (rs.flatMap ByteRow.val), rdA pa (byteV ats)]) H; clear hto))
    | (refine wpList_make2_st H rfl 47 _ _ rfl _ Tryz.underlying47 (.slice none 0 0) 24 (by kernel_rfl) rfl 34 34 rfl rfl (by omega) (by omega) (by simp only [maxLen]; omega) ?_; clear H; intro W gh H))
  replace H := H.add (Fix.refl _ _) (rowsB [] s.v) (rowsB_nil s.v _) (fun k hk => hk.elim) (fun k hk => by obtain ⟨p, hp, _⟩ := hk; exact (List.not_mem_nil hp).elim)
  go_loopw [10] (fun u wr => ∃ (i : Nat) (ps : List (Nat × Nat × Nat)), u = .int .i64 (i : Int) ∧ i ≤ 34 ∧ ps.length = i ∧ St NoBlk (fun _ => True) w wr (s.L ++ [errA, rdA pl (rs.flatMap ByteRow.val), rdA pa (byteV ats), blk gh (.cells (rowsV ps ++ List.replicate (34 - i) (Value.slice none 0 0)).toArray 22 (0, 0)), rowsB ps s.v])) (fun u _ => 34 - (intOf u).toNat)
  case atStart => exact ⟨0, [], rfl, Nat.zero_le _, rfl, H⟩
  case round =>
    clear H
    obtain ⟨i, ps, rfl, hi, hpl, H⟩ := hrel
    have hi0 : 0 ≤ (i : Int) := by omega
    rcases Nat.lt_or_ge i 34 with hlt | hge
    · have hii : (i : Int) < 34 := by omega
      have HI := Lib.hid hlt
      have HPL := Lib.hid hpl
      go_upto_region 11 with fail
      go_wp2_with (first
        | (go_at_call 19; go_loud ((refine (rd_TX (s := s) (H.take 7).bundle HO.out _ i rfl (by rw [HN.out]; exact HI.out)).mono ?_); rintro e W ⟨gc, off, cap, rfl, _, hcap, hgc, hto⟩; replace H := hto.front2 (R := [errA, rdA pl (rs.flatMap ByteRow.val), rdA pa (byteV ats), blk gh (.cells (rowsV ps ++ List.replicate (34 - i) (Value.slice none 0 0)).toArray 22 (0, 0)), rowsB ps s.v]) H; clear hto))
        | (refine wpList_store1_st H 10 rfl 22 _ _ rfl gh i (.slice (some ⟨gc, off, none⟩) 248 cap) rfl rfl rfl _ _ rfl (by kernel_rfl) (by simp [rowsV]; have := HPL.out; have := HI.out; omega) ?_; clear H; intro W H))
      go_roundw
      case rel =>
        refine ⟨i + 1, ps ++ [(gc, off, cap)], congrArg _ (by omega), HI.out, by rw [List.length_append, HPL.out]; rfl, ?_⟩
        rw [rows_put ps 34 i gc off cap HPL.out HI.out] at H
        replace H : St NoBlk (fun _ => True) w _ (s.L ++ [errA, rdA pl (rs.flatMap ByteRow.val), rdA pa (byteV ats), blk gh (.cells (rowsV (ps ++ [(gc, off, cap)]) ++ List.replicate (34 - (i + 1)) (Value.slice none 0 0)).toArray 22 (0, 0)), rowsB ps s.v, ownB gc off (s.v i)]) := H
        exact (H.join 12 11 (A' := rowsB (ps ++ [(gc, off, cap)]) s.v) rfl rfl (rowsB_more (H.at 11 rfl) (H.at 12 rfl) (by rw [HPL.out]) hcap) (fun k hk => hk.elim) (fun k hk => rowsB_rd k hk)).take 12
      case measure => have := HI.out; simp [intOf]; omega
    · obtain rfl : i = 34 := by omega
      rw [Nat.sub_self, List.replicate_zero, List.append_nil] at H
      obtain ⟨G, hG⟩ : ∃ G, s.g = G := ⟨_, rfl⟩
      have HG := Lib.hid hG
      rw [hG]
      have HPL := Lib.hid hpl
      clear hG hge hi hpl
      rw [show (((34 : Nat) : Int)) = (34 : Int) from rfl]
      go_upto_region 13 with fail
      go_loopw [11] (fun u wr => ∃ (j : Nat) (s : TX) (v : Nat → List UInt8) (ps : List (Nat × Nat × Nat)), u = .int .i64 (j : Int) ∧ j ≤ rs.length ∧ s.g = G ∧ s.n = 34 ∧ s.Ok 0 ∧ ps.length = 34 ∧ (∀ x, x < 34 → v x = s.v x) ∧ St NoBlk (fun _ => True) w wr (s.L ++ [errA, rdA pl (rs.flatMap ByteRow.val), rdA pa (byteV ats), blk gh (.cells (rowsV ps).toArray 22 (0, 0)), rowsB ps v])) (fun u _ => rs.length - (intOf u).toNat)
      case atStart => exact ⟨0, s, s.v, ps, rfl, Nat.zero_le _, HG.out, HN.out, HO.out, HPL.out, fun _ _ => rfl, H⟩
      case round =>
        clear H HG HS HO HN HPL
        obtain ⟨j, s, v, ps, rfl, hj, hg, hn, ho, hpl, hvv, H⟩ := hrel
        have hj0 : 0 ≤ (j : Int) := by omega
        have hj10 : (j : Int) ≤ 10 := by have := HL1.out; omega
        have HO := Lib.hid ho
        have HN := Lib.hid hn
        have HPL := Lib.hid hpl
        have HG := Lib.hid hg
        have HVV := Lib.hid hvv
        clear ho hn hpl hg hvv
        rcases Nat.lt_or_ge j rs.length with hlt | hge
        · have hjj : (j : Int) < (rs.length : Int) := by omega
          have HJ := Lib.hid hlt
          have HL2 := Lib.hid (show j < 10 by have := HL1.out; omega)
          by_cases hja : j < ats.length
          · have hja2 : (j : Int) < (ats.length : Int) := by omega
            obtain ⟨b, hb⟩ : ∃ b, ats[j]? = some b := ⟨_, List.getElem?_eq_getElem hja⟩
            obtain ⟨m, hm⟩ : ∃ m, b.toNat % 12 = m := ⟨_, rfl⟩
            have HKK := Lib.hid (show 2 + m < 34 by omega)
            have hm12 : ((b.toNat : Nat) : Int).tmod 12 = (m : Int) := by rw [Int.tmod_eq_emod_of_nonneg (by omega)]; omega
            have hm0 : 0 ≤ (m : Int) := by omega
            have hm9 : (m : Int) < 12 := by omega
            have hb0 : ((b.toNat : Nat) : Int) < 256 := by have := b.toNat_lt; omega
            obtain ⟨ga, oa, hpa, hcb⟩ : ∃ ga oa, pa = some ⟨ga, oa, none⟩ ∧ wr.cell? ⟨ga, oa + j, none⟩ = some (.int .u8 (b.toNat : Int)) := by
              have hby : (byteV ats)[j]? = some (.int .u8 (b.toNat : Int)) := by rw [byteV_get, hb]; rfl
              rcases H.at 9 rfl with h | ⟨ga, oa, e, _, h⟩
              · rw [h] at hby; cases hby
              · exact ⟨ga, oa, e, h j _ hby⟩
            subst hpa
            have HM := Lib.hid hm
            clear hb hm
            go_upto_region 18 with fail
            clear hcb hm12
            have hk7 : ((2 : Int) + (m : Int)).toNat = 2 + m := by omega
            go_upto_region 19 with (first
              | (refine wpList_make2_st H rfl 22 _ _ rfl _ Tryz.underlying22 _ _ info_u8 rfl 248 248 rfl rfl (by omega) (by omega) (by simp only [maxLen]; omega) ?_; clear H; intro W gb H))
            replace H : St NoBlk (fun _ => True) w _ (s.L ++ [errA, rdA pl (rs.flatMap ByteRow.val), rdA (some ⟨ga, oa, none⟩) (byteV ats), blk gh (.cells (rowsV ps).toArray 22 (0, 0)), rowsB ps v, blk gb (.cells (List.replicate 248 (Value.int .u8 0)).toArray 5 (0, 0))]) := H
            obtain ⟨gq, oq, hpq, hcell⟩ : ∃ gq oq, pl = some ⟨gq, oq, none⟩ ∧ W.cell? ⟨gq, oq + j, none⟩ = some (.slice rs[j].p rs[j].l.length rs[j].cap) := by
              rcases H.at 8 rfl with h | ⟨gq, oq, e, _, h⟩
              · have := val_get rs j hlt
                rw [h] at this
                cases this
              · exact ⟨gq, oq, e, h j _ (val_get rs j hlt)⟩
            subst hpq
            have hrow : (rdA rs[j].p (byteV rs[j].l)).prop W := Asrt.stable _ w W (fun k hk => H.fix.block k (Asrt.bound _ w rs[j].ok k hk) (fun h => h)) rs[j].ok
            obtain ⟨row, hrw⟩ : ∃ row, rs[j] = row := ⟨_, rfl⟩
            rw [hrw] at hcell hrow
            clear hrw
            go_upto_region 20 with (first
              | (refine wpList_copy_part H 12 rfl _ _ 22 22 rfl _ Tryz.underlying22 size_u8 gb 248 248 rfl row.p row.l row.cap rfl hrow (List.replicate 248 (.int .u8 0)) _ rfl (by simp) ?_; clear H hcell hrow; intro W H))
            rw [padR_row] at H
            replace H : St NoBlk (fun _ => True) w _ (s.L ++ [errA, rdA (some ⟨gq, oq, none⟩) (rs.flatMap ByteRow.val), rdA (some ⟨ga, oa, none⟩) (byteV ats), blk gh (.cells (rowsV ps).toArray 22 (0, 0)), rowsB ps v, ownB gb 0 (padR row.l)]) := H.recast 12 (A' := ownB gb 0 (padR row.l)) rfl (fun h => ownB_of_row h) (fun k hk => hk) (fun k hk => hk.elim)
            replace H : St NoBlk (fun _ => True) w _ (s.L ++ [ownB gb 0 (padR row.l)] ++ [errA, rdA (some ⟨gq, oq, none⟩) (rs.flatMap ByteRow.val), rdA (some ⟨ga, oa, none⟩) (byteV ats), blk gh (.cells (rowsV ps).toArray 22 (0, 0)), rowsB ps v]) := St.swap (A := s.L) (E := [errA, rdA (some ⟨gq, oq, none⟩) (rs.flatMap ByteRow.val), rdA (some ⟨ga, oa, none⟩) (byteV ats), blk gh (.cells (rowsV ps).toArray 22 (0, 0)), rowsB ps v]) (R := [ownB gb 0 (padR row.l)]) H
            obtain ⟨nl, hnl⟩ : ∃ nl, padR row.l = nl := ⟨_, rfl⟩
            have HNL := Lib.hid (show nl.length = 248 by rw [← hnl]; exact padR_len _)
            rw [hnl] at H
            clear hnl
            go_wp2_with (first
              | (go_at_call 17; rw [← HG.out]; go_loud ((refine (wr_TX (s := s) (B := ownB gb 0 nl) (H.take 8).bundle HO.out _ (2 + m) (by omega) (by rw [HN.out]; exact HKK.out) (fun W h => ⟨ownB_bytes h, ownB_lt h⟩) HNL.out).mono ?_); rintro e W ⟨rfl, s1, hs1, hto⟩; replace H := hto.front (R := [errA, rdA (some ⟨gq, oq, none⟩) (rs.flatMap ByteRow.val), rdA (some ⟨ga, oa, none⟩) (byteV ats), blk gh (.cells (rowsV ps).toArray 22 (0, 0)), rowsB ps v]) H; clear hto; have HS1 := Lib.hid hs1; clear hs1))
              | (refine wpList_store1_st H 11 rfl 22 _ _ rfl gh (2 + m) (.slice (some ⟨gb, 0, none⟩) 248 248) rfl rfl rfl _ _ rfl (by kernel_rfl) (by have := HPL.out; have := HKK.out; simp [rowsV]; omega) ?_; clear H; intro W H))
            simp only [HG.out]
            go_roundw
            case rel =>
              have hg1 := HS1.out
              refine ⟨j + 1, s1, fun x => if x = 2 + m then nl else v x, ps.set (2 + m) (gb, 0, 248), congrArg _ (by omega), HJ.out, hg1.g.trans HG.out, hg1.n.trans HN.out, hg1.ok, by rw [List.length_set]; exact HPL.out, fun x hx => ?_, ?_⟩
              · rw [hg1.v x (by rw [HN.out]; exact hx)]
                show (if x = 2 + m then nl else v x) = (updV s.V (2 + m) nl x).1
                unfold updV
                by_cases e : x = 2 + m
                · rw [if_pos e, if_pos e]
                · rw [if_neg e, if_neg e]; exact HVV.out x hx
              · rw [rowsV_put] at H
                replace H : St NoBlk (fun _ => True) w _ (s1.L ++ [ownB gb 0 nl] ++ [errA, rdA (some ⟨gq, oq, none⟩) (rs.flatMap ByteRow.val), rdA (some ⟨ga, oa, none⟩) (byteV ats), blk gh (.cells (rowsV (ps.set (2 + m) (gb, 0, 248))).toArray 22 (0, 0)), rowsB ps v]) := H
                have H2 := H.join 7 12 (A' := rowsB (ps.set (2 + m) (gb, 0, 248)) (fun x => if x = 2 + m then nl else v x)) rfl rfl (rowsB_set (H.at 12 rfl) (H.at 7 rfl) (fun _ => rfl) (Nat.le_refl _)) (fun k hk => hk.elim) (fun k hk => rowsB_rd_set k hk)
                exact (St.swap (A := s1.L) (E := [emp]) (R := [errA, rdA (some ⟨gq, oq, none⟩) (rs.flatMap ByteRow.val), rdA (some ⟨ga, oa, none⟩) (byteV ats), blk gh (.cells (rowsV (ps.set (2 + m) (gb, 0, 248))).toArray 22 (0, 0)), rowsB (ps.set (2 + m) (gb, 0, 248)) (fun x => if x = 2 + m then nl else v x)]) H2).take 12
            case measure => have := HJ.out; simp [intOf]; omega
          · have hja2 : ¬ (j : Int) < (ats.length : Int) := by omega
            have HKK := Lib.hid (show 2 + j < 34 by have := HL2.out; omega)
            have hk7 : ((2 : Int) + (j : Int)).toNat = 2 + j := by omega
            go_upto_region 19 with (first
              | (refine wpList_make2_st H rfl 22 _ _ rfl _ Tryz.underlying22 _ _ info_u8 rfl 248 248 rfl rfl (by omega) (by omega) (by simp only [maxLen]; omega) ?_; clear H; intro W gb H))
            replace H : St NoBlk (fun _ => True) w _ (s.L ++ [errA, rdA pl (rs.flatMap ByteRow.val), rdA pa (byteV ats), blk gh (.cells (rowsV ps).toArray 22 (0, 0)), rowsB ps v, blk gb (.cells (List.replicate 248 (Value.int .u8 0)).toArray 5 (0, 0))]) := H
            obtain ⟨gq, oq, hpq, hcell⟩ : ∃ gq oq, pl = some ⟨gq, oq, none⟩ ∧ W.cell? ⟨gq, oq + j, none⟩ = some (.slice rs[j].p rs[j].l.length rs[j].cap) := by
              rcases H.at 8 rfl with h | ⟨gq, oq, e, _, h⟩
              · have := val_get rs j hlt
                rw [h] at this
                cases this
              · exact ⟨gq, oq, e, h j _ (val_get rs j hlt)⟩
            subst hpq
            have hrow : (rdA rs[j].p (byteV rs[j].l)).prop W := Asrt.stable _ w W (fun k hk => H.fix.block k (Asrt.bound _ w rs[j].ok k hk) (fun h => h)) rs[j].ok
            obtain ⟨row, hrw⟩ : ∃ row, rs[j] = row := ⟨_, rfl⟩
            rw [hrw] at hcell hrow
            clear hrw
            go_upto_region 20 with (first
              | (refine wpList_copy_part H 12 rfl _ _ 22 22 rfl _ Tryz.underlying22 size_u8 gb 248 248 rfl row.p row.l row.cap rfl hrow (List.replicate 248 (.int .u8 0)) _ rfl (by simp) ?_; clear H hcell hrow; intro W H))
            rw [padR_row] at H
            replace H : St NoBlk (fun _ => True) w _ (s.L ++ [errA, rdA (some ⟨gq, oq, none⟩) (rs.flatMap ByteRow.val), rdA pa (byteV ats), blk gh (.cells (rowsV ps).toArray 22 (0, 0)), rowsB ps v, ownB gb 0 (padR row.l)]) := H.recast 12 (A' := ownB gb 0 (padR row.l)) rfl (fun h => ownB_of_row h) (fun k hk => hk) (fun k hk => hk.elim)
            replace H : St NoBlk (fun _ => True) w _ (s.L ++ [ownB gb 0 (padR row.l)] ++ [errA, rdA (some ⟨gq, oq, none⟩) (rs.flatMap ByteRow.val), rdA pa (byteV ats), blk gh (.cells (rowsV ps).toArray 22 (0, 0)), rowsB ps v]) := St.swap (A := s.L) (E := [errA, rdA (some ⟨gq, oq, none⟩) (rs.flatMap ByteRow.val), rdA pa (byteV ats), blk gh (.cells (rowsV ps).toArray 22 (0, 0)), rowsB ps v]) (R := [ownB gb 0 (padR row.l)]) H
            obtain ⟨nl, hnl⟩ : ∃ nl, padR row.l = nl := ⟨_, rfl⟩
            have HNL := Lib.hid (show nl.length = 248 by rw [← hnl]; exact padR_len _)
            rw [hnl] at H
            clear hnl
            go_wp2_with (first
              | (go_at_call 17; rw [← HG.out]; go_loud ((refine (wr_TX (s := s) (B := ownB gb 0 nl) (H.take 8).bundle HO.out _ (2 + j) (by omega) (by rw [HN.out]; exact HKK.out) (fun W h => ⟨ownB_bytes h, ownB_lt h⟩) HNL.out).mono ?_); rintro e W ⟨rfl, s1, hs1, hto⟩; replace H := hto.front (R := [errA, rdA (some ⟨gq, oq, none⟩) (rs.flatMap ByteRow.val), rdA pa (byteV ats), blk gh (.cells (rowsV ps).toArray 22 (0, 0)), rowsB ps v]) H; clear hto; have HS1 := Lib.hid hs1; clear hs1))
              | (refine wpList_store1_st H 11 rfl 22 _ _ rfl gh (2 + j) (.slice (some ⟨gb, 0, none⟩) 248 248) rfl rfl rfl _ _ rfl (by kernel_rfl) (by have := HPL.out; have := HKK.out; simp [rowsV]; omega) ?_; clear H; intro W H))
            simp only [HG.out]
            go_roundw
            case rel =>
              have hg1 := HS1.out
              refine ⟨j + 1, s1, fun x => if x = 2 + j then nl else v x, ps.set (2 + j) (gb, 0, 248), congrArg _ (by omega), HJ.out, hg1.g.trans HG.out, hg1.n.trans HN.out, hg1.ok, by rw [List.length_set]; exact HPL.out, fun x hx => ?_, ?_⟩
              · rw [hg1.v x (by rw [HN.out]; exact hx)]
                show (if x = 2 + j then nl else v x) = (updV s.V (2 + j) nl x).1
                unfold updV
                by_cases e : x = 2 + j
                · rw [if_pos e, if_pos e]
                · rw [if_neg e, if_neg e]; exact HVV.out x hx
              · rw [rowsV_put] at H
                replace H : St NoBlk (fun _ => True) w _ (s1.L ++ [ownB gb 0 nl] ++ [errA, rdA (some ⟨gq, oq, none⟩) (rs.flatMap ByteRow.val), rdA pa (byteV ats), blk gh (.cells (rowsV (ps.set (2 + j) (gb, 0, 248))).toArray 22 (0, 0)), rowsB ps v]) := H
                have H2 := H.join 7 12 (A' := rowsB (ps.set (2 + j) (gb, 0, 248)) (fun x => if x = 2 + j then nl else v x)) rfl rfl (rowsB_set (H.at 12 rfl) (H.at 7 rfl) (fun _ => rfl) (Nat.le_refl _)) (fun k hk => hk.elim) (fun k hk => rowsB_rd_set k hk)
                exact (St.swap (A := s1.L) (E := [emp]) (R := [errA, rdA (some ⟨gq, oq, none⟩) (rs.flatMap ByteRow.val), rdA pa (byteV ats), blk gh (.cells (rowsV (ps.set (2 + j) (gb, 0, 248))).toArray 22 (0, 0)), rowsB (ps.set (2 + j) (gb, 0, 248)) (fun x => if x = 2 + j then nl else v x)]) H2).take 12
            case measure => have := HJ.out; simp [intOf]; omega
        · obtain hje : j = rs.length := by omega
          subst hje
          have hjj : ¬ ((rs.length : Int) < (rs.length : Int)) := by omega
          clear hj hge
          replace H := H.recast 10 (A' := rdA (some ⟨gh, 0, none⟩) (rowsV ps)) rfl (fun h => rdA_of_row h) (fun k hk => hk.elim) (fun k ⟨_, ad, e, hk⟩ => by cases e; exact .inl hk)
          replace H : St NoBlk (fun _ => True) w _ ((s.L ++ [errA, rdA pl (rs.flatMap ByteRow.val), rdA pa (byteV ats)]) ++ [rdA (some ⟨gh, 0, none⟩) (rowsV ps), rowsB ps v]) := H
          replace H := H.rotate
          have HL8 := Lib.hid (show ∀ k, k < 34 → (v k).length = 248 from fun k hk => by rw [HVV.out k hk]; exact HO.out.lens k (by rw [HN.out]; exact hk))
          have tokq : True := trivial
          by_cases hf2 : 2 ≤ first ∧ first < 34
          · have HF2 := Lib.hid hf2
            obtain ⟨R, hR⟩ : ∃ R, walkC v 34 40 first [] [] = R := ⟨_, rfl⟩
            have HRS := Lib.hid (show walkC s.v s.n 40 first [] [] = R by rw [← hR, HN.out]; exact walkC_congr (fun k _ hk => (HVV.out k hk).symm) 40 first [] [])
            have HR := Lib.hid hR
            clear hf2 hR
            cases R with
            | none =>
              go_wp2_with (first
                | (go_at_call 30; go_loud ((refine (read22_in (ps := ps) (v := v) (gh := gh) (n := 34) (H.take 2).bundle HL8.out HPL.out _ first rfl HF2.out.1 HF2.out.2 (by omega) none HR.out).mono ?_); rintro e W ⟨p2, bs, c2, rfl, _, hbs, hto⟩; obtain rfl := hbs rfl; replace H := hto.front2 (R := s.L ++ [errA, rdA pl (rs.flatMap ByteRow.val), rdA pa (byteV ats)]) H; clear hto hbs; replace H : St NoBlk (fun _ => True) w _ ([rdA (some ⟨gh, 0, none⟩) (rowsV ps), rowsB ps v] ++ (s.L ++ [errA, rdA pl (rs.flatMap ByteRow.val), rdA pa (byteV ats)] ++ [ownS 5 1 p2 0 c2 (byteV [])])) := by { rw [List.append_assoc] at H; exact H }; replace H := H.rotate))
                | (go_at_call 31; rw [← HG.out]; go_loud ((refine (Get_bad (s := s) (cc := 16) (H.take 8).bundle (fun W hb => gets_none hb HO.out _ first rfl HF9.out HF2.out.1 (by rw [HN.out]; exact HF2.out.2) HRS.out)).mono ?_); rintro e W ⟨rfl, hto⟩; replace H := hto.front (R := [rdA pl (rs.flatMap ByteRow.val), rdA pa (byteV ats), ownS 5 1 p2 0 c2 (byteV []), rdA (some ⟨gh, 0, none⟩) (rowsV ps), rowsB ps v]) H; clear hto))
                | (have _t := tokq; clear _t; refine wpList_bytes_strO rfl 22 9 _ rfl none 0 0 rfl 5 Tryz.underlying22 Tryz.underlying5 Tryz.underlying9 [] rfl 5 (ownS_nil _ _ _) ?_; clear tokq)
                | (refine wpList_bytes_strO rfl 22 9 _ rfl p2 0 c2 rfl 5 Tryz.underlying22 Tryz.underlying5 Tryz.underlying9 [] rfl 5 (H.at 10 rfl) ?_))
              go_ret
              exact ⟨rfl, H.fix.below⟩
            | some q =>
              obtain ⟨hs, bs⟩ := q
              go_wp2_with (first
                | (go_at_call 30; go_loud ((refine (read22_in (ps := ps) (v := v) (gh := gh) (n := 34) (H.take 2).bundle HL8.out HPL.out _ first rfl HF2.out.1 HF2.out.2 (by omega) (some (hs, bs)) HR.out).mono ?_); rintro e W ⟨p2, bs', c2, rfl, hbs, _, hto⟩; have hbe : bs = bs' := (hbs _ rfl).symm; subst hbe; replace H := hto.front2 (R := s.L ++ [errA, rdA pl (rs.flatMap ByteRow.val), rdA pa (byteV ats)]) H; clear hto hbs; replace H : St NoBlk (fun _ => True) w _ ([rdA (some ⟨gh, 0, none⟩) (rowsV ps), rowsB ps v] ++ (s.L ++ [errA, rdA pl (rs.flatMap ByteRow.val), rdA pa (byteV ats)] ++ [ownS 5 1 p2 bs.length c2 (byteV bs)])) := by { rw [List.append_assoc] at H; exact H }; replace H := H.rotate))
                | (go_at_call 31; rw [← HG.out]; go_loud ((refine (Get_ok (s := s) (H.take 7).bundle HO.out _ first rfl HF9.out HF2.out.1 (by rw [HN.out]; exact HF2.out.2) HRS.out).mono ?_); rintro e W ⟨p3, c3, rfl, hto⟩; replace H := hto.front2 (R := [errA, rdA pl (rs.flatMap ByteRow.val), rdA pa (byteV ats), ownS 5 1 p2 bs.length c2 (byteV bs), rdA (some ⟨gh, 0, none⟩) (rowsV ps), rowsB ps v]) H; clear hto))
                | (have _t := tokq; clear _t; refine wpList_bytes_strO rfl 22 9 _ rfl p3 bs.length c3 rfl 5 Tryz.underlying22 Tryz.underlying5 Tryz.underlying9 bs rfl 5 (H.at 13 rfl) ?_; clear tokq)
                | (refine wpList_bytes_strO rfl 22 9 _ rfl p2 bs.length c2 rfl 5 Tryz.underlying22 Tryz.underlying5 Tryz.underlying9 bs rfl 5 (H.at 10 rfl) ?_))
              go_ret
              exact ⟨by simp, H.fix.below⟩
          · have HF2 := Lib.hid (show first < 2 ∨ 34 ≤ first by omega)
            clear hf2
            replace H := H.rotate
            go_wp2_with (first
              | (go_at_call 30; go_loud ((refine (read22_bad (some ⟨gh, 0, none⟩) 34 34 _ first rfl HF2.out (by omega) HF9.out).mono ?_); rintro e W' ⟨rfl, rfl⟩))
              | (go_at_call 31; rw [← HG.out]; go_loud ((refine (Get_bad (s := s) (cc := 1) (H.take 8).bundle (fun W hb => gets_arg hb HO.out _ first rfl HF9.out (by rw [HN.out]; exact HF2.out))).mono ?_); rintro e W ⟨rfl, hto⟩; replace H := hto.front (R := [rdA pl (rs.flatMap ByteRow.val), rdA pa (byteV ats), rdA (some ⟨gh, 0, none⟩) (rowsV ps), rowsB ps v]) H; clear hto))
              | (refine wpList_bytes_strO rfl 22 9 _ rfl none 0 0 rfl 5 Tryz.underlying22 Tryz.underlying5 Tryz.underlying9 [] rfl 5 (ownS_nil _ _ _) ?_))
            go_ret
            exact ⟨rfl, H.fix.below⟩

end Go.Proofs.YtlgciddnpinpbaaGreatDoor

namespace Go.Proofs.YtlgciddnpinpbaaGreatDoor
open Go.RowKit
set_option linter.unusedSimpArgs false
set_option linter.unusedVariables false
set_option maxRecDepth 40000

set_option maxHeartbeats 4000000 in
theorem chainReads_calls (w : World) (pl : Option Addr) (rs : List (ByteRow w)) (cl : Nat) (z : Int) (pa : Option Addr) (ats : List UInt8) (ca : Nat) (h0 : 0 ≤ z) (h9 : z ≤ 4294967295) (hg : errA.prop w) (ha : (rdA pl (rs.flatMap ByteRow.val)).prop w) (hb : (rdA pa (byteV ats)).prop w) :
    Calls Tryz.prog 5 #[.slice pl rs.length cl, .int .u32 z, .slice pa ats.length ca] w fun e w' => e = .returned (.bool true) ∧ Below w.heap.size w w' := by
  obtain ⟨first, rfl⟩ : ∃ first : Nat, z = (first : Int) := ⟨z.toNat, by omega⟩
  by_cases h1 : rs.length ≤ 10
  · by_cases h2 : ats.length ≤ 10
    · exact chainReads_short w pl rs cl first pa ats ca h1 h2 (by omega) hg ha hb
    · have H := St.err hg
      have hl1 : ¬ (10 < (rs.length : Int)) := by omega
      have hl2 : (10 < (ats.length : Int)) := by omega
      have hl3 : decide (10 < (ats.length : Int)) = true := decide_eq_true hl2
      clear h1 h2 ha hb hg h0 h9
      go_enter Tryz.func5, Tryz.ntmps5
      go_wp2_with (first
        | (go_at_call 28; go_loud ((refine (begun22_calls _ (H.at 0 rfl)).mono ?_); rintro e W ⟨rfl, hb⟩; replace H := H.stay (Fix.of_below hb _); clear hb)))
      go_ret
      exact ⟨rfl, H.fix.below⟩
  · have H := St.err hg
    have hl1 : (10 < (rs.length : Int)) := by omega
    have hl3 : decide (10 < (rs.length : Int)) = true := decide_eq_true hl1
    clear h1 ha hb hg h0 h9
    go_enter Tryz.func5, Tryz.ntmps5
    go_wp2_with (first
      | (go_at_call 28; go_loud ((refine (begun22_calls _ (H.at 0 rfl)).mono ?_); rintro e W ⟨rfl, hb⟩; replace H := H.stay (Fix.of_below hb _); clear hb)))
    go_ret
    exact ⟨rfl, H.fix.below⟩

end Go.Proofs.YtlgciddnpinpbaaGreatDoor
