/- New disks: rows that grow, in assertions. -/
import Derived.Test.YtajlhloapglafaaGreatDoorDkR
import Derived.Deep.AppendLies
import Derived.Deep.RegionLaw
namespace Go.Proofs.YtajlhloapglafaaGreatDoor
open Go.RowKit
set_option linter.unusedSimpArgs false
set_option linter.unusedVariables false
set_option maxRecDepth 4000

section
variable {P : Program} {ops : Array Oper} {rest : List Oper} {o : Oper} {a : Act} {Q : Exit → Act → World → Prop}
variable {M0 R0 : Nat → Prop} {w0 W : World} {L : List Asrt}

/-- A row that is ours and grows: nil, or a block of its own. -/
def ownA (e : TypeId) (p : Option Addr) (n cap : Nat) (xs : List Value) : Asrt where
  own k := ∃ ad, p = some ad ∧ k = ad.block
  rd _ := False
  prop W := W.ownsRow 0 e 1 (.slice p n cap) n xs
  stable W W' h hp := by
    refine ⟨hp.1, ?_⟩
    rcases hp.2 with h0 | ⟨g, cap', cur, e1, hb, hg, r⟩
    · exact .inl h0
    · cases e1
      exact .inr ⟨g, cap, cur, rfl, hb, (h g (.inl ⟨_, rfl, rfl⟩)).trans hg, r⟩
  bound W hp k hk := by
    rcases hk with ⟨ad, rfl, rfl⟩ | hk
    · exact (hp.lt ad.block rfl).2
    · exact hk.elim

theorem wp_append_ownA (H : St M0 R0 w0 W L) (ix : Nat) {K : Act → World → Prop} (s x : Operand) (T : TypeId)
    (ho : o.op = .call { callee := .builtin .append, args := #[s, x], argTypes := #[T, T] }) (e : TypeId) (ht : P.underlying T = some (.slice e)) (z : Value) (b : Nat) (hi : (P.info? e).map (fun i => (i.zero, i.size, i.bytes)) = some (some z, 1, b)) (hz1 : z.cells.size = 1)
    (p : Option Addr) (n cap : Nat) (hs : a.eval s = .slice p n cap) (xs : List Value) (hix : L[ix]? = some (ownA e p n cap xs))
    (ad : Addr) (m c : Nat) (hx : a.eval x = .slice (some ad) m c) (news : List Value) (hl : news.length = m) (hnews : ∀ j u, news[j]? = some u → W.cell? (ad.add j) = some u) (h1 : ∀ u ∈ news, u.oneCell' = true)
    (hm : 0 < m) (h63 : n + m ≤ maxLen) (hbytes : (n + m) * b ≤ 140737488355328)
    (h : ∀ W' g' cap', St M0 R0 w0 W' (L.set ix (ownA e (some ⟨g', 0, none⟩) (n + m) cap' (xs ++ news))) → K (a.put o.dst (.slice (some ⟨g', 0, none⟩) (n + m) cap')) W') : o.wp P a W K Q := by
  obtain ⟨i, hii, hz, hsz, hby⟩ := info_parts hi
  have hown : W.ownsRow 0 e 1 (.slice p n cap) n xs := H.at ix hix
  obtain ⟨g', cap', w', hrun, r1, r2, r3, r4⟩ := run_append_lies (P := P) W T o.type 0 e i z 1 b ht hii hz hsz hby hz1 (by omega) (.slice p n cap) n xs hown ad m c news (by omega) hnews h1 hm h63 hbytes (Nat.zero_le _) W.heap.size rfl
  have hgrow : Fix (ownA e p n cap xs).own W w' := ⟨r2.os, r2.tape, r2.output, r2.size, fun k hk hn => r2.block k hk (fun e1 => hn (by
    cases p with
    | none => simp [Value.ownBlock] at e1
    | some ad => simp [Value.ownBlock] at e1; exact ⟨ad, rfl, e1⟩))⟩
  have hnew : ∀ k, (ownA e (some ⟨g', 0, none⟩) (n + m) cap' (xs ++ news)).own k → (ownA e p n cap xs).own k ∨ W.heap.size ≤ k := by
    rintro k ⟨ad', e1, rfl⟩
    cases e1
    rcases r3 with r3 | r3
    · left
      cases p with
      | none => simp [Value.ownBlock] at r3
      | some ad => simp [Value.ownBlock] at r3; exact ⟨ad, rfl, r3.symm⟩
    · right; show W.heap.size ≤ g'; omega
  have H' := H.step ix hix (A' := ownA e (some ⟨g', 0, none⟩) (n + m) cap' (xs ++ news)) hgrow r1 ⟨hnew, fun k hk => hk.elim⟩
  unfold Oper.wp execOp
  simp only [ho, resolve, invoke, builtin, Sem.run_bind, Sem.run_pure, Result.andThen_ok, List.map_toArray, List.map_cons, List.map_nil, hs, hx, hrun]
  exact h _ _ _ H'

/-- make([]T, n), run. -/
theorem St.make_run (H : St M0 R0 w0 W L) (T : TypeId) (e : TypeId) (ht : P.underlying T = some (.slice e)) (z : Value) (b : Nat)
    (hi : (P.info? e).map (fun i => (i.zero, i.size, i.bytes)) = some (some z, 1, b)) (hz1 : z.cells = #[z]) (n : Nat) (hb : b * n ≤ 281474976710656) (hm : n ≤ maxLen) :
    ∃ W' g, (Instr.makeSlice T (.int .i64 (n : Int)) (.int .i64 (n : Int))).run P W = .ok (.slice (some ⟨g, 0, none⟩) n n) W' ∧ St M0 R0 w0 W' (L ++ [blk g (.cells (List.replicate n z).toArray e (0, 0))]) := by
  obtain ⟨i, hii, hz, hsz, hby⟩ := info_parts hi
  obtain ⟨w', hrun, r1, r2⟩ := run_make_full (P := P) W W.heap.size T e i z 1 ht hii hz hsz .i64 .i64 n (by rw [hby]; exact hb) hm (Nat.le_refl _)
  have e1 : (madeCells z.cells (n * 1)).toList = List.replicate n z := by
    rw [hz1, Nat.mul_one]
    apply List.ext_getElem?
    intro j
    by_cases hj : j < n
    · simp [madeCells, hj, Nat.mod_one]
    · simp [madeCells, hj]
  rw [e1] at r1
  rcases r1.2 with ⟨h0, _⟩ | ⟨g, cap, cur, hv, hbg, hg, hnc, hcm, hcs, htake⟩
  · cases h0
  · simp only [Value.slice.injEq, Option.some.injEq, Addr.mk.injEq] at hv
    obtain ⟨⟨rfl, _⟩, _, rfl⟩ := hv
    have hcur : cur = (List.replicate n z).toArray := by
      apply Array.ext'
      have : cur.toList.take (n * 1) = cur.toList := List.take_of_length_le (by rw [Array.length_toList, hcs]; exact Nat.le_refl _)
      rw [← htake, this]
    subst hcur
    have H' := H.add (W' := w') ⟨r2.os, r2.tape, r2.output, r2.size, fun k hk _ => r2.block k hk (by simp)⟩ (blk W.heap.size (.cells (List.replicate n z).toArray e (0, 0))) hg (fun k hk => Nat.le_of_eq hk.symm) (fun k hk => hk.elim)
    exact ⟨w', _, hrun, H'⟩

/-- []T{v}, run. -/
theorem St.build1_run (H : St M0 R0 w0 W L) (T e : TypeId) (hu : P.underlying T = some (.slice e)) (hs : (P.info? e).map (·.size) = some 1) (z : Value) (hz : (P.info? e).bind (·.zero) = some z)
    (v : Value) (hf : Instr.fill (fun i => some (i * 1, 1)) ((Array.range (1 * 1)).map (z.cells[· % z.cells.size]!)) [(0, v)] = some #[v]) :
    ∃ W' g, (Instr.buildSlice T 1 #[(0, v)]).run P W = .ok (.slice (some ⟨g, 0, none⟩) 1 1) W' ∧ St M0 R0 w0 W' (L ++ [blk g (.cells #[v] e)]) := by
  refine ⟨W.alloc (.cells #[v] e), W.heap.size, ?_, H.alloc _⟩
  cases hq : P.info? e with
  | none => simp [hq] at hs
  | some j =>
    have hj : j.size = 1 := by simpa [hq] using hs
    have hjz : j.zero = some z := by simpa [hq] using hz
    unfold Instr.buildSlice
    simp only [Sem.run_bind, run_underlying hu W, Result.andThen_ok, sizeOf, typeInfo, hq, run_program, Sem.run_pure, hj]
    rw [if_neg (by omega)]
    simp only [Sem.run_pure, Result.andThen_ok, if_neg (by omega : ¬ 1 * 1 = 0), Sem.run_bind, zeroValue, typeInfo, hq, run_program, hjz, hf]
    simp [newRow, Result.andThen]

/-- A row that is not empty, as a block. -/
theorem ownA_blk {W : World} {e : TypeId} {p : Option Addr} {n cap : Nat} {xs : List Value} (h : (ownA e p n cap xs).prop W) (hn : 0 < n) :
    ∃ g junk, p = some ⟨g, 0, none⟩ ∧ W.heap[g]? = some (.cells (xs ++ junk).toArray e (0, 0)) ∧ xs.length = n ∧ (xs ++ junk).length = cap := by
  obtain ⟨h1, h2⟩ := h
  rcases h2 with ⟨_, h0⟩ | ⟨g, cap', cur, e1, hb, hg, h3, h4, h5, h6⟩
  · omega
  · cases e1
    refine ⟨g, cur.toList.drop n, rfl, ?_, by omega, ?_⟩
    · rw [hg]
      congr 2
      rw [← h6, Nat.mul_one, List.take_append_drop]
    · rw [← h6, Nat.mul_one, List.take_append_drop, Array.length_toList, h5, Nat.mul_one]

end

theorem St.take {M0 R0 : Nat → Prop} {w0 W : World} {L : List Asrt} (H : St M0 R0 w0 W L) (k : Nat) : St M0 R0 w0 W (L.take k) := by
  have hg : ∀ (i : Nat) (A : Asrt), (L.take k)[i]? = some A → L[i]? = some A := by
    intro i A h
    rw [List.getElem?_take] at h
    split at h
    · exact h
    · cases h
  exact ⟨H.fix, fun i A h => H.all i A (hg i A h), fun i j A B h h' hne => H.apart i j A B (hg i A h) (hg j B h') hne, fun i A h => H.mine i A (hg i A h), fun i A h => H.reads i A (hg i A h)⟩

theorem dSet0 (x0 x1 : Value) (x2 x3 : Bool) (x4 x5 x6 : Int) (x7 : Value) (x8 x9 : Int) (y : Value) : (dRow x0 x1 x2 x3 x4 x5 x6 x7 x8 x9).toArray.setIfInBounds 0 y = (dRow y x1 x2 x3 x4 x5 x6 x7 x8 x9).toArray := rfl

/-- One sector more. -/
theorem PayIs.more {W : World} {rd : Nat → Prop} {rows : List Value} {last : List (List UInt8)} {tv : Value} {torn : List UInt8} (h : PayIs W rd rows last (.map []) (fun _ => none) tv torn)
    (hr : rows.length = last.length) {gc capc : Nat} {l : List UInt8} {t : TypeId} {fr : Nat × Nat} {n : Nat} (hl : l.length = n) (hc : n ≤ capc) (hg : W.heap[gc]? = some (.cells (byteV l).toArray t fr)) :
    PayIs W (fun k => rd k ∨ k = gc) (rows ++ [.slice (some ⟨gc, 0, none⟩) n capc]) (last ++ [l]) (.map []) (fun _ => none) tv torn := by
  have h' := h.same (W' := W) (rd' := fun k => rd k ∨ k = gc) (fun k hk => ⟨rfl, .inl hk⟩) (fun k hk => by
    rcases hk with hk | rfl
    · exact h.lt k hk
    · exact (Array.getElem?_eq_some_iff.1 hg).1)
  refine ⟨fun i hi => ?_, fun kl hkl => (by cases hkl), fun k => .inl ⟨rfl, rfl⟩, h'.torn, h'.lt⟩
  by_cases e : i < last.length
  · rw [List.getElem_append_left e, List.getD_eq_getElem?_getD, List.getElem?_append_left (by omega), ← List.getD_eq_getElem?_getD]
    exact h'.sect i e
  · have e2 : i = last.length := by simp at hi; omega
    subst e2
    rw [List.getElem_append_right (by omega), List.getD_eq_getElem?_getD, List.getElem?_append_right (by omega)]
    simp only [hr, Nat.sub_self, List.getElem?_cons_zero, Option.getD_some, List.getElem_singleton]
    refine .inr ⟨gc, 0, capc, by rw [hl], by omega, .inr (.inr rfl), BytesAt.front (junk := []) (by rw [List.append_nil]; exact hg)⟩

end Go.Proofs.YtajlhloapglafaaGreatDoor
