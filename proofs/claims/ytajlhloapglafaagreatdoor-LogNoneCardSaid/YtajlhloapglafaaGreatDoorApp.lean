/- append and make over assertions; empty slices. No program. -/
import Derived.Test.YtajlhloapglafaaGreatDoorOp
import Derived.Lib.LazyBuf
namespace Go.Proofs.YtajlhloapglafaaGreatDoor
open Go.RowKit
set_option linter.unusedVariables false

variable {P : Program} {ops : Array Oper} {rest : List Oper} {o : Oper} {a : Act} {Q : Exit → Act → World → Prop}
variable {M0 R0 : Nat → Prop} {w0 W : World} {L : List Asrt}

/-- A step inside a region that draws its order. -/
theorem step_want {K : Act → World → Prop} {E : Prop} (hwt : Region.wanted o (yielded ops a.tmps) = true) (h : o.wp P a W K Q) :
    if Region.wanted o (yielded ops a.tmps) = true then o.wp P a W K Q else E := by rw [if_pos hwt]; exact h

/-- append onto a row that is ours (elements of one cell). -/
theorem wp_append_st (H : St M0 R0 w0 W L) (ix : Nat) {K : Act → World → Prop} (s x : Operand) (T : TypeId)
    (ho : o.op = .call { callee := .builtin .append, args := #[s, x], argTypes := #[T, T] }) (e : TypeId) (ht : P.underlying T = some (.slice e)) (z : Value) (b : Nat) (hi : (P.info? e).map (fun i => (i.zero, i.size, i.bytes)) = some (some z, 1, b)) (hz1 : z.cells.size = 1)
    (g n cap : Nat) (hs : a.eval s = .slice (some ⟨g, 0, none⟩) n cap) (cs : List Value) (hix : L[ix]? = some (blk g (.cells cs.toArray e (0, 0)))) (hn : n ≤ cap) (hcs : cs.length = cap) (hcm : cap ≤ maxLen)
    (ad : Addr) (m c : Nat) (hx : a.eval x = .slice (some ad) m c) (news : List Value) (hl : news.length = m) (hnews : ∀ j u, news[j]? = some u → W.cell? (ad.add j) = some u) (h1 : ∀ u ∈ news, u.oneCell' = true)
    (h63 : n + m ≤ maxLen) (hbytes : (n + m) * b ≤ 140737488355328)
    (h : ∀ W' g' cap' junk, St M0 R0 w0 W' (L.set ix (blk g' (.cells (cs.take n ++ news ++ junk).toArray e (0, 0)))) → (cs.take n ++ news ++ junk).length = cap' → n + m ≤ cap' → cap' ≤ maxLen → K (a.put o.dst (.slice (some ⟨g', 0, none⟩) (n + m) cap')) W') : o.wp P a W K Q := by
  obtain ⟨i, hii, hz, hsz, hby⟩ := info_parts hi
  have hg := H.at ix hix
  have hl' : news.length = m * i.size := by rw [hsz, hl]; omega
  have key : ∃ v W', (Builtin.append_ #[T, T] o.type #[.slice (some ⟨g, 0, none⟩) n cap, .slice (some ad) m c]).run P W = .ok v W' ∧ K (a.put o.dst v) W' := by
    by_cases hroom : n + m ≤ cap
    · have hr := run_append_room (P := P) W T o.type e i ht hii g n cap cs.toArray hg ad m c news hl' hnews h1 hroom (by rw [hsz]; simp; omega)
      rw [hsz] at hr
      refine ⟨_, _, hr, h _ g cap (cs.drop (n + m)) ?_ ?_ hroom hcm⟩
      · have := H.setRow ix hix (cs.take n ++ news ++ cs.drop (n + m)).toArray
        have e2 : (cs.take (n * 1) ++ news ++ cs.drop (n * 1 + news.length)) = (cs.take n ++ news ++ cs.drop (n + m)) := by rw [Nat.mul_one, hl]
        simp only [List.append_assoc] at e2 this ⊢
        rw [e2]
        exact this
      · simp; omega
    · have holds : ∀ j u, (cs.take n)[j]? = some u → W.cell? ((⟨g, 0, none⟩ : Addr).add j) = some u := by
        intro j u hu
        rw [Addr.add_lit, Nat.zero_add, cell_of_row W g j _ _ _ hg]
        rw [List.getElem?_take] at hu
        split at hu
        · simpa using hu
        · cases hu
      have hr := run_append_grow (P := P) W T o.type e i z ht hii hz ⟨g, 0, none⟩ n cap (cs.take n) (by rw [hsz]; simp; omega) holds ad m c news hl' hnews (by omega) (by simp only [maxLen] at h63; omega) (growslice_fits (by omega) (by rw [hby]; exact hbytes))
      have hge := grownCap_ge W (n + m) cap e
      have hle := grownCap_le_maxLen W (n + m) cap e h63
      have hzl : (Builtin.zeroCells z.cells (grownCap W (n + m) cap e - (n + m))).size = grownCap W (n + m) cap e - (n + m) := by simp [Builtin.zeroCells, hz1]
      refine ⟨_, _, hr, h _ W.heap.size (grownCap W (n + m) cap e) (Builtin.zeroCells z.cells (grownCap W (n + m) cap e - (n + m))).toList ?_ ?_ hge hle⟩
      · refine H.step ix hix ?_ ?_ ?_
        · exact (Fix.drew _ W).trans (Fix.alloc _ W.drew _) (fun _ _ h => h)
        · show (W.drew.alloc _).heap[W.heap.size]? = _
          have := heap_alloc_new W.drew (.cells ((cs.take n).toArray ++ news.toArray ++ Builtin.zeroCells z.cells (grownCap W (n + m) cap e - (n + m))) e)
          rw [show W.drew.heap.size = W.heap.size from rfl] at this
          rw [this]
          congr 2
          apply Array.ext'
          simp
        · exact ⟨fun k hk => .inr (Nat.le_of_eq hk.symm), fun k hk => hk.elim⟩
      · simp only [List.length_append, List.length_take, Array.length_toList, hzl, hl]; omega
  obtain ⟨v, W', hr, hK⟩ := key
  unfold Oper.wp execOp
  simp only [ho, resolve, invoke, builtin, Sem.run_bind, Sem.run_pure, Result.andThen_ok, List.map_toArray, List.map_cons, List.map_nil, hs, hx, hr]
  exact hK

/-- []T{} -/
theorem wp_buildslice0_st (H : St M0 R0 w0 W L) {K : Act → World → Prop} (T e : TypeId) (ho : o.op = .buildSlice T 0 #[]) (hu : P.underlying T = some (.slice e)) (s : Nat) (hs : (P.info? e).map (·.size) = some s)
    (h : ∀ W' g, St M0 R0 w0 W' (L ++ [blk g (.cells #[] e)]) → K (a.put o.dst (.slice (some ⟨g, 0, none⟩) 0 0)) W') : o.wp P a W K Q := by
  have h' := h _ _ (H.alloc (.cells #[] e))
  cases hq : P.info? e with
  | none => simp [hq] at hs
  | some j =>
    have hrun : (Instr.buildSlice T 0 (#[].map fun ((i, x) : Nat × Operand) => (i, a.eval x))).run P W = .ok (.slice (some ⟨W.heap.size, 0, none⟩) 0 0) (W.alloc (.cells #[] e)) := by
      unfold Instr.buildSlice
      simp only [Sem.run_bind, run_underlying hu W, Result.andThen_ok, sizeOf, typeInfo, hq, run_program, Sem.run_pure]
      simp [Instr.fill, newRow, Result.andThen]
      congr 2
      apply Array.ext (by simp)
      intro i h1 _
      simp at h1
    unfold Oper.wp execOp
    simp only [ho, Sem.run_bind, hrun, Result.andThen_ok, Sem.run_pure]
    exact h'

theorem wpList_append_st (H : St M0 R0 w0 W L) (ix : Nat) (hwt : Region.wanted o (yielded ops a.tmps) = true) (s x : Operand) (T : TypeId)
    (ho : o.op = .call { callee := .builtin .append, args := #[s, x], argTypes := #[T, T] }) (e : TypeId) (ht : P.underlying T = some (.slice e)) (z : Value) (b : Nat) (hi : (P.info? e).map (fun i => (i.zero, i.size, i.bytes)) = some (some z, 1, b)) (hz1 : z.cells.size = 1)
    (g n cap : Nat) (hs : a.eval s = .slice (some ⟨g, 0, none⟩) n cap) (cs : List Value) (hix : L[ix]? = some (blk g (.cells cs.toArray e (0, 0)))) (hn : n ≤ cap) (hcs : cs.length = cap) (hcm : cap ≤ maxLen)
    (ad : Addr) (m c : Nat) (hx : a.eval x = .slice (some ad) m c) (news : List Value) (hl : news.length = m) (hnews : ∀ j u, news[j]? = some u → W.cell? (ad.add j) = some u) (h1 : ∀ u ∈ news, u.oneCell' = true)
    (h63 : n + m ≤ maxLen) (hbytes : (n + m) * b ≤ 140737488355328)
    (h : ∀ W' g' cap' junk, St M0 R0 w0 W' (L.set ix (blk g' (.cells (cs.take n ++ news ++ junk).toArray e (0, 0)))) → (cs.take n ++ news ++ junk).length = cap' → n + m ≤ cap' → cap' ≤ maxLen → wpList P ops Q rest (a.put o.dst (.slice (some ⟨g', 0, none⟩) (n + m) cap')) W') : wpList P ops Q (o :: rest) a W :=
  wpList_want hwt fun _ hK => wp_append_st H ix s x T ho e ht z b hi hz1 g n cap hs cs hix hn hcs hcm ad m c hx news hl hnews h1 h63 hbytes fun W' g' cap' junk h2 h3 h4 h5 => hK _ _ (h W' g' cap' junk h2 h3 h4 h5)

theorem wpList_buildslice0_st (H : St M0 R0 w0 W L) (hwt : Region.wanted o (yielded ops a.tmps) = true) (T e : TypeId) (ho : o.op = .buildSlice T 0 #[]) (hu : P.underlying T = some (.slice e)) (s : Nat) (hs : (P.info? e).map (·.size) = some s)
    (h : ∀ W' g, St M0 R0 w0 W' (L ++ [blk g (.cells #[] e)]) → wpList P ops Q rest (a.put o.dst (.slice (some ⟨g, 0, none⟩) 0 0)) W') : wpList P ops Q (o :: rest) a W :=
  wpList_want hwt fun _ hK => wp_buildslice0_st H T e ho hu s hs fun W' g h2 => hK _ _ (h W' g h2)

/-- make([]T, n) for elements of one cell. -/
theorem wp_make_st (H : St M0 R0 w0 W L) {K : Act → World → Prop} (T : TypeId) (l c : Operand) (ho : o.op = .makeSlice T l c) (e : TypeId) (ht : P.underlying T = some (.slice e)) (z : Value) (b : Nat)
    (hi : (P.info? e).map (fun i => (i.zero, i.size, i.bytes)) = some (some z, 1, b)) (hz1 : z.cells = #[z]) (n : Nat) (hl : a.eval l = .int .i64 (n : Int)) (hc : a.eval c = .int .i64 (n : Int)) (hb : b * n ≤ 281474976710656) (hm : n ≤ maxLen)
    (h : ∀ W' g, St M0 R0 w0 W' (L ++ [blk g (.cells (List.replicate n z).toArray e (0, 0))]) → K (a.put o.dst (.slice (some ⟨g, 0, none⟩) n n)) W') : o.wp P a W K Q := by
  obtain ⟨i, hii, hz, hsz, hby⟩ := info_parts hi
  obtain ⟨w', hrun, r1, r2⟩ := run_make_full (P := P) W W.heap.size T e i z 1 ht hii hz hsz .i64 .i64 n (by rw [hby]; exact hb) hm (Nat.le_refl _)
  have e1 : (madeCells z.cells (n * 1)).toList = List.replicate n z := by
    rw [hz1, Nat.mul_one]
    apply List.ext_getElem?
    intro j
    by_cases hj : j < n
    · simp [madeCells, hj, Nat.mod_one]
    · simp [madeCells, hj]
  rw [e1] at r1
  rcases r1.2 with ⟨h0, _⟩ | ⟨g, cap, cur, hv, hbg, hg, hnc, hcm, hcs, htake⟩
  · cases h0
  · simp only [Value.slice.injEq, Option.some.injEq, Addr.mk.injEq] at hv
    obtain ⟨⟨rfl, _⟩, _, rfl⟩ := hv
    have hcur : cur = (List.replicate n z).toArray := by
      apply Array.ext'
      have : cur.toList.take (n * 1) = cur.toList := List.take_of_length_le (by rw [Array.length_toList, hcs]; exact Nat.le_refl _)
      rw [← htake, this]
    subst hcur
    have H' := H.add (W' := w') ⟨r2.os, r2.tape, r2.output, r2.size, fun k hk _ => r2.block k hk (by simp)⟩ (blk W.heap.size (.cells (List.replicate n z).toArray e (0, 0))) hg (fun k hk => Nat.le_of_eq hk.symm) (fun k hk => hk.elim)
    unfold Oper.wp execOp
    simp only [ho, hl, hc, Sem.run_bind, hrun, Result.andThen_ok, Sem.run_pure]
    exact h _ _ H'

theorem wpList_make_st (H : St M0 R0 w0 W L) (hwt : Region.wanted o (yielded ops a.tmps) = true) (T : TypeId) (l c : Operand) (ho : o.op = .makeSlice T l c) (e : TypeId) (ht : P.underlying T = some (.slice e)) (z : Value) (b : Nat)
    (hi : (P.info? e).map (fun i => (i.zero, i.size, i.bytes)) = some (some z, 1, b)) (hz1 : z.cells = #[z]) (n : Nat) (hl : a.eval l = .int .i64 (n : Int)) (hc : a.eval c = .int .i64 (n : Int)) (hb : b * n ≤ 281474976710656) (hm : n ≤ maxLen)
    (h : ∀ W' g, St M0 R0 w0 W' (L ++ [blk g (.cells (List.replicate n z).toArray e (0, 0))]) → wpList P ops Q rest (a.put o.dst (.slice (some ⟨g, 0, none⟩) n n)) W') : wpList P ops Q (o :: rest) a W :=
  wpList_want hwt fun _ hK => wp_make_st H T l c ho e ht z b hi hz1 n hl hc hb hm fun W' g h2 => hK _ _ (h W' g h2)

/-- s == nil -/
theorem wpList_eqlnil (hwt : Region.wanted o (yielded ops a.tmps) = true) (T T' : TypeId) (x y : Operand) (ho : o.op = .binOp .eql T x y T') (p : Option Addr) (l c : Nat) (hx : a.eval x = .slice p l c) (hy : a.eval y = .slice none 0 0)
    (e : TypeId) (hu : P.underlying T = some (.slice e)) (h : wpList P ops Q rest (a.put o.dst (.bool p.isNone)) W) : wpList P ops Q (o :: rest) a W := by
  refine wpList_want hwt fun K hK => ?_
  have hrun := Go.run_eql_slice_nil (P := P) W T e p l c hu
  have hg : (eqGuard .eql T x y (.slice p l c) (.slice none 0 0)).run P W = .ok () W := by simp [eqGuard]
  unfold Oper.wp execOp
  simp only [ho, hx, hy, Sem.run_bind, hg, hrun, Result.andThen_ok, Sem.run_pure]
  exact hK _ _ h

end Go.Proofs.YtajlhloapglafaaGreatDoor
