/- make with room, append of nothing, append of noughts, over assertions. No program. -/
import Derived.Test.YtajlhloapglafaaGreatDoorApp
import Derived.Deep.Upon
import Derived.Lib.AppendZerosOnto
namespace Go.Proofs.YtajlhloapglafaaGreatDoor
open Go.RowKit
set_option linter.unusedVariables false

variable {P : Program} {ops : Array Oper} {rest : List Oper} {o : Oper} {a : Act} {Q : Exit → Act → World → Prop}
variable {M0 R0 : Nat → Prop} {w0 W : World} {L : List Asrt}

/-- make([]T, n, c) for elements of one cell. -/
theorem wp_make2_st (H : St M0 R0 w0 W L) {K : Act → World → Prop} (T : TypeId) (l c : Operand) (ho : o.op = .makeSlice T l c) (e : TypeId) (ht : P.underlying T = some (.slice e)) (z : Value) (b : Nat)
    (hi : (P.info? e).map (fun i => (i.zero, i.size, i.bytes)) = some (some z, 1, b)) (hz1 : z.cells = #[z]) (n m : Nat) (hl : a.eval l = .int .i64 (n : Int)) (hc : a.eval c = .int .i64 (m : Int)) (hnm : n ≤ m) (hb : b * m ≤ 281474976710656) (hm : m ≤ maxLen)
    (h : ∀ W' g, St M0 R0 w0 W' (L ++ [blk g (.cells (List.replicate m z).toArray e (0, 0))]) → K (a.put o.dst (.slice (some ⟨g, 0, none⟩) n m)) W') : o.wp P a W K Q := by
  obtain ⟨i, hii, hz, hsz, hby⟩ := info_parts hi
  have hb' : (i.bytes : Int) * (m : Int) ≤ 281474976710656 := by
    have h : ((i.bytes * m : Nat) : Int) ≤ 281474976710656 := by rw [hby]; omega
    rwa [Int.natCast_mul] at h
  have hr := run_make (P := P) W T e i z ht hii hz .i64 .i64 n m (by omega) (by omega) hb' (by simp only [maxLen] at hm; omega)
  have e1 : madeCells z.cells ((m : Int).toNat * i.size) = (List.replicate m z).toArray := by
    rw [hz1, hsz, Nat.mul_one, Int.toNat_natCast]
    apply Array.ext'
    apply List.ext_getElem?
    intro j
    by_cases hj : j < m
    · simp [madeCells, hj, Nat.mod_one]
    · simp [madeCells, hj]
  rw [e1] at hr
  simp only [Int.toNat_natCast] at hr
  have h' := h _ _ (H.alloc (.cells (List.replicate m z).toArray e))
  unfold Oper.wp execOp
  simp only [ho, hl, hc, Sem.run_bind, hr, Result.andThen_ok, Sem.run_pure]
  exact h'

theorem wpList_make2_st (H : St M0 R0 w0 W L) (hwt : Region.wanted o (yielded ops a.tmps) = true) (T : TypeId) (l c : Operand) (ho : o.op = .makeSlice T l c) (e : TypeId) (ht : P.underlying T = some (.slice e)) (z : Value) (b : Nat)
    (hi : (P.info? e).map (fun i => (i.zero, i.size, i.bytes)) = some (some z, 1, b)) (hz1 : z.cells = #[z]) (n m : Nat) (hl : a.eval l = .int .i64 (n : Int)) (hc : a.eval c = .int .i64 (m : Int)) (hnm : n ≤ m) (hb : b * m ≤ 281474976710656) (hm : m ≤ maxLen)
    (h : ∀ W' g, St M0 R0 w0 W' (L ++ [blk g (.cells (List.replicate m z).toArray e (0, 0))]) → wpList P ops Q rest (a.put o.dst (.slice (some ⟨g, 0, none⟩) n m)) W') : wpList P ops Q (o :: rest) a W :=
  wpList_want hwt fun _ hK => wp_make2_st H T l c ho e ht z b hi hz1 n m hl hc hnm hb hm fun W' g h2 => hK _ _ (h W' g h2)

/-- append of a nil slice: nothing is turned. -/
theorem wp_append_none {K : Act → World → Prop} (s x : Operand) (T : TypeId) (ho : o.op = .call { callee := .builtin .append, args := #[s, x], argTypes := #[T, T] }) (e : TypeId) (ht : P.underlying T = some (.slice e)) (hsz : (P.info? e).map (·.size) = some 1)
    (p : Option Addr) (n cap : Nat) (hs : a.eval s = .slice p n cap) (hn : n ≤ cap) (hx : a.eval x = .slice none 0 0) (h : K (a.put o.dst (.slice p n cap)) W) : o.wp P a W K Q := by
  cases hq : P.info? e with
  | none => simp [hq] at hsz
  | some i =>
    have hrun : (Builtin.append_ #[T, T] o.type #[.slice p n cap, .slice none 0 0]).run P W = .ok (.slice p n cap) W := by
      cases p <;> simp [Builtin.append_, run_underlying ht, sizeOf, typeInfo, hq, Builtin.lenOf, Builtin.firstCells, hn, storeCells]
    unfold Oper.wp execOp
    simp only [ho, resolve, invoke, builtin, Sem.run_bind, Sem.run_pure, Result.andThen_ok, List.map_toArray, List.map_cons, List.map_nil, hs, hx, hrun]
    exact h

theorem wpList_append_none (hwt : Region.wanted o (yielded ops a.tmps) = true) (s x : Operand) (T : TypeId) (ho : o.op = .call { callee := .builtin .append, args := #[s, x], argTypes := #[T, T] }) (e : TypeId) (ht : P.underlying T = some (.slice e)) (hsz : (P.info? e).map (·.size) = some 1)
    (p : Option Addr) (n cap : Nat) (hs : a.eval s = .slice p n cap) (hn : n ≤ cap) (hx : a.eval x = .slice none 0 0) (h : wpList P ops Q rest (a.put o.dst (.slice p n cap)) W) : wpList P ops Q (o :: rest) a W :=
  wpList_want hwt fun _ hK => wp_append_none s x T ho e ht hsz p n cap hs hn hx (hK _ _ h)

theorem zeroCells_one (z : Value) (hz1 : z.cells = #[z]) (k : Nat) : Builtin.zeroCells z.cells k = (List.replicate k z).toArray := by
  rw [hz1]
  apply Array.ext'
  apply List.ext_getElem?
  intro j
  by_cases hj : j < k
  · simp [Builtin.zeroCells, hj, Nat.mod_one]
  · simp [Builtin.zeroCells, hj]

/-- append(s, make([]T, k)...): k noughts. -/
theorem wp_appz_st (H : St M0 R0 w0 W L) (ix : Nat) {K : Act → World → Prop} (s x : Operand) (T TI : TypeId)
    (ho : o.op = .call { callee := .builtin .append, args := #[s, x], argTypes := #[T, TI] }) (e : TypeId) (ht : P.underlying T = some (.slice e)) (kn : IntKind) (htn : P.underlying TI = some (.int kn)) (z : Value) (b : Nat) (hi : (P.info? e).map (fun i => (i.zero, i.size, i.bytes)) = some (some z, 1, b)) (hz1 : z.cells = #[z]) (hzo : z.oneCell' = true)
    (g n cap : Nat) (hs : a.eval s = .slice (some ⟨g, 0, none⟩) n cap) (cs : List Value) (hix : L[ix]? = some (blk g (.cells cs.toArray e (0, 0)))) (hn : n ≤ cap) (hcs : cs.length = cap) (hcm : cap ≤ maxLen)
    (kq : IntKind) (k : Nat) (hx : a.eval x = .int kq (k : Int)) (hk0 : 0 < k) (h63 : n + k ≤ maxLen) (hbytes : (n + k) * b ≤ 140737488355328)
    (h : ∀ W' g' cap' junk, St M0 R0 w0 W' (L.set ix (blk g' (.cells (cs.take n ++ List.replicate k z ++ junk).toArray e (0, 0)))) → (cs.take n ++ List.replicate k z ++ junk).length = cap' → n + k ≤ cap' → cap' ≤ maxLen → K (a.put o.dst (.slice (some ⟨g', 0, none⟩) (n + k) cap')) W') : o.wp P a W K Q := by
  obtain ⟨i, hii, hz, hsz, hby⟩ := info_parts hi
  have hg := H.at ix hix
  have hkb : k * b ≤ 140737488355328 := Nat.le_trans (Nat.mul_le_mul_right _ (by omega)) hbytes
  have hk : k ≠ 0 := by omega
  have hkm : k ≤ 9223372036854775807 := by simp only [maxLen] at h63; omega
  have key : ∃ v W', (Builtin.append_ #[T, TI] o.type #[.slice (some ⟨g, 0, none⟩) n cap, .int kq (k : Int)]).run P W = .ok v W' ∧ K (a.put o.dst v) W' := by
    by_cases hroom : n + k ≤ cap
    · have hst := run_storeCells_at P g n e (List.replicate k z) 0 cs.toArray W hg (by simp; omega) (fun v hv => by rw [List.eq_of_mem_replicate hv]; exact hzo)
      simp only [Nat.add_zero, List.length_replicate] at hst
      have hw : IntKind.i64.wrap (k : Int) = k := by rw [IntKind.wrap_i64]; omega
      have hneg : ¬ ((k : Int) < 0) := by omega
      have h48i : ¬ (281474976710656 < (k : Int) * (i.bytes : Int)) := by
        rw [← Int.natCast_mul, hby]; omega
      have hzc := zeroCells_one z hz1 k
      have hadd : (⟨g, 0, none⟩ : Addr).add n = ⟨g, n, none⟩ := by rw [Addr.add_lit, Nat.zero_add]
      have hr : (Builtin.append_ #[T, TI] o.type #[.slice (some ⟨g, 0, none⟩) n cap, .int kq (k : Int)]).run P W = .ok (.slice (some ⟨g, 0, none⟩) (n + k) cap) (W.setRow g (cs.take n ++ List.replicate k z ++ cs.drop (n + k)).toArray) := by
        simp [Builtin.append_, run_underlying ht, run_underlying htn, sizeOf, typeInfo, zeroValue, hii, hz, hsz, asInt, asIntOf, hw, hneg, h48i, hk, hroom, hzc, hadd]
        simp only [List.append_assoc] at hst
        rw [hst]
        simp
      exact ⟨_, _, hr, h _ g cap (cs.drop (n + k)) (H.setRow ix hix _) (by simp; omega) hroom hcm⟩
    · have holds : (Builtin.firstCells i.size n (.slice (some ⟨g, 0, none⟩) n cap)).run P W.drew = .ok (cs.take n).toArray W.drew := by
        have hrow := run_firstCells_some (P := P) W.drew i.size n ⟨g, 0, none⟩ n cap (cs.take n) (by rw [hsz]; simp; omega) (fun q u hu => by
          rw [Addr.add_lit, Nat.zero_add]
          have h1 : W.drew.cell? ⟨g, q, none⟩ = W.cell? ⟨g, q, none⟩ := rfl
          rw [h1, cell_of_row W g q _ _ _ hg]
          rw [List.getElem?_take] at hu
          split at hu
          · simpa using hu
          · cases hu)
        exact hrow
      have hr := Lib.run_append_grow_zeros (P := P) W T TI o.type e i z kq kn ht htn hii hz (some ⟨g, 0, none⟩) n cap (cs.take n) holds k hk0 (by omega) (by omega) (by simp only [maxLen] at h63; omega) (by rw [hby]; omega) (growslice_fits (by omega) (by rw [hby]; exact hbytes))
      have hge := grownCap_ge W (n + k) cap e
      have hle := grownCap_le_maxLen W (n + k) cap e h63
      rw [zeroCells_one z hz1, zeroCells_one z hz1] at hr
      refine ⟨_, _, hr, h _ W.heap.size (grownCap W (n + k) cap e) (List.replicate (grownCap W (n + k) cap e - (n + k)) z) ?_ ?_ hge hle⟩
      · refine H.step ix hix ?_ ?_ ?_
        · exact (Fix.drew _ W).trans (Fix.alloc _ W.drew _) (fun _ _ h => h)
        · show (W.drew.alloc _).heap[W.heap.size]? = _
          have := heap_alloc_new W.drew (.cells ((cs.take n).toArray ++ (List.replicate k z).toArray ++ (List.replicate (grownCap W (n + k) cap e - (n + k)) z).toArray) e)
          rw [show W.drew.heap.size = W.heap.size from rfl] at this
          rw [this]
          congr 2
          apply Array.ext'
          simp
        · exact ⟨fun k hk => .inr (Nat.le_of_eq hk.symm), fun k hk => hk.elim⟩
      · simp only [List.length_append, List.length_take, List.length_replicate]; omega
  obtain ⟨v, W', hr, hK⟩ := key
  unfold Oper.wp execOp
  simp only [ho, resolve, invoke, builtin, Sem.run_bind, Sem.run_pure, Result.andThen_ok, List.map_toArray, List.map_cons, List.map_nil, hs, hx, hr]
  exact hK

theorem wpList_appz_st (H : St M0 R0 w0 W L) (ix : Nat) (hwt : Region.wanted o (yielded ops a.tmps) = true) (s x : Operand) (T TI : TypeId)
    (ho : o.op = .call { callee := .builtin .append, args := #[s, x], argTypes := #[T, TI] }) (e : TypeId) (ht : P.underlying T = some (.slice e)) (kn : IntKind) (htn : P.underlying TI = some (.int kn)) (z : Value) (b : Nat) (hi : (P.info? e).map (fun i => (i.zero, i.size, i.bytes)) = some (some z, 1, b)) (hz1 : z.cells = #[z]) (hzo : z.oneCell' = true)
    (g n cap : Nat) (hs : a.eval s = .slice (some ⟨g, 0, none⟩) n cap) (cs : List Value) (hix : L[ix]? = some (blk g (.cells cs.toArray e (0, 0)))) (hn : n ≤ cap) (hcs : cs.length = cap) (hcm : cap ≤ maxLen)
    (kq : IntKind) (k : Nat) (hx : a.eval x = .int kq (k : Int)) (hk0 : 0 < k) (h63 : n + k ≤ maxLen) (hbytes : (n + k) * b ≤ 140737488355328)
    (h : ∀ W' g' cap' junk, St M0 R0 w0 W' (L.set ix (blk g' (.cells (cs.take n ++ List.replicate k z ++ junk).toArray e (0, 0)))) → (cs.take n ++ List.replicate k z ++ junk).length = cap' → n + k ≤ cap' → cap' ≤ maxLen → wpList P ops Q rest (a.put o.dst (.slice (some ⟨g', 0, none⟩) (n + k) cap')) W') : wpList P ops Q (o :: rest) a W :=
  wpList_want hwt fun _ hK => wp_appz_st H ix s x T TI ho e ht kn htn z b hi hz1 hzo g n cap hs cs hix hn hcs hcm kq k hx hk0 h63 hbytes fun W' g' cap' junk h2 h3 h4 h5 => hK _ _ (h W' g' cap' junk h2 h3 h4 h5)

/-- append(s, make([]T, 0)...): nothing. -/
theorem wpList_appz0 (hwt : Region.wanted o (yielded ops a.tmps) = true) (s x : Operand) (T TI : TypeId)
    (ho : o.op = .call { callee := .builtin .append, args := #[s, x], argTypes := #[T, TI] }) (e : TypeId) (ht : P.underlying T = some (.slice e)) (kn : IntKind) (htn : P.underlying TI = some (.int kn)) (hsz : (P.info? e).map (·.size) = some 1)
    (g n cap : Nat) (hs : a.eval s = .slice (some ⟨g, 0, none⟩) n cap) (hn : n ≤ cap) (kq : IntKind) (hx : a.eval x = .int kq 0)
    (h : wpList P ops Q rest (a.put o.dst (.slice (some ⟨g, 0, none⟩) n cap)) W) : wpList P ops Q (o :: rest) a W := by
  refine wpList_want hwt fun K hK => ?_
  cases hq : P.info? e with
  | none => simp [hq] at hsz
  | some i =>
    have hw : IntKind.i64.wrap (0 : Int) = 0 := by decide
    have hrun : (Builtin.append_ #[T, TI] o.type #[.slice (some ⟨g, 0, none⟩) n cap, .int kq 0]).run P W = .ok (.slice (some ⟨g, 0, none⟩) n cap) W := by
      simp [Builtin.append_, run_underlying ht, run_underlying htn, sizeOf, typeInfo, hq, asInt, asIntOf, hw, hn, storeCells]
    unfold Oper.wp execOp
    simp only [ho, resolve, invoke, builtin, Sem.run_bind, Sem.run_pure, Result.andThen_ok, List.map_toArray, List.map_cons, List.map_nil, hs, hx, hrun]
    exact hK _ _ h

end Go.Proofs.YtajlhloapglafaaGreatDoor
