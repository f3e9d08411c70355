/- A range over the disk's map, as assertions; a new map. -/
import Derived.Test.YtajlhloapglafaaGreatDoorDk7
namespace Go.Proofs.YtajlhloapglafaaGreatDoor
open Go.RowKit
set_option linter.unusedSimpArgs false
set_option linter.unusedVariables false
set_option maxRecDepth 4000

variable {ops : Array Oper} {rest : List Oper} {o : Oper} {a : Act} {Q : Exit → Act → World → Prop}
variable {M0 R0 : Nat → Prop} {w0 W : World} {L : List Asrt}

theorem Fix.grown {w w' : World} {row : Option Nat} (h : w.grownBy w' row) {N : Nat → Prop} (hN : ∀ k, row = some k → N k) : Fix N w w' :=
  ⟨h.os, h.tape, h.output, h.size, fun i hi hn => h.block i hi (fun e => hn (hN i e.symm))⟩

/-- A range that is under way over the map gm; r is its iterator. -/
def rangeA (gm r n : Nat) (M : DataW Value) (left : Lit → Bool) (cnt : Nat) : Asrt where
  own k := k = gm ∨ k = r
  rd _ := False
  prop W := W.ranges Tryz.prog 3 RV gm r n M left cnt
  stable W W' h hp := by
    obtain ⟨es, clock, since, seen, c0, hb, F, hs, hD, hr, h2⟩ := hp
    exact ⟨es, clock, since, seen, c0, (h gm (.inl (.inl rfl))).trans hb, F, hs, hD, (h r (.inl (.inr rfl))).trans hr, h2⟩
  bound W hp k hk := by
    rcases hk with (rfl | rfl) | hk
    · exact hp.owns.lt
    · exact hp.lt
    · exact hk.elim

theorem ranges_has {gm r n cnt : Nat} {M : DataW Value} {left : Lit → Bool} (h : W.ranges Tryz.prog 3 RV gm r n M left cnt) {kl : Lit} (hl : left kl = true) : Go.Maps.has M kl = true := by
  obtain ⟨es', e1, _, hkey⟩ := h.owns.entries keyedInt
  obtain ⟨es, clock, since, seen, c0, hb, F, hs, rfl, hr, hborn, hcnt, h1, h2, _⟩ := h
  obtain ⟨x, hx, rfl⟩ := h2 kl hl
  cases e1
  have hm : WideElems.rg Tryz.prog 3 RV x ∈ (es.toList.map (WideElems.rg Tryz.prog 3 RV)).foldr DataW.insert [] := mem_sorted.2 (List.mem_map_of_mem hx)
  rw [Go.Maps.has_eq, List.any_eq_true]
  exact ⟨_, hm, WideAt.sameKey_self (hkey _ hm)⟩

theorem wpList_range_st (H : St M0 R0 w0 W L) (ix : Nat) (hwt : Region.wanted o (yielded ops a.tmps) = true) (m : Operand) (hop : o.op = .range 74 m) (gm : Nat) (hm : a.eval m = .map (some gm)) (M : DataW Value)
    (hi : L[ix]? = some (mapA gm (Go.Maps.size M) M))
    (h : ∀ W' r, St M0 R0 w0 W' (L.set ix (rangeA gm r (Go.Maps.size M) M (Go.Maps.has M) (Go.Maps.size M))) → wpList Tryz.prog ops Q rest (a.put o.dst (.pointer (some ⟨r, 0, none⟩))) W') : wpList Tryz.prog ops Q (o :: rest) a W := by
  refine wpList_want hwt fun K hK => ?_
  obtain ⟨W', hrun, r1, r2, r3⟩ := (H.at ix hi : W.ownsMap Tryz.prog 3 RV gm (Go.Maps.size M) M).range keyedInt Tryz.underlying74
  have H' := H.step ix hi (A' := rangeA gm W.heap.size (Go.Maps.size M) M (Go.Maps.has M) (Go.Maps.size M)) (Fix.grown r2 (fun k e => by cases e)) r1 ⟨fun k hk => by
    rcases hk with rfl | rfl
    · exact .inl rfl
    · exact .inr (Nat.le_refl _), fun k hk => hk.elim⟩
  unfold Oper.wp
  simp [execOp, hop, hm, hrun, Result.andThen]
  exact hK _ _ (h _ _ H')

theorem wpList_next_st (H : St M0 R0 w0 W L) (ix : Nat) (hwt : Region.wanted o (yielded ops a.tmps) = true) (it : Operand) (hop : o.op = .next it false) (r : Nat) (hit : a.eval it = .pointer (some ⟨r, 0, none⟩)) (gm n : Nat) (M : DataW Value) (left : Lit → Bool) (cnt : Nat)
    (hi : L[ix]? = some (rangeA gm r n M left cnt)) (N : Nat) (hkeys : ∀ kl, Go.Maps.has M kl = true → ∃ k : Nat, k < N ∧ kl = keyI k)
    (hDone : (∀ kl, left kl = false) → wpList Tryz.prog ops Q rest (a.put o.dst (.tuple #[.bool false])) W)
    (hMore : ∀ (k : Nat) (v : Value) (W' : World) (cnt' : Nat), k < N → left (keyI k) = true → M.atKey (keyI k) (.held (.slice none 0 0)) = .held v → St M0 R0 w0 W' (L.set ix (rangeA gm r n M (fun z => left z && !z.sameKey (keyI k)) cnt')) → cnt' < cnt →
      (Instr.entry (.pointer (some ⟨r, 0, none⟩))).run Tryz.prog W' = .ok (.tuple #[.int .i64 (k : Int), v]) W' → wpList Tryz.prog ops Q rest (a.put o.dst (.tuple #[.bool true, .int .i64 (k : Int), v])) W') : wpList Tryz.prog ops Q (o :: rest) a W := by
  refine wpList_want hwt fun K hK => ?_
  have hp : W.ranges Tryz.prog 3 RV gm r n M left cnt := H.at ix hi
  unfold Oper.wp
  rcases hp.next keyedInt o.type with ⟨h0, hl, hrun⟩ | ⟨key, v, kl, y, w', cnt', hkey, hlk, hv, hat, hrun, hrg, hlt, hgr, hsz, hen⟩
  · simp [execOp, hop, hit, hrun, Result.andThen]
    exact hK _ _ (hDone hl)
  · obtain ⟨k, hk, rfl⟩ := hkeys kl (ranges_has hp hlk)
    obtain ⟨x, rfl, e1, _⟩ := Go.Maps.keyOf_int_inv Tryz.underlying3 hkey
    simp only [keyI, Lit.int.injEq, true_and] at e1
    subst e1
    simp [RV] at hv
    subst hv
    simp [execOp, hop, hit, hrun, Result.andThen]
    refine hK _ _ (hMore k v w' cnt' hk hlk (hat _) (H.step ix hi (Fix.grown hgr (fun k e => by cases e; exact .inr rfl)) hrg ⟨fun _ h => .inl h, fun _ h => h.elim⟩) hlt hen)

theorem wpList_makemap_st {P : Program} (H : St M0 R0 w0 W L) (hwt : Region.wanted o (yielded ops a.tmps) = true) (T : TypeId) (hop : o.op = .makeMap T none)
    (h : ∀ W' g, St M0 R0 w0 W' (L ++ [mapA g 0 (.map [])]) → wpList P ops Q rest (a.put o.dst (.map (some g))) W') : wpList P ops Q (o :: rest) a W := by
  refine wpList_want hwt fun K hK => ?_
  unfold Oper.wp
  simp [execOp, hop, run_makeMap, Result.andThen]
  exact hK _ _ (h _ _ (H.add (Fix.alloc _ W _) (mapA W.heap.size 0 (.map [])) (World.ownsMap_made W _ _ _) (fun k hk => Nat.le_of_eq hk.symm) (fun k hk => hk.elim)))

end Go.Proofs.YtajlhloapglafaaGreatDoor
