/- Copy of bytes; what a slice's cells read. -/
import Derived.Test.YtajlhloapglafaaGreatDoorDk9
namespace Go.Proofs.YtajlhloapglafaaGreatDoor
open Go.RowKit
set_option linter.unusedSimpArgs false
set_option linter.unusedVariables false
set_option maxRecDepth 4000

section

variable {P : Program} {ops : Array Oper} {rest : List Oper} {o : Oper} {a : Act} {Q : Exit → Act → World → Prop}

variable {M0 R0 : Nat → Prop} {w0 W : World} {L : List Asrt}

/-- copy(b, t) to the front of a block that is ours. -/
theorem wpList_copy_bys (H : St M0 R0 w0 W L) (i : Nat) (hwt : Region.wanted o (yielded ops a.tmps) = true) (d s : Operand) (dT sT : TypeId)
    (ho : o.op = .call { callee := .builtin .copy, args := #[d, s], argTypes := #[dT, sT] }) (elem : TypeId) (hu : P.underlying dT = some (.slice elem)) (hsz : (P.info? elem).map (·.size) = some 1)
    (g dLen dCap : Nat) (hd : a.eval d = .slice (some ⟨g, 0, none⟩) dLen dCap) (v : Value) (hs : a.eval s = v) (rd : Nat → Prop) (l : List UInt8) (hb : ByS W rd v l)
    (cs : List Value) (t : TypeId) (hi : L[i]? = some (blk g (.cells cs.toArray t (0, 0)))) (hn : l.length ≤ dLen) (hfit : l.length ≤ cs.length)
    (h : ∀ W', St M0 R0 w0 W' (L.set i (blk g (.cells (byteV l ++ cs.drop l.length).toArray t (0, 0)))) → wpList P ops Q rest (a.put o.dst (goInt l.length)) W') :
    wpList P ops Q (o :: rest) a W := by
  refine wpList_want hwt fun K hK => ?_
  have hg := H.at i hi
  have key : ∃ W', (Builtin.copy_ #[dT, sT] o.type #[.slice (some ⟨g, 0, none⟩) dLen dCap, v]).run P W = .ok (goInt l.length) W' ∧ St M0 R0 w0 W' (L.set i (blk g (.cells (byteV l ++ cs.drop l.length).toArray t (0, 0)))) := by
    by_cases hl : l = []
    · subst hl
      have hset : L.set i (blk g (.cells (byteV [] ++ cs.drop 0).toArray t (0, 0))) = L := by
        have hlt : i < L.length := (List.getElem?_eq_some_iff.1 hi).1
        have e : L[i] = blk g (.cells cs.toArray t (0, 0)) := (List.getElem?_eq_some_iff.1 hi).2
        simp only [byteV, List.map_nil, List.nil_append, List.drop_zero]
        rw [← e]; exact List.set_getElem_self hlt
      simp only [List.length_nil]
      rw [hset]
      rcases hb with ⟨_, rfl⟩ | ⟨gs, off, cap, rfl, _⟩
      · exact ⟨W, run_copy_none W dT sT o.type elem _ _ _ _ _ _ hu hsz (by simp), H⟩
      · exact ⟨W, run_copy_none W dT sT o.type elem _ _ _ _ _ _ hu hsz (by simp), H⟩
    · rcases hb with ⟨e, _⟩ | ⟨gs, off, cap, rfl, _, _, hat⟩
      · exact absurd e hl
      · have hst := run_storeCells_at P g 0 t (byteV l) 0 _ W hg (by simp; omega) (byteV_one _)
        simp only [Nat.add_zero, byteV_length, List.take_zero, List.nil_append, Nat.zero_add, List.toList_toArray] at hst
        refine ⟨_, ?_, H.setRow i hi (byteV l ++ cs.drop l.length).toArray⟩
        cases hq : P.info? elem with
        | none => simp [hq] at hsz
        | some j =>
          have hj : j.size = 1 := by simpa [hq] using hsz
          have hfc := run_firstCells_some (P := P) W j.size l.length ⟨gs, off, none⟩ l.length cap (byteV l) (by rw [hj]; simp) (fun q u hu => by
            have hq : q < l.length := by have := (List.getElem?_eq_some_iff.1 hu).1; simpa using this
            rw [byteV_get, List.getElem?_eq_getElem hq, Option.map_some, Option.some.injEq] at hu
            rw [Addr.add_lit, ← hu]; exact hat q hq)
          have e2 : Nat.min l.length dLen = l.length := Nat.min_eq_left hn
          simp [Builtin.copy_, run_underlying hu, Builtin.lenOf, sizeOf, typeInfo, hq, e2, hfc, hst]
  obtain ⟨W', hrun, H'⟩ := key
  unfold Oper.wp
  simp [execOp, ho, resolve, invoke, builtin, hd, hs, hrun, Result.andThen]
  exact hK _ _ (h W' H')

end

theorem size_u8 : (Tryz.prog.info? 5).map (·.size) = some 1 := by kernel_rfl

/-- A row that is read: its cells. -/
def rdA (p : Option Addr) (xs : List Value) : Asrt where
  own _ := False
  rd k := xs ≠ [] ∧ ∃ ad, p = some ad ∧ k = ad.block
  prop W := xs = [] ∨ ∃ g off, p = some ⟨g, off, none⟩ ∧ g < W.heap.size ∧ ∀ i x, xs[i]? = some x → W.cell? ⟨g, off + i, none⟩ = some x
  stable W W' h hp := by
    rcases hp with hp | ⟨g, off, rfl, h1, h2⟩
    · exact .inl hp
    · by_cases hx : xs = []
      · exact .inl hx
      · have hb := h g (.inr ⟨hx, _, rfl, rfl⟩)
        refine .inr ⟨g, off, rfl, ?_, fun i x hi => (World.cell?_of_block (w := W) (a := ⟨g, off + i, none⟩) hb).trans (h2 i x hi)⟩
        rw [Array.getElem?_eq_getElem h1] at hb
        exact (Array.getElem?_eq_some_iff.1 hb).1
  bound W hp k hk := by
    rcases hk with hk | ⟨hx, ad, e, rfl⟩
    · exact hk.elim
    · rcases hp with hp | ⟨g, off, rfl, h1, _⟩
      · exact absurd hp hx
      · cases e; exact h1

theorem St.setCell {M0 R0 : Nat → Prop} {w0 W : World} {L : List Asrt} (H : St M0 R0 w0 W L) (i : Nat) {g : Nat} {cs : Array Value} {t : TypeId} (hi : L[i]? = some (blk g (.cells cs t (0, 0)))) (off : Nat) (v : Value) :
    St M0 R0 w0 (W.setCell ⟨g, off, none⟩ v) (L.set i (blk g (.cells (cs.setIfInBounds off v) t (0, 0)))) := by
  rw [setCell_eq_setRow W g off cs t (0, 0) v (H.at i hi)]
  exact H.setRow i hi _

/-- A slice that comes in and is read. -/
structure ArgL (w : World) (own : Nat → Prop) (v : Value) (xs : List Value) : Prop where
  is : ∃ p cap, v = .slice p xs.length cap ∧ (rdA p xs).prop w ∧ ∀ k, (rdA p xs).rd k → ¬ own k

theorem rdA_fix {w W : World} {own : Nat → Prop} {p : Option Addr} {xs : List Value} (h : (rdA p xs).prop w) (hn : ∀ k, (rdA p xs).rd k → ¬ own k) (hf : Fix own w W) : (rdA p xs).prop W :=
  (rdA p xs).stable w W (fun k hk => by
    rcases hk with hk | hk
    · exact hk.elim
    · exact hf.block k ((rdA p xs).bound w h k (.inr hk)) (hn k hk)) h

theorem rdA_at {W : World} {p : Option Addr} {xs : List Value} (h : (rdA p xs).prop W) {i : Nat} {x : Value} (hi : xs[i]? = some x) : ∃ g off, p = some ⟨g, off, none⟩ ∧ W.cell? ⟨g, off + i, none⟩ = some x := by
  rcases h with rfl | ⟨g, off, rfl, _, h2⟩
  · simp at hi
  · exact ⟨g, off, rfl, h2 i x hi⟩

end Go.Proofs.YtajlhloapglafaaGreatDoor
