/- The disk's Power, walked. -/
import Derived.Test.YtajlhloapglafaaDkC
namespace Go.Proofs.Ytajlhloapglafaa
open Go.RowKit
set_option linter.unusedSimpArgs false
set_option linter.unusedVariables false
set_option maxRecDepth 4000

theorem St.setCell {M0 R0 : Nat → Prop} {w0 W : World} {L : List Asrt} (H : St M0 R0 w0 W L) (i : Nat) {g : Nat} {cs : Array Value} {t : TypeId} (hi : L[i]? = some (blk g (.cells cs t (0, 0)))) (off : Nat) (v : Value) :
    St M0 R0 w0 (W.setCell ⟨g, off, none⟩ v) (L.set i (blk g (.cells (cs.setIfInBounds off v) t (0, 0)))) := by
  rw [setCell_eq_setRow W g off cs t (0, 0) v (H.at i hi)]
  exact H.setRow i hi _

theorem ownsRow_rd {w : World} {base : Nat} {e : TypeId} {v : Value} {n : Nat} {xs : List Value} (h : w.ownsRow base e 1 v n xs) :
    ∃ p cap, v = .slice p n cap ∧ (rdA p xs).prop w ∧ ∀ k, (rdA p xs).rd k → base ≤ k := by
  obtain ⟨h1, h2⟩ := h
  rcases h2 with ⟨rfl, rfl⟩ | ⟨g, cap, cur, rfl, hb, hg, _, _, hc, ht⟩
  · have : xs = [] := by simpa using h1
    exact ⟨none, 0, rfl, .inl this, fun k hk => absurd this hk.1⟩
  · refine ⟨_, cap, rfl, .inr ⟨g, 0, rfl, (Array.getElem?_eq_some_iff.1 hg).1, fun i x hi => ?_⟩, fun k hk => ?_⟩
    · rw [Nat.zero_add, cell_of_row w g i cur e (0, 0) hg, ← Array.getElem?_toList]
      have hlt : i < n * 1 := by have := (List.getElem?_eq_some_iff.1 hi).1; omega
      rw [← hi, ← ht, List.getElem?_take_of_lt hlt]
    · obtain ⟨_, ad, e1, rfl⟩ := hk
      cases e1; exact hb

/-- A slice that comes in and is read. -/
structure ArgL (w : World) (own : Nat → Prop) (v : Value) (xs : List Value) : Prop where
  is : ∃ p cap, v = .slice p xs.length cap ∧ (rdA p xs).prop w ∧ ∀ k, (rdA p xs).rd k → ¬ own k

theorem rdA_fix {w W : World} {own : Nat → Prop} {p : Option Addr} {xs : List Value} (h : (rdA p xs).prop w) (hn : ∀ k, (rdA p xs).rd k → ¬ own k) (hf : Fix own w W) : (rdA p xs).prop W :=
  (rdA p xs).stable w W (fun k hk => by
    rcases hk with hk | hk
    · exact hk.elim
    · exact hf.block k ((rdA p xs).bound w h k (.inr hk)) (hn k hk)) h

theorem rdA_at {W : World} {p : Option Addr} {xs : List Value} (h : (rdA p xs).prop W) {i : Nat} {x : Value} (hi : xs[i]? = some x) : ∃ g off, p = some ⟨g, off, none⟩ ∧ W.cell? ⟨g, off + i, none⟩ = some x := by
  rcases h with rfl | ⟨g, off, rfl, _, h2⟩
  · simp at hi
  · exact ⟨g, off, rfl, h2 i x hi⟩

/-- One sector is laid. -/
theorem PayIs.lay {W : World} {rd : Nat → Prop} {rows : List Value} {last : List (List UInt8)} {M : DataW Value} {wait : Nat → Option (List UInt8)} {tv : Value} {torn : List UInt8} (h : PayIs W rd rows last M wait tv torn)
    (hr : rows.length = last.length) (k : Nat) (hk : k < last.length) {v : Value} {l : List UInt8} (hv : ByS W rd v l) : PayIs W rd (rows.set k v) (last.set k l) M wait tv torn := by
  refine ⟨fun i hi => ?_, fun kl hkl => ?_, h.waits, h.torn, h.lt⟩
  · have hi' : i < last.length := by simpa using hi
    rw [List.getElem_set]
    by_cases e : k = i
    · subst e
      rw [if_pos rfl, List.getD_eq_getElem?_getD, List.getElem?_set_self (by omega), Option.getD_some]
      exact hv
    · rw [if_neg e, List.getD_eq_getElem?_getD, List.getElem?_set_ne e, ← List.getD_eq_getElem?_getD]
      exact h.sect i hi'
  · rw [List.length_set]; exact h.keys kl hkl

theorem waiting_at (D : DS) (j : Nat) (hj : j < D.waiting.length) : ∃ s l, D.waiting.getD j 0 = s ∧ (D.waiting.map fun k : Nat => Value.int .i64 (k : Int))[j]? = some (.int .i64 (s : Int)) ∧ s < D.last.length ∧ D.wait s = some l ∧ D.sect s = l := by
  have hm : D.waiting[j] ∈ D.waiting := List.getElem_mem hj
  have h1 := List.mem_filter.1 hm
  have h2 : (D.wait D.waiting[j]).isSome = true := h1.2
  obtain ⟨l, hl⟩ := Option.isSome_iff_exists.1 h2
  refine ⟨D.waiting[j], l, ?_, ?_, by simpa using h1.1, hl, by simp [DS.sect, hl]⟩
  · rw [List.getD_eq_getElem?_getD, List.getElem?_eq_getElem hj]; rfl
  · simp [hj]

theorem DS.pow_256 {D : DS} (h1 : ∀ l ∈ D.last, l.length = 256) (h2 : ∀ l ∈ D.all, l.length = 256) (keep : List Bool) : ∀ j, j ≤ D.waiting.length → ∀ l ∈ D.pow keep j, l.length = 256
  | 0, _, l, hl => h1 l (by simpa [DS.pow] using hl)
  | j + 1, hj, l, hl => by
    rw [DS.pow_succ] at hl
    split at hl
    · rcases List.mem_or_eq_of_mem_set hl with hl | hl
      · exact DS.pow_256 h1 h2 keep j (by omega) l hl
      · obtain ⟨s, l', a1, _, a3, _, _⟩ := waiting_at D j (by omega)
        rw [a1] at hl
        exact h2 l (by rw [hl]; exact List.mem_map.2 ⟨s, by simpa using a3, rfl⟩)
    · exact DS.pow_256 h1 h2 keep j (by omega) l hl

/-- Power's last word: all sectors are laid, none waits, none is torn. -/
theorem PayIs.power {W : World} {rd : Nat → Prop} {rows : List Value} {last : List (List UInt8)} {M : DataW Value} {wait : Nat → Option (List UInt8)} {tv : Value} {torn : List UInt8} (h : PayIs W rd rows last M wait tv torn) :
    PayIs W rd rows last (.map []) (fun _ => none) (.slice none 0 0) [] :=
  ⟨h.sect, fun kl hkl => (by cases hkl), fun k => .inl ⟨rfl, rfl⟩, .inl ⟨rfl, rfl⟩, h.lt⟩

end Go.Proofs.Ytajlhloapglafaa
