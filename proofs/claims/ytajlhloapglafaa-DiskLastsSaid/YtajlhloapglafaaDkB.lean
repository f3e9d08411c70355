/- The disk's Waiting, walked. -/
import Derived.Test.YtajlhloapglafaaDkA
namespace Go.Proofs.Ytajlhloapglafaa
open Go.RowKit
set_option linter.unusedSimpArgs false
set_option linter.unusedVariables false
set_option maxRecDepth 4000

/-- Which sectors wait. -/
def DS.waiting (D : DS) : List Nat := (List.range D.last.length).filter fun k => (D.wait k).isSome

theorem PayIs.keys_perm {W : World} {rd : Nat → Prop} {rows : List Value} {D : DS} {M : DataW Value} {tv : Value} (h : PayIs W rd rows D.last M D.wait tv D.torn) {gm n : Nat}
    (hm : W.ownsMap Try.prog 3 RV gm n M) {ss : List Int} (hs : ss.Perm (intKeys M)) : ss.mergeSort (fun x y => decide (x ≤ y)) = D.waiting.map fun k : Nat => (k : Int) := by
  have hhas : ∀ x : Int, x ∈ (D.waiting.map fun k : Nat => (k : Int)) ↔ Go.Maps.has M (.int .i64 x) = true := by
    intro x
    rw [List.mem_map]
    constructor
    · rintro ⟨k, hk, rfl⟩
      have hk2 : (D.wait k).isSome = true := by simpa [DS.waiting] using (List.mem_filter.1 hk).2
      rcases h.waits k with ⟨_, a2⟩ | ⟨v, l, a1, _⟩
      · rw [a2] at hk2; cases hk2
      · exact a1
    · intro hx
      obtain ⟨k, hk, e⟩ := h.keys _ hx
      simp only [keyI, Lit.int.injEq, true_and] at e
      subst e
      refine ⟨k, ?_, rfl⟩
      rcases h.waits k with ⟨a1, _⟩ | ⟨v, l, _, _, a3, _⟩
      · rw [show Lit.int .i64 (k : Int) = keyI k from rfl, a1] at hx; cases hx
      · simp [DS.waiting, hk, a3]
  obtain ⟨es, rfl, hpw, _⟩ := hm.entries keyedInt
  obtain ⟨es', hD', hko⟩ := hm.keysOf
  obtain rfl : es = es' := by simpa using hD'
  have hp := perm_intKeys hpw (fun p hp => by obtain ⟨v, hv⟩ := hko p hp; obtain ⟨x, _, hx, _⟩ := Go.Maps.keyOf_i64 Try.underlying3 hv; exact ⟨x, hx⟩) (ss := D.waiting.map fun k : Nat => (k : Int)) (by
    rw [List.nodup_iff_pairwise_ne, List.pairwise_map]
    have : D.waiting.Nodup := List.nodup_range.sublist List.filter_sublist
    exact this.imp fun hne e => hne (by omega)) hhas
  rw [mergeSort_of_perm_i (hs.trans hp.symm)]
  refine List.mergeSort_of_pairwise ?_
  rw [List.pairwise_map]
  have : D.waiting.Pairwise (fun a b => a < b) := List.pairwise_lt_range.sublist List.filter_sublist
  exact this.imp fun hlt => by simp; omega

theorem waiting_calls {w : World} {g : Nat} {D : DS} {own rd : Nat → Prop} (hd : DiskIs w g D own rd) :
    Calls Try.prog 12 #[.pointer (some ⟨g, 0, none⟩)] w fun e w' => ∃ v, e = .returned v ∧ w'.ownsRow w.heap.size 3 1 v D.waiting.length (D.waiting.map fun k : Nat => Value.int .i64 (k : Int)) ∧ Below w.heap.size w w' := by
  obtain ⟨gl, gm, cap, rows, junk, M, tv, hf, h3, h4, H⟩ := hd.open_
  have hP : PayIs w rd rows D.last M D.wait tv D.torn := H.at 3 rfl
  have hM : w.ownsMap Try.prog 3 RV gm (Go.Maps.size M) M := H.at 2 rfl
  have hs := hP.size_le hM
  have hn2 := hf.n2
  have HS := Lib.hid (Try.sorted_calls gm _ M RV w hM (by simp only [maxLen]; omega) (by omega))
  have HK := Lib.hid (fun ss hss => hP.keys_perm hM (ss := ss) hss)
  clear hP hM hd
  go_enter Try.func12, Try.ntmps12
  go_wp2_with (first
    | (refine wpList_load1_st rfl 56 _ rfl _ _ rfl _ _ _ (H.at 0 rfl) _ Try.underlying56 rfl _ (dRow1 _ _ _ _ _ _ _ _ _ _) ?_)
    | (go_at_call 37; (with_reducible refine (Try.keys_calls gm _).mono ?_); rintro e W' ⟨rfl, rfl⟩)
    | (go_at_call 36; go_loud ((refine HS.out.mono ?_); rintro e W' ⟨v, ss, rfl, hperm, hrow, hb⟩)))
  go_ret
  have e1 := HK.out ss hperm
  have e2 : ss.length = D.waiting.length := by
    have := congrArg List.length e1
    simpa using this
  refine ⟨v, rfl, ?_, hb⟩
  rw [e1, e2, List.map_map] at hrow
  exact hrow

theorem waiting_nil (w : World) : Calls Try.prog 12 #[.pointer none] w fun e w' => e = .returned (.slice none 0 0) ∧ w = w' := by
  go_enter Try.func12, Try.ntmps12
  go_wp2
  go_ret
  exact ⟨rfl, rfl⟩

end Go.Proofs.Ytajlhloapglafaa
