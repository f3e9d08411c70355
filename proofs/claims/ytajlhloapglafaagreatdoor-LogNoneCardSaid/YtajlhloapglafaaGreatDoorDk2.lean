/- The disk's map, looked up and stored. -/
import Derived.Test.YtajlhloapglafaaGreatDoorDk1
namespace Go.Proofs.YtajlhloapglafaaGreatDoor
open Go.RowKit
set_option linter.unusedSimpArgs false
set_option linter.unusedVariables false
set_option maxRecDepth 4000

theorem keyI_is {k : Nat} (h : k < 1048576) : keyOf Tryz.prog 3 (.int .i64 (k : Int)) = some (keyI k) := by
  refine Go.Maps.keyOf_int_mk Tryz.underlying3 ?_
  simp only [Lit.wf, IntKind.min, IntKind.max, IntKind.signed, IntKind.bits, Bool.and_eq_true, decide_eq_true_eq]
  refine ⟨?_, ?_⟩ <;> simp <;> omega

theorem keyI_inj {a b : Nat} (h : keyI a = keyI b) : a = b := by
  simp [keyI] at h; omega

theorem zero_bytes (W : World) : (zeroValue 22).run Tryz.prog W = .ok (.slice none 0 0) W := by kernel_rfl

/-- A look-up that has been run. -/
theorem wpList_lookup_run {P : Program} {ops : Array Oper} {rest : List Oper} {o : Oper} {a : Act} {Q : Exit → Act → World → Prop} {W : World}
    (hwt : Region.wanted o (yielded ops a.tmps) = true) (t : TypeId) (m x : Operand) (c : Bool) (hop : o.op = .lookup t m x c) (mv xv v : Value) (hm : a.eval m = mv) (hx : a.eval x = xv)
    (hrun : (Instr.lookup t mv xv c).run P W = .ok v W) (h : wpList P ops Q rest (a.put o.dst v) W) : wpList P ops Q (o :: rest) a W := by
  refine wpList_want hwt fun K hK => ?_
  unfold Oper.wp
  simp [execOp, hop, hm, hx, hrun, Result.andThen]
  exact hK _ _ h

theorem PayIs.look_no {W : World} {rd : Nat → Prop} {rows : List Value} {last : List (List UInt8)} {M : DataW Value} {wait : Nat → Option (List UInt8)} {tv : Value} {torn : List UInt8} (h : PayIs W rd rows last M wait tv torn) {gm n : Nat}
    (hm : W.ownsMap Tryz.prog 3 RV gm n M) (k : Nat) (hk : k < 1048576) (hw : wait k = none) :
    (Instr.lookup 74 (.map (some gm)) (.int .i64 (k : Int)) true).run Tryz.prog W = .ok (.tuple #[.slice none 0 0, .bool false]) W := by
  rcases h.waits k with ⟨h1, _⟩ | ⟨v, l, _, _, h3, _⟩
  · obtain ⟨v, ps, hrun, hv⟩ := hm.look_ok keyedInt Tryz.underlying74 (zero_bytes W) (zd := .held (.slice none 0 0)) (zp := []) rfl (keyI_is hk)
    rw [Go.Maps.atKey_of_not_has h1] at hv
    simp [RV] at hv
    rw [hrun, hv.1, h1]
  · rw [hw] at h3; cases h3

theorem PayIs.look_yes {W : World} {rd : Nat → Prop} {rows : List Value} {last : List (List UInt8)} {M : DataW Value} {wait : Nat → Option (List UInt8)} {tv : Value} {torn : List UInt8} (h : PayIs W rd rows last M wait tv torn) {gm n : Nat}
    (hm : W.ownsMap Tryz.prog 3 RV gm n M) (k : Nat) (hk : k < 1048576) {l : List UInt8} (hw : wait k = some l) :
    ∃ v, (Instr.lookup 74 (.map (some gm)) (.int .i64 (k : Int)) true).run Tryz.prog W = .ok (.tuple #[v, .bool true]) W ∧
      (Instr.lookup 74 (.map (some gm)) (.int .i64 (k : Int)) false).run Tryz.prog W = .ok v W ∧ l.length = 256 ∧ ByS W rd v l := by
  rcases h.waits k with ⟨_, h1⟩ | ⟨v, l', h1, h2, h3, h4, h5⟩
  · rw [hw] at h1; cases h1
  · rw [hw] at h3
    cases h3
    obtain ⟨v1, ps, hrun, hv⟩ := hm.look_ok keyedInt Tryz.underlying74 (zero_bytes W) (zd := .held (.slice none 0 0)) (zp := []) rfl (keyI_is hk)
    obtain ⟨v2, ps2, hrun2, hv2⟩ := hm.lookup keyedInt Tryz.underlying74 (zero_bytes W) (zd := .held (.slice none 0 0)) (zp := []) rfl (keyI_is hk)
    rw [h2] at hv hv2
    simp [RV] at hv hv2
    refine ⟨v, ?_, ?_, h4, h5⟩
    · rw [hrun, hv.1, h1]
    · rw [hrun2, hv2.1]

/-- Bytes that are some. -/
theorem ByS.open_ {W : World} {rd : Nat → Prop} {v : Value} {l : List UInt8} (h : ByS W rd v l) (hl : l.length = 256) :
    ∃ g off cap, v = .slice (some ⟨g, off, none⟩) l.length cap ∧ l.length ≤ cap ∧ rd g ∧ BytesAt W g off l := by
  rcases h with ⟨rfl, _⟩ | ⟨g, off, cap, h1, h2, h3, h4⟩
  · simp at hl
  · rcases h3 with rfl | h3
    · simp at hl
    · exact ⟨g, off, cap, h1, h2, h3, h4⟩

theorem nodup_le {α : Type} [DecidableEq α] : ∀ (l m : List α), l.Nodup → (∀ x ∈ l, x ∈ m) → l.length ≤ m.length
  | [], m, _, _ => Nat.zero_le _
  | x :: l, m, hn, hs => by
    have hx := hs x (by simp)
    have := nodup_le l (m.erase x) (List.nodup_cons.1 hn).2 (fun y hy => by
      have hne : y ≠ x := fun e => (List.nodup_cons.1 hn).1 (e ▸ hy)
      exact (List.mem_erase_of_ne hne).2 (hs y (by simp [hy])))
    have h1 := List.length_erase_of_mem hx
    have h2 := List.length_pos_of_mem hx
    simp only [List.length_cons]
    omega

/-- How many wait. -/
theorem PayIs.size_le {W : World} {rd : Nat → Prop} {rows : List Value} {last : List (List UInt8)} {M : DataW Value} {wait : Nat → Option (List UInt8)} {tv : Value} {torn : List UInt8} (h : PayIs W rd rows last M wait tv torn) {gm n : Nat}
    (hm : W.ownsMap Tryz.prog 3 RV gm n M) : Go.Maps.size M ≤ last.length := by
  obtain ⟨es, rfl, hp⟩ := hm.tidy keyedInt
  have hk := h.keys
  have hn : (es.map Prod.fst).Nodup := by
    rw [List.nodup_iff_pairwise_ne, List.pairwise_map]
    exact hp
  have key : ∀ x ∈ es.map Prod.fst, ∃ k : Nat, k < last.length ∧ x = keyI k := by
    intro x hx
    obtain ⟨p, hp1, rfl⟩ := List.mem_map.1 hx
    have hkey : WideAt.IsKeyLit p.1 := by
      obtain ⟨es', e1, _, h3⟩ := hm.canon keyedInt
      cases e1
      exact h3 p hp1
    refine hk p.1 ?_
    rw [Go.Maps.has_eq, List.any_eq_true]
    exact ⟨p, hp1, WideAt.sameKey_self hkey⟩
  have := nodup_le (((es.map Prod.fst).map fun x => match x with | .int _ k => k | _ => 0)) ((List.range last.length).map (fun k : Nat => (k : Int))) (by
    rw [List.nodup_iff_pairwise_ne, List.pairwise_map]
    refine List.Pairwise.imp_of_mem ?_ hn
    intro a b ha hb hne e
    obtain ⟨i, _, rfl⟩ := key a ha
    obtain ⟨j, _, rfl⟩ := key b hb
    simp only [keyI] at e
    have : i = j := by omega
    exact hne (by rw [this])) (by
    intro x hx
    obtain ⟨p, hp1, rfl⟩ := List.mem_map.1 hx
    obtain ⟨i, hi, rfl⟩ := key p hp1
    simp only [keyI, List.mem_map, List.mem_range]
    exact ⟨i, hi, rfl⟩)
  simpa [Go.Maps.size] using this

theorem ownsMap_fit {W : World} {gm n : Nat} {M : DataW Value} (hm : W.ownsMap Tryz.prog 3 RV gm n M) : W.ownsMap Tryz.prog 3 RV gm (Go.Maps.size M) M := by
  obtain ⟨es, clock, hb, F, hs, rfl⟩ := hm
  refine ⟨es, clock, hb, F, ?_, rfl⟩
  simp [Go.Maps.size, length_sorted]

theorem Fix.turned {w w' : World} {b : Nat} (h : w.mapTurned w' b) : Fix (· = b) w w' := by
  have g := h.grown
  exact ⟨g.os, g.tape, g.output, g.size, fun i hi hn => g.block i hi (by simpa using fun e => hn e)⟩

end Go.Proofs.YtajlhloapglafaaGreatDoor
