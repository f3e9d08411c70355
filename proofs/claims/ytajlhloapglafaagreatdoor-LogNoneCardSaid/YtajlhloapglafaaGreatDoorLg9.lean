/- The log's find, on a disk that was formatted. -/
import Derived.Test.YtajlhloapglafaaGreatDoorLg8
namespace Go.Proofs.YtajlhloapglafaaGreatDoor
open Go.RowKit
set_option linter.unusedSimpArgs false
set_option linter.unusedVariables false
set_option maxRecDepth 4000

section
variable {P : Program} {ops : Array Oper} {rest : List Oper} {o : Oper} {a : Act} {Q : Exit → Act → World → Prop}
variable {M0 R0 : Nat → Prop} {w0 W : World} {L : List Asrt}

/-- Some cells amid a row are stored. -/
theorem wpList_storemid_st (H : St M0 R0 w0 W L) (i : Nat) (hwt : Region.wanted o (yielded ops a.tmps) = true) (ty : TypeId) (x y : Operand) (ho : o.op = .store ty x y)
    (g off : Nat) (vs : List Value) (hx : a.eval x = .pointer (some ⟨g, off, none⟩)) (hy : a.eval y = .agg vs.toArray)
    (t : TypeId) (old : List Value) (hi : L[i]? = some (blk g (.cells old.toArray t (0, 0)))) (hn : (P.info? ty).map (·.size) = some vs.length) (hfit : off + vs.length ≤ old.length) (h1 : ∀ v ∈ vs, v.oneCell' = true)
    (h : ∀ W', St M0 R0 w0 W' (L.set i (blk g (.cells (old.take off ++ vs ++ old.drop (off + vs.length)).toArray t (0, 0)))) → wpList P ops Q rest (a.put o.dst undef) W') : wpList P ops Q (o :: rest) a W := by
  refine wpList_want hwt fun K hK => ?_
  have hg := H.at i hi
  have hst := run_storeCells_at P g off t vs 0 _ W hg (by simpa using hfit) h1
  simp only [Nat.add_zero, List.toList_toArray] at hst
  have h' := hK _ _ (h _ (H.setRow i hi _))
  cases hq : P.info? ty with
  | none => simp [hq] at hn
  | some j =>
    have hs : j.size = vs.length := by simpa [hq] using hn
    unfold Oper.wp execOp
    simp [ho, hx, hy, Instr.storeAt, Instr.sureAddr, storeVar, sizeOf, typeInfo, hq, hs, Value.cells, hst, Result.andThen]
    simp only [List.append_assoc] at h'
    exact h'
end

/-- A disk that was formatted, and not written since. -/
structure FreshD (D : DS) (N ring : Nat) : Prop where
  dead : D.dead = false
  len : D.last.length = N
  r1 : 8 ≤ ring
  r2 : ring ≤ 512
  fit : 8 + 2 + ring ≤ N
  top : N ≤ 1900
  s0 : D.sect 0 = noSect
  s1 : D.sect 1 = anchorB 1 1 0 ring
  rest : ∀ k, 2 ≤ k → k < N → D.sect k = noSect

def LS.found (X : LS) (s turn place ring : Nat) : LS := { X with s := s, turn := turn, place := place, ring := ring }

theorem agg_anchor (a b c d : Nat) : anchorV a b c d = .agg (anchorR a b c d).toArray := rfl
theorem anchorR_one (a b c d : Nat) : ∀ v ∈ anchorR a b c d, v.oneCell' = true := by
  intro v hv
  simp only [anchorR, List.mem_cons, List.not_mem_nil, or_false] at hv
  rcases hv with rfl | rfl | rfl | rfl <;> rfl

set_option maxHeartbeats 2000000 in
theorem find_fresh {w : World} {g gd gm : Nat} {X : LS} {M : DataW Value} {rm : Nat → Prop} {n : Nat} {D : DS} {own rd : Nat → Prop} (hb : Bundle w (logL g gd gm X M rm n D own rd)) (hX : X.s = 0) {N ring : Nat} (hf : FreshD D N ring) :
    Calls Tryz.prog 80 #[.pointer (some ⟨g, 0, none⟩)] w fun e w' => e = .returned .nilIface ∧
      BunTo w (ownL (logL g gd gm X M rm n D own rd)) (rdL (logL g gd gm X M rm n D own rd)) (logL g gd gm (X.found 1 1 0 ring) M rm n D own rd) w' := by
  have H := hb.open_
  obtain ⟨O, hO⟩ : ∃ O, ownL (logL g gd gm X M rm n D own rd) = O := ⟨_, rfl⟩
  obtain ⟨R, hR⟩ : ∃ R, rdL (logL g gd gm X M rm n D own rd) = R := ⟨_, rfl⟩
  rw [hO, hR] at H ⊢
  clear hO hR
  have HF := Lib.hid hf
  have HL := Lib.hid (show (D.last.length : Int) = (N : Int) by rw [hf.len])
  have HX := Lib.hid hX
  clear hb hf hX
  go_enter Tryz.func80, Tryz.ntmps80
  go_wp2
  go_loopw [8, 3, 4, 5, 6, 7] (fun i _ _ _ _ _ wr => ∃ (j : Nat), i = .int .i64 (j : Int) ∧ j ≤ 2 ∧
      St O R w wr (logL g gd gm (if j = 2 then X.found 1 1 0 ring else X) M rm n D own rd)) (fun i _ _ _ _ _ _ => 2 - (intOf i).toNat)
  case atStart => exact ⟨0, rfl, by omega, H⟩
  case round =>
    clear H
    obtain ⟨j, rfl, hj, H⟩ := hrel
    rcases (show j = 0 ∨ j = 1 ∨ j = 2 by omega) with rfl | rfl | rfl
    · rw [if_neg (by decide)] at H
      go_wp2_with (first
        | (refine wpList_load1_st rfl 25 _ rfl _ _ rfl _ _ _ (H.at 0 rfl) _ Tryz.underlying25 rfl _ (lRow0 _ _ _ _ _ _ _ _ _) ?_)
        | (go_at_call 55; go_loud ((with_reducible refine (lread_ok (g := g) (gd := gd) (gm := gm) (X := X) (M := M) (rm := rm) (n := n) (D := D) (own := own) (rd := rd) H.bundle HF.out.dead 0 0 (by decide) (by have := HF.out.len; have := HF.out.fit; omega)).mono ?_); rintro e W ⟨gc, cap, junk, rfl, hl2, ha2, hag, hto⟩; replace H := hto.front2 (R := []) H; clear hto; rw [HF.out.s0] at H; simp only [logL, List.nil_append, List.cons_append, List.append_nil] at H))
        | (go_at_call 40; go_loud ((with_reducible refine (len_calls (H.at 3 rfl)).mono ?_); rintro e W' ⟨rfl, rfl⟩; rw [HL.out]))
        | (go_at_call 103; go_loud ((with_reducible refine (stands_no gc 0 cap _ _ (BytesAt.front (H.at 4 rfl)) (Array.getElem?_eq_some_iff.1 (H.at 4 rfl : _ = some _)).1 ha2).mono ?_); rintro e W ⟨rfl, hbl⟩; replace H := H.stay (Fix.of_below hbl _); clear hbl))
        | (refine wpList_alloc_st H rfl 80 rfl _ zero_anchor ?_; clear H; intro W g6 H; rw [cells_anchorV] at H; simp only [List.nil_append, List.cons_append] at H)
        | (refine wpList_storerow_st H 5 rfl 80 _ _ rfl _ (anchorR 0 0 0 0).toArray rfl rfl _ _ rfl size_anchor rfl (anchorR_all _ _ _ _) ?_; clear H; intro W H; simp only [List.set_cons_zero, List.set_cons_succ] at H))
      refine wp_region_held_drew (S := fun _ => True) (by kernel_rfl) trivial (fun hHeld => ?_)
      (refine wpAnyH_take (i := 0) (v := ?_) rfl (by kernel_rfl) (by kernel_rfl) (by kernel_rfl) (fun _ _ _ h => h) (Or.inl ⟨by rfl, ?_⟩) (by assumption) ?_; rotate_left; focus (intro w hSw; (try dsimp only at hSw); go_simp; all_goals (with_reducible rfl))); (try simp only [Act.put, List.setIfInBounds_toArray, List.set_cons_zero, List.set_cons_succ, List.getElem_toArray, List.getElem_cons_succ, List.getElem_cons_zero])
      (refine wpAnyH_take (i := 1) (v := ?_) rfl (by kernel_rfl) (by kernel_rfl) (by kernel_rfl) (fun _ _ _ h => h) (Or.inl ⟨by rfl, ?_⟩) (by assumption) ?_; rotate_left; focus (intro w hSw; (try dsimp only at hSw); go_simp; all_goals (with_reducible rfl))); (try simp only [Act.put, List.setIfInBounds_toArray, List.set_cons_zero, List.set_cons_succ, List.getElem_toArray, List.getElem_cons_succ, List.getElem_cons_zero])
      (refine wpAnyH_take (i := 2) (v := undef) rfl (by kernel_rfl) (by kernel_rfl) (by kernel_rfl) (fun _ _ _ h => h) (Or.inr ⟨by rfl, rfl⟩) (by assumption) ?_); (try simp only [Act.put, List.setIfInBounds_toArray, List.set_cons_zero, List.set_cons_succ, List.getElem_toArray, List.getElem_cons_succ, List.getElem_cons_zero])
      (refine wpAnyH_take (i := 3) (v := undef) rfl (by kernel_rfl) (by kernel_rfl) (by kernel_rfl) (fun _ _ _ h => h) (Or.inr ⟨by rfl, rfl⟩) (by assumption) ?_); (try simp only [Act.put, List.setIfInBounds_toArray, List.set_cons_zero, List.set_cons_succ, List.getElem_toArray, List.getElem_cons_succ, List.getElem_cons_zero])
      (refine wpAnyH_take (i := 4) (v := undef) rfl (by kernel_rfl) (by kernel_rfl) (by kernel_rfl) (fun _ _ _ h => h) (Or.inr ⟨by rfl, rfl⟩) (by assumption) ?_); (try simp only [Act.put, List.setIfInBounds_toArray, List.set_cons_zero, List.set_cons_succ, List.getElem_toArray, List.getElem_cons_succ, List.getElem_cons_zero])
      (refine wpAnyH_take (i := 5) (v := undef) rfl (by kernel_rfl) (by kernel_rfl) (by kernel_rfl) (fun _ _ _ h => h) (Or.inr ⟨by rfl, rfl⟩) (by assumption) ?_); (try simp only [Act.put, List.setIfInBounds_toArray, List.set_cons_zero, List.set_cons_succ, List.getElem_toArray, List.getElem_cons_succ, List.getElem_cons_zero])
      (refine wpAnyH_take (i := 6) (v := undef) rfl (by kernel_rfl) (by kernel_rfl) (by kernel_rfl) (fun _ _ _ h => h) (Or.inr ⟨by rfl, rfl⟩) (by assumption) ?_); (try simp only [Act.put, List.setIfInBounds_toArray, List.set_cons_zero, List.set_cons_succ, List.getElem_toArray, List.getElem_cons_succ, List.getElem_cons_zero])
      (refine wpAnyH_take (i := 7) (v := undef) rfl (by kernel_rfl) (by kernel_rfl) (by kernel_rfl) (fun _ _ _ h => h) (Or.inr ⟨by rfl, rfl⟩) (by assumption) ?_); (try simp only [Act.put, List.setIfInBounds_toArray, List.set_cons_zero, List.set_cons_succ, List.getElem_toArray, List.getElem_cons_succ, List.getElem_cons_zero])
      (refine wpAnyH_take (i := 8) (v := undef) rfl (by kernel_rfl) (by kernel_rfl) (by kernel_rfl) (fun _ _ _ h => h) (Or.inr ⟨by rfl, rfl⟩) (by assumption) ?_); (try simp only [Act.put, List.setIfInBounds_toArray, List.set_cons_zero, List.set_cons_succ, List.getElem_toArray, List.getElem_cons_succ, List.getElem_cons_zero])
      (refine wpAnyH_take (i := 9) (v := undef) rfl (by kernel_rfl) (by kernel_rfl) (by kernel_rfl) (fun _ _ _ h => h) (Or.inr ⟨by rfl, rfl⟩) (by assumption) ?_); (try simp only [Act.put, List.setIfInBounds_toArray, List.set_cons_zero, List.set_cons_succ, List.getElem_toArray, List.getElem_cons_succ, List.getElem_cons_zero])
      (refine wpAnyH_take (i := 10) (v := ?_) rfl (by kernel_rfl) (by kernel_rfl) (by kernel_rfl) (fun _ _ _ h => h) (Or.inl ⟨by rfl, ?_⟩) (by assumption) ?_; rotate_left; focus (intro w hSw; (try dsimp only at hSw); go_simp; all_goals (with_reducible rfl))); (try simp only [Act.put, List.setIfInBounds_toArray, List.set_cons_zero, List.set_cons_succ, List.getElem_toArray, List.getElem_cons_succ, List.getElem_cons_zero])
      (refine wpAnyH_done (by kernel_rfl) ?_ _)
      replace H := H.drew.take 4
      clear hHeld
      go_wp2
      go_roundw
      case rel => exact ⟨1, rfl, by omega, H⟩
      case measure => simp [intOf]
    · rw [if_neg (by decide)] at H
      go_wp2_with (first
        | (refine wpList_load1_st rfl 25 _ rfl _ _ rfl _ _ _ (H.at 0 rfl) _ Tryz.underlying25 rfl _ (lRow0 _ _ _ _ _ _ _ _ _) ?_)
        | (go_at_call 55; go_loud ((with_reducible refine (lread_ok (g := g) (gd := gd) (gm := gm) (X := X) (M := M) (rm := rm) (n := n) (D := D) (own := own) (rd := rd) H.bundle HF.out.dead 1 1 (by decide) (by have := HF.out.len; have := HF.out.fit; omega)).mono ?_); rintro e W ⟨gc, cap, junk, rfl, hl2, ha2, hag, hto⟩; replace H := hto.front2 (R := []) H; clear hto; rw [HF.out.s1] at H; simp only [logL, List.nil_append, List.cons_append, List.append_nil] at H))
        | (go_at_call 40; go_loud ((with_reducible refine (len_calls (H.at 3 rfl)).mono ?_); rintro e W' ⟨rfl, rfl⟩; rw [HL.out]))
        | (go_at_call 103; go_loud ((with_reducible refine (stands_yes 1 1 0 ring gc 0 cap (N : Int) N rfl _ (by omega) (by omega) (by have := HF.out.r1; omega) ⟨HF.out.r1, HF.out.r2⟩ HF.out.fit HF.out.top (BytesAt.front (H.at 4 rfl)) (Array.getElem?_eq_some_iff.1 (H.at 4 rfl : _ = some _)).1 ha2).mono ?_); rintro e W ⟨rfl, hbl⟩; replace H := H.stay (Fix.of_below hbl _); clear hbl))
        | (refine wpList_alloc_st H rfl 80 rfl _ zero_anchor ?_; clear H; intro W g6 H; rw [cells_anchorV] at H; simp only [List.nil_append, List.cons_append] at H)
        | (refine wpList_storerow_st H 5 rfl 80 _ _ rfl _ (anchorR 1 1 0 ring).toArray rfl rfl _ _ rfl size_anchor rfl (anchorR_all _ _ _ _) ?_; clear H; intro W H; simp only [List.set_cons_zero, List.set_cons_succ] at H))
      simp only [HX.out] at H
      replace H := H.drew
      have c0 := row_cell (H.at 5 rfl) (anchorR0 _ _ _ _)
      have c1 := row_cell (H.at 0 rfl) (lRow3 _ _ _ _ _ _ _ _ _)
      refine wp_region_held_drew (S := fun w' => w'.cell? ⟨g6, 0, none⟩ = some (.int .u64 ((1 : Nat) : Int)) ∧ w'.cell? ⟨g, 3, none⟩ = some (.int .u64 ((0 : Nat) : Int))) (by kernel_rfl) ⟨c0, c1⟩ (fun hHeld => ?_)
      (refine wpAnyH_take (i := 0) (v := ?_) rfl (by kernel_rfl) (by kernel_rfl) (by kernel_rfl) (fun _ _ _ h => h) (Or.inl ⟨by rfl, ?_⟩) (by assumption) ?_; rotate_left; focus (intro w hSw; (try dsimp only at hSw); go_simp; all_goals (with_reducible rfl))); (try simp only [Act.put, List.setIfInBounds_toArray, List.set_cons_zero, List.set_cons_succ, List.getElem_toArray, List.getElem_cons_succ, List.getElem_cons_zero])
      (refine wpAnyH_take (i := 1) (v := ?_) rfl (by kernel_rfl) (by kernel_rfl) (by kernel_rfl) (fun _ _ _ h => h) (Or.inl ⟨by rfl, ?_⟩) (by assumption) ?_; rotate_left; focus (intro w hSw; (try dsimp only at hSw); go_simp; all_goals (with_reducible rfl))); (try simp only [Act.put, List.setIfInBounds_toArray, List.set_cons_zero, List.set_cons_succ, List.getElem_toArray, List.getElem_cons_succ, List.getElem_cons_zero])
      (refine wpAnyH_take (i := 2) (v := ?_) rfl (by kernel_rfl) (by kernel_rfl) (by kernel_rfl) (fun _ _ _ h => h) (Or.inl ⟨by rfl, ?_⟩) (by assumption) ?_; rotate_left; focus (intro w hSw; (try dsimp only at hSw); go_simp; all_goals (with_reducible rfl))); (try simp only [Act.put, List.setIfInBounds_toArray, List.set_cons_zero, List.set_cons_succ, List.getElem_toArray, List.getElem_cons_succ, List.getElem_cons_zero])
      (refine wpAnyH_take (i := 3) rfl (by kernel_rfl) (by kernel_rfl) (by kernel_rfl) (fun _ _ _ h => h) ((yieldsIf_load1 (by rfl) 33 _ rfl _ _ (by rfl) _ Tryz.underlying33 rfl _ (fun w h => h.1))) (by assumption) ?_); (try simp only [Act.put, List.setIfInBounds_toArray, List.set_cons_zero, List.set_cons_succ, List.getElem_toArray, List.getElem_cons_succ, List.getElem_cons_zero])
      (refine wpAnyH_take (i := 4) (v := ?_) rfl (by kernel_rfl) (by kernel_rfl) (by kernel_rfl) (fun _ _ _ h => h) (Or.inl ⟨by rfl, ?_⟩) (by assumption) ?_; rotate_left; focus (intro w hSw; (try dsimp only at hSw); go_simp; all_goals (with_reducible rfl))); (try simp only [Act.put, List.setIfInBounds_toArray, List.set_cons_zero, List.set_cons_succ, List.getElem_toArray, List.getElem_cons_succ, List.getElem_cons_zero])
      (refine wpAnyH_take (i := 5) (v := ?_) rfl (by kernel_rfl) (by kernel_rfl) (by kernel_rfl) (fun _ _ _ h => h) (Or.inl ⟨by rfl, ?_⟩) (by assumption) ?_; rotate_left; focus (intro w hSw; (try dsimp only at hSw); go_simp; all_goals (with_reducible rfl))); (try simp only [Act.put, List.setIfInBounds_toArray, List.set_cons_zero, List.set_cons_succ, List.getElem_toArray, List.getElem_cons_succ, List.getElem_cons_zero])
      (refine wpAnyH_take (i := 6) (v := ?_) rfl (by kernel_rfl) (by kernel_rfl) (by kernel_rfl) (fun _ _ _ h => h) (Or.inl ⟨by rfl, ?_⟩) (by assumption) ?_; rotate_left; focus (intro w hSw; (try dsimp only at hSw); go_simp; all_goals (with_reducible rfl))); (try simp only [Act.put, List.setIfInBounds_toArray, List.set_cons_zero, List.set_cons_succ, List.getElem_toArray, List.getElem_cons_succ, List.getElem_cons_zero])
      (refine wpAnyH_take (i := 7) (v := ?_) rfl (by kernel_rfl) (by kernel_rfl) (by kernel_rfl) (fun _ _ _ h => h) (Or.inl ⟨by rfl, ?_⟩) (by assumption) ?_; rotate_left; focus (intro w hSw; (try dsimp only at hSw); go_simp; all_goals (with_reducible rfl))); (try simp only [Act.put, List.setIfInBounds_toArray, List.set_cons_zero, List.set_cons_succ, List.getElem_toArray, List.getElem_cons_succ, List.getElem_cons_zero])
      (refine wpAnyH_take (i := 8) rfl (by kernel_rfl) (by kernel_rfl) (by kernel_rfl) (fun _ _ _ h => h) ((yieldsIf_load1 (by rfl) 33 _ rfl _ _ (by rfl) _ Tryz.underlying33 rfl _ (fun w h => h.2))) (by assumption) ?_); (try simp only [Act.put, List.setIfInBounds_toArray, List.set_cons_zero, List.set_cons_succ, List.getElem_toArray, List.getElem_cons_succ, List.getElem_cons_zero])
      (refine wpAnyH_take (i := 9) (v := ?_) rfl (by kernel_rfl) (by kernel_rfl) (by kernel_rfl) (fun _ _ _ h => h) (Or.inl ⟨by rfl, ?_⟩) (by assumption) ?_; rotate_left; focus (intro w hSw; (try dsimp only at hSw); go_simp; all_goals (with_reducible rfl))); (try simp only [Act.put, List.setIfInBounds_toArray, List.set_cons_zero, List.set_cons_succ, List.getElem_toArray, List.getElem_cons_succ, List.getElem_cons_zero])
      (refine wpAnyH_take (i := 10) (v := ?_) rfl (by kernel_rfl) (by kernel_rfl) (by kernel_rfl) (fun _ _ _ h => h) (Or.inl ⟨by rfl, ?_⟩) (by assumption) ?_; rotate_left; focus (intro w hSw; (try dsimp only at hSw); go_simp; all_goals (with_reducible rfl))); (try simp only [Act.put, List.setIfInBounds_toArray, List.set_cons_zero, List.set_cons_succ, List.getElem_toArray, List.getElem_cons_succ, List.getElem_cons_zero])
      (refine wpAnyH_done (by kernel_rfl) ?_ _)
      clear hHeld c0 c1
      go_wp2_with (first
        | (refine wpList_loadrow_st rfl 80 _ rfl _ rfl _ _ _ (H.at 5 rfl) _ Tryz.underlying80 rfl size_anchor ?_)
        | (refine wpList_storemid_st H 0 rfl 80 _ _ rfl g 3 (anchorR 1 1 0 ring) rfl rfl _ _ rfl size_anchor (by simp [lRow, anchorR]) (anchorR_one _ _ _ _) ?_; clear H; intro W H; simp only [List.set_cons_zero, List.set_cons_succ] at H))
      replace H := H.take 4
      replace H : St O R w _ (logL g gd gm (X.found 1 1 0 ring) M rm n D own rd) := H
      (try simp only [Act.put])
      go_roundw
      case rel => exact ⟨2, rfl, by omega, H⟩
      case measure => simp [intOf]
    · rw [if_pos rfl] at H
      have hji : ¬ ((2 : Int) < 2) := by omega
      have hs1 : (((X.found 1 1 0 ring).s : Int) == 0) = false := rfl
      go_wp2_with (first | (refine wpList_load1_st rfl 33 _ rfl _ _ rfl _ _ _ (H.at 0 rfl) _ Tryz.underlying33 rfl _ (lRow3 _ _ _ _ _ _ _ _ _) ?_))
      go_ret
      exact ⟨rfl, H.bunTo⟩

end Go.Proofs.YtajlhloapglafaaGreatDoor
