/- What a log on a disk that is none answers; what no log answers. -/
import Derived.Test.YtajlhloapglafaaGreatDoorLgK
namespace Go.Proofs.YtajlhloapglafaaGreatDoor
open Go.RowKit
set_option linter.unusedSimpArgs false
set_option linter.unusedVariables false
set_option maxRecDepth 4000

/-- A disk without an anchor. -/
structure BareD (D : DS) (N : Nat) : Prop where
  dead : D.dead = false
  len : D.last.length = N
  big : 2 ≤ N
  s : ∀ k, k < 2 → D.sect k = noSect

set_option maxHeartbeats 2000000 in
theorem find_none {w : World} {g gd gm : Nat} {X : LS} {M : DataW Value} {rm : Nat → Prop} {n : Nat} {D : DS} {own rd : Nat → Prop} (hb : Bundle w (logL g gd gm X M rm n D own rd)) (hX : X.s = 0) {N : Nat} (hf : BareD D N) :
    Calls Tryz.prog 80 #[.pointer (some ⟨g, 0, none⟩)] w fun e w' => ∃ ge, e = .returned (faultV ge) ∧ w'.heap[ge]? = some (faultO 10 .nilIface) ∧
      BunTo w (ownL (logL g gd gm X M rm n D own rd)) (rdL (logL g gd gm X M rm n D own rd)) (logL g gd gm X M rm n D own rd) w' := by
  have H := hb.open_
  obtain ⟨O, hO⟩ : ∃ O, ownL (logL g gd gm X M rm n D own rd) = O := ⟨_, rfl⟩
  obtain ⟨R, hR⟩ : ∃ R, rdL (logL g gd gm X M rm n D own rd) = R := ⟨_, rfl⟩
  rw [hO, hR] at H ⊢
  clear hO hR
  have HF := Lib.hid hf
  have HL := Lib.hid (show (D.last.length : Int) = (N : Int) by rw [hf.len])
  have HX := Lib.hid hX
  clear hb hf hX
  go_enter Tryz.func80, Tryz.ntmps80
  go_wp2
  go_loopw [8, 3, 4, 5, 6, 7] (fun i _ _ _ _ _ wr => ∃ (j : Nat), i = .int .i64 (j : Int) ∧ j ≤ 2 ∧
      St O R w wr (logL g gd gm X M rm n D own rd)) (fun i _ _ _ _ _ _ => 2 - (intOf i).toNat)
  case atStart => exact ⟨0, rfl, by omega, H⟩
  case round =>
    clear H
    obtain ⟨j, rfl, hj, H⟩ := hrel
    by_cases hj2 : j < 2
    · have hji : (j : Int) < 2 := by omega
      have hj0 : 0 ≤ (j : Int) := by omega
      go_wp2_with (first
        | (refine wpList_load1_st rfl 25 _ rfl _ _ rfl _ _ _ (H.at 0 rfl) _ Tryz.underlying25 rfl _ (lRow0 _ _ _ _ _ _ _ _ _) ?_)
        | (go_at_call 55; go_loud ((with_reducible refine (lread_ok (g := g) (gd := gd) (gm := gm) (X := X) (M := M) (rm := rm) (n := n) (D := D) (own := own) (rd := rd) H.bundle HF.out.dead (j : Int) j rfl (by have := HF.out.len; have := HF.out.big; omega)).mono ?_); rintro e W ⟨gc, cap, junk, rfl, hl2, ha2, hag, hto⟩; replace H := hto.front2 (R := []) H; clear hto; rw [HF.out.s j hj2] at H; simp only [logL, List.nil_append, List.cons_append, List.append_nil] at H))
        | (go_at_call 40; go_loud ((with_reducible refine (len_calls (H.at 3 rfl)).mono ?_); rintro e W' ⟨rfl, rfl⟩; rw [HL.out]))
        | (go_at_call 103; go_loud ((with_reducible refine (stands_no gc 0 cap _ _ (BytesAt.front (H.at 4 rfl)) (Array.getElem?_eq_some_iff.1 (H.at 4 rfl : _ = some _)).1 ha2).mono ?_); rintro e W ⟨rfl, hbl⟩; replace H := H.stay (Fix.of_below hbl _); clear hbl))
        | (refine wpList_alloc_st H rfl 80 rfl _ zero_anchor ?_; clear H; intro W g6 H; rw [cells_anchorV] at H; simp only [List.nil_append, List.cons_append] at H)
        | (refine wpList_storerow_st H 5 rfl 80 _ _ rfl _ (anchorR 0 0 0 0).toArray rfl rfl _ _ rfl size_anchor rfl (anchorR_all _ _ _ _) ?_; clear H; intro W H; simp only [List.set_cons_zero, List.set_cons_succ] at H))
      refine wp_region_held_drew (S := fun _ => True) (by kernel_rfl) trivial (fun hHeld => ?_)
      (refine wpAnyH_take (i := 0) (v := ?_) rfl (by kernel_rfl) (by kernel_rfl) (by kernel_rfl) (fun _ _ _ h => h) (Or.inl ⟨by rfl, ?_⟩) (by assumption) ?_; rotate_left; focus (intro w hSw; (try dsimp only at hSw); go_simp; all_goals (with_reducible rfl))); (try simp only [Act.put, List.setIfInBounds_toArray, List.set_cons_zero, List.set_cons_succ, List.getElem_toArray, List.getElem_cons_succ, List.getElem_cons_zero])
      (refine wpAnyH_take (i := 1) (v := ?_) rfl (by kernel_rfl) (by kernel_rfl) (by kernel_rfl) (fun _ _ _ h => h) (Or.inl ⟨by rfl, ?_⟩) (by assumption) ?_; rotate_left; focus (intro w hSw; (try dsimp only at hSw); go_simp; all_goals (with_reducible rfl))); (try simp only [Act.put, List.setIfInBounds_toArray, List.set_cons_zero, List.set_cons_succ, List.getElem_toArray, List.getElem_cons_succ, List.getElem_cons_zero])
      (refine wpAnyH_take (i := 2) (v := undef) rfl (by kernel_rfl) (by kernel_rfl) (by kernel_rfl) (fun _ _ _ h => h) (Or.inr ⟨by rfl, rfl⟩) (by assumption) ?_); (try simp only [Act.put, List.setIfInBounds_toArray, List.set_cons_zero, List.set_cons_succ, List.getElem_toArray, List.getElem_cons_succ, List.getElem_cons_zero])
      (refine wpAnyH_take (i := 3) (v := undef) rfl (by kernel_rfl) (by kernel_rfl) (by kernel_rfl) (fun _ _ _ h => h) (Or.inr ⟨by rfl, rfl⟩) (by assumption) ?_); (try simp only [Act.put, List.setIfInBounds_toArray, List.set_cons_zero, List.set_cons_succ, List.getElem_toArray, List.getElem_cons_succ, List.getElem_cons_zero])
      (refine wpAnyH_take (i := 4) (v := undef) rfl (by kernel_rfl) (by kernel_rfl) (by kernel_rfl) (fun _ _ _ h => h) (Or.inr ⟨by rfl, rfl⟩) (by assumption) ?_); (try simp only [Act.put, List.setIfInBounds_toArray, List.set_cons_zero, List.set_cons_succ, List.getElem_toArray, List.getElem_cons_succ, List.getElem_cons_zero])
      (refine wpAnyH_take (i := 5) (v := undef) rfl (by kernel_rfl) (by kernel_rfl) (by kernel_rfl) (fun _ _ _ h => h) (Or.inr ⟨by rfl, rfl⟩) (by assumption) ?_); (try simp only [Act.put, List.setIfInBounds_toArray, List.set_cons_zero, List.set_cons_succ, List.getElem_toArray, List.getElem_cons_succ, List.getElem_cons_zero])
      (refine wpAnyH_take (i := 6) (v := undef) rfl (by kernel_rfl) (by kernel_rfl) (by kernel_rfl) (fun _ _ _ h => h) (Or.inr ⟨by rfl, rfl⟩) (by assumption) ?_); (try simp only [Act.put, List.setIfInBounds_toArray, List.set_cons_zero, List.set_cons_succ, List.getElem_toArray, List.getElem_cons_succ, List.getElem_cons_zero])
      (refine wpAnyH_take (i := 7) (v := undef) rfl (by kernel_rfl) (by kernel_rfl) (by kernel_rfl) (fun _ _ _ h => h) (Or.inr ⟨by rfl, rfl⟩) (by assumption) ?_); (try simp only [Act.put, List.setIfInBounds_toArray, List.set_cons_zero, List.set_cons_succ, List.getElem_toArray, List.getElem_cons_succ, List.getElem_cons_zero])
      (refine wpAnyH_take (i := 8) (v := undef) rfl (by kernel_rfl) (by kernel_rfl) (by kernel_rfl) (fun _ _ _ h => h) (Or.inr ⟨by rfl, rfl⟩) (by assumption) ?_); (try simp only [Act.put, List.setIfInBounds_toArray, List.set_cons_zero, List.set_cons_succ, List.getElem_toArray, List.getElem_cons_succ, List.getElem_cons_zero])
      (refine wpAnyH_take (i := 9) (v := undef) rfl (by kernel_rfl) (by kernel_rfl) (by kernel_rfl) (fun _ _ _ h => h) (Or.inr ⟨by rfl, rfl⟩) (by assumption) ?_); (try simp only [Act.put, List.setIfInBounds_toArray, List.set_cons_zero, List.set_cons_succ, List.getElem_toArray, List.getElem_cons_succ, List.getElem_cons_zero])
      (refine wpAnyH_take (i := 10) (v := ?_) rfl (by kernel_rfl) (by kernel_rfl) (by kernel_rfl) (fun _ _ _ h => h) (Or.inl ⟨by rfl, ?_⟩) (by assumption) ?_; rotate_left; focus (intro w hSw; (try dsimp only at hSw); go_simp; all_goals (with_reducible rfl))); (try simp only [Act.put, List.setIfInBounds_toArray, List.set_cons_zero, List.set_cons_succ, List.getElem_toArray, List.getElem_cons_succ, List.getElem_cons_zero])
      (refine wpAnyH_done (by kernel_rfl) ?_ _)
      replace H := H.drew.take 4
      clear hHeld
      go_wp2
      go_roundw
      case rel => exact ⟨j + 1, by rw [show ((j + 1 : Nat) : Int) = (j : Int) + 1 by omega], by omega, H⟩
      case measure => simp [intOf]; omega
    · obtain rfl : j = 2 := by omega
      have hji : ¬ ((2 : Int) < 2) := by omega
      have hs0 : (X.s : Int) = 0 := by rw [HX.out]; rfl
      go_wp2_with (first
        | (refine wpList_load1_st rfl 33 _ rfl _ _ rfl _ _ _ (H.at 0 rfl) _ Tryz.underlying33 rfl _ (lRow3 _ _ _ _ _ _ _ _ _) ?_)
        | (go_at_call 84; go_loud ((refine (bad_no 10 rfl _).mono ?_); rintro e W' ⟨ge, rfl, hge, hgo, hb⟩)))
      go_ret
      exact ⟨ge, rfl, hgo, (H.stay (Fix.of_below hb _)).bunTo⟩

theorem opens_none {w : World} {g gd gm : Nat} {X : LS} {M : DataW Value} {rm : Nat → Prop} {n : Nat} {D : DS} {own rd : Nat → Prop} (hb : Bundle w (logL g gd gm X M rm n D own rd ++ [errA])) (hX : X.s = 0) {N : Nat} (hf : BareD D N) :
    Calls Tryz.prog 47 #[.pointer (some ⟨g, 0, none⟩)] w fun e w' => ∃ ge inner, e = .returned (faultV ge) ∧ w'.heap[ge]? = some (faultO 10 inner) ∧
      BunTo w (ownL (logL g gd gm X M rm n D own rd ++ [errA])) (rdL (logL g gd gm X M rm n D own rd ++ [errA])) (logL g gd gm X M rm n D own rd ++ [errA]) w' := by
  have H := hb.open_
  obtain ⟨O, hO⟩ : ∃ O, ownL (logL g gd gm X M rm n D own rd ++ [errA]) = O := ⟨_, rfl⟩
  obtain ⟨R, hR⟩ : ∃ R, rdL (logL g gd gm X M rm n D own rd ++ [errA]) = R := ⟨_, rfl⟩
  rw [hO, hR] at H ⊢
  clear hO hR
  have HF := Lib.hid hf
  have HX := Lib.hid hX
  clear hb hf hX
  go_enter Tryz.func47, Tryz.ntmps47
  go_wp2_with (first
    | (go_at_call 80; go_loud ((refine (find_none (g := g) (gd := gd) (gm := gm) (X := X) (M := M) (rm := rm) (n := n) (D := D) (own := own) (rd := rd) (H.take 4).bundle HX.out HF.out).mono ?_); rintro e W ⟨ge, rfl, hgo, hto⟩; replace H := hto.front (R := [errA]) H; clear hto; unfold faultV))
    | (go_at_call 81; go_loud ((refine (within_fault ge 10 .nilIface _ (H.at 4 rfl) hgo).mono ?_); rintro e W2 ⟨ge2, rfl, hge2, hgo2, hb2⟩; replace H := H.stay (Fix.of_below hb2 _); unfold faultV)))
  go_ret
  exact ⟨ge2, _, rfl, hgo2, H.bunTo⟩

theorem St.logOpenE {M0 R0 : Nat → Prop} {w0 W : World} {g gd gm : Nat} {D : DS} {own rd : Nat → Prop} {lv : Int} (n : Nat)
    (H : St M0 R0 w0 W [dA gd D own rd, errA, mapA gm 0 (.map []), blk g (.cells (lRow (.pointer (some ⟨gd, 0, none⟩)) lv false 0 0 0 0 0 (.map (some gm))).toArray 84 (0, 0))]) :
    St M0 R0 w0 W (logL g gd gm (lEmpty lv) (.map []) NoBlk n D own rd ++ [errA]) := by
  have H1 := H.add (Fix.refl _ _) (mapIsA NoBlk (.map []) (fun _ => none) n 248) (MapIs.empty W n 248) (fun k hk => hk.elim) (fun k hk => hk.elim)
  simp only [List.cons_append, List.nil_append] at H1
  refine H1.pick (fun m => [3, 2, 4, 0, 1].getD m 0) ?_ ?_
  · intro m C hm
    rcases m with _ | _ | _ | _ | _ | m
    · exact hm
    · exact hm
    · exact hm
    · exact hm
    · exact hm
    · simp [logL] at hm
  · intro m l hm hl e
    have hm4 : m < 5 := hm
    have hl4 : l < 5 := hl
    rcases m with _ | _ | _ | _ | _ | m <;> rcases l with _ | _ | _ | _ | _ | l <;> first | rfl | omega | (simp at e)

set_option maxHeartbeats 1000000 in
theorem open_none {w : World} {gd : Nat} {D : DS} {own rd : Nat → Prop} (hd : Bundle w [dA gd D own rd, errA]) {N : Nat} (hf : BareD D N) (n : Nat) :
    Calls Tryz.prog 13 #[.pointer (some ⟨gd, 0, none⟩)] w fun e w' => e = .returned (.tuple #[.pointer none, .int .i64 10]) ∧ BunTo w (ownL [dA gd D own rd, errA]) (rdL [dA gd D own rd, errA]) [dA gd D own rd, errA] w' := by
  have H := hd.open_
  have HF := Lib.hid hf
  have hl : ((D.last.length : Int) == 0) = false := beq_eq_false_iff_ne.2 (by rw [hf.len]; have := hf.big; omega)
  obtain ⟨O, hO⟩ : ∃ O, ownL [dA gd D own rd, errA] = O := ⟨_, rfl⟩
  obtain ⟨R, hR⟩ : ∃ R, rdL [dA gd D own rd, errA] = R := ⟨_, rfl⟩
  rw [hO, hR] at H ⊢
  clear hd hf
  go_enter Tryz.func13, Tryz.ntmps13
  go_wp2_with (first
    | (go_at_call 40; go_loud ((with_reducible refine (len_calls (H.at 0 rfl)).mono ?_); rintro e W' ⟨rfl, rfl⟩))
    | (go_at_call 46; go_loud ((with_reducible refine (lives_at (H.at 0 rfl) (z := D.lives) rfl).mono ?_); rintro e W' ⟨rfl, rfl⟩))
    | (refine wpList_makemap_st H rfl 74 rfl ?_; clear H; intro W gm H; simp only [List.nil_append, List.cons_append] at H)
    | (refine wpList_box_st H rfl 84 _ rfl _ rfl ?_; clear H; intro W g H; simp only [List.nil_append, List.cons_append] at H; replace H := St.logOpenE (lv := D.lives) n H)
    | (go_at_call 47; go_loud ((refine (opens_none (g := g) (gd := gd) (gm := gm) (X := lEmpty D.lives) (M := .map []) (rm := NoBlk) (n := n) (D := D) (own := own) (rd := rd) H.bundle rfl HF.out).mono ?_); rintro e W ⟨ge, inner, rfl, hgo, hto⟩; replace H := hto.front (R := []) H; clear hto; simp only [List.append_nil] at H; unfold faultV))
    | (go_at_call 48; go_loud ((refine (code_fault ge 10 inner _ (H.at 4 rfl) hgo).mono ?_); rintro e W2 ⟨rfl, hb2⟩; replace H := H.stay (Fix.of_below hb2 _); clear hb2)))
  refine bodyPost_ret (results_tmp2 rfl _ _ _) rfl ?_
  refine ⟨rfl, St.bunTo ?_⟩
  refine H.pick (fun m => m + 3) (fun m C hm => ?_) (fun m l _ _ e => by omega)
  rcases m with _ | _ | m
  · exact hm
  · exact hm
  · simp at hm

theorem lmay_nil (w : World) : Calls Tryz.prog 51 #[.pointer none] w fun e w' => e = .returned (.int .i64 1) ∧ w = w' := by
  go_enter Tryz.func51, Tryz.ntmps51
  go_wp2_with (first | (go_at_call 49; (with_reducible refine (none_nil _).mono ?_); rintro e W' ⟨rfl, rfl⟩))
  go_ret
  exact ⟨rfl, rfl⟩

theorem Read_nil (i : Int) (w : World) : Calls Tryz.prog 19 #[.pointer none, .int .i64 i] w fun e w' => e = .returned (.tuple #[.slice none 0 0, .int .i64 1]) ∧ w = w' := by
  go_enter Tryz.func19, Tryz.ntmps19
  go_wp2_with (first | (go_at_call 51; (with_reducible refine (lmay_nil _).mono ?_); rintro e W' ⟨rfl, rfl⟩))
  refine bodyPost_ret (results_tmp2 rfl _ _ _) rfl ?_
  exact ⟨rfl, rfl⟩

theorem Commit_nil (v : Value) (w : World) : Calls Tryz.prog 15 #[.pointer none, v] w fun e w' => e = .returned (.int .i64 1) ∧ w = w' := by
  go_enter Tryz.func15, Tryz.ntmps15
  go_wp2_with (first | (go_at_call 51; (with_reducible refine (lmay_nil _).mono ?_); rintro e W' ⟨rfl, rfl⟩))
  go_ret
  exact ⟨rfl, rfl⟩

theorem Checkpoint_nil (w : World) : Calls Tryz.prog 16 #[.pointer none] w fun e w' => e = .returned (.int .i64 1) ∧ w = w' := by
  go_enter Tryz.func16, Tryz.ntmps16
  go_wp2_with (first | (go_at_call 51; (with_reducible refine (lmay_nil _).mono ?_); rintro e W' ⟨rfl, rfl⟩))
  go_ret
  exact ⟨rfl, rfl⟩

theorem Homes_nil (w : World) : Calls Tryz.prog 14 #[.pointer none] w fun e w' => e = .returned (.int .i64 0) ∧ w = w' := by
  go_enter Tryz.func14, Tryz.ntmps14
  go_wp2_with (first | (go_at_call 49; (with_reducible refine (none_nil _).mono ?_); rintro e W' ⟨rfl, rfl⟩))
  go_ret
  exact ⟨rfl, rfl⟩

theorem Free_nil (w : World) : Calls Tryz.prog 17 #[.pointer none] w fun e w' => e = .returned (.int .i64 0) ∧ w = w' := by
  go_enter Tryz.func17, Tryz.ntmps17
  go_wp2_with (first | (go_at_call 49; (with_reducible refine (none_nil _).mono ?_); rintro e W' ⟨rfl, rfl⟩))
  go_ret
  exact ⟨rfl, rfl⟩

theorem Turn_nil (w : World) : Calls Tryz.prog 18 #[.pointer none] w fun e w' => e = .returned (.int .u64 0) ∧ w = w' := by
  go_enter Tryz.func18, Tryz.ntmps18
  go_wp2_with (first | (go_at_call 49; (with_reducible refine (none_nil _).mono ?_); rintro e W' ⟨rfl, rfl⟩))
  go_ret
  exact ⟨rfl, rfl⟩

theorem open_nil (w : World) : Calls Tryz.prog 13 #[.pointer none] w fun e w' => e = .returned (.tuple #[.pointer none, .int .i64 1]) ∧ w = w' := by
  go_enter Tryz.func13, Tryz.ntmps13
  go_wp2_with (first | (go_at_call 40; (with_reducible refine (len_nil _).mono ?_); rintro e W' ⟨rfl, rfl⟩))
  refine bodyPost_ret (results_tmp2 rfl _ _ _) rfl ?_
  exact ⟨rfl, rfl⟩

theorem format_nil (i : Int) (w : World) : Calls Tryz.prog 12 #[.pointer none, .int .i64 i] w fun e w' => e = .returned (.int .i64 1) ∧ Below w.heap.size w w' := by
  have H := St.nil NoBlk NoBlk w
  go_enter Tryz.func12, Tryz.ntmps12
  go_wp2_with (first
    | (refine wpList_box_st H rfl 25 _ rfl _ rfl ?_; clear H; intro W gb H; simp only [List.nil_append, List.cons_append] at H)
    | (refine wpList_box_st H rfl 3 _ rfl _ rfl ?_; clear H; intro W gr H; simp only [List.nil_append, List.cons_append] at H))
  replace H : St NoBlk NoBlk w W [blk gb (.cells #[.pointer none] 25 (0, 0)), blk gr (.cells #[.int .i64 i] 3 (0, 0))] := H
  replace H := H.drew
  have c0 := row_cell (H.at 0 rfl) (off := 0) (v := .pointer none) rfl
  refine wp_region_held_drew (S := fun w' => w'.cell? ⟨gb, 0, none⟩ = some (.pointer none)) (by kernel_rfl) c0 (fun hHeld => ?_)
  (refine wpAnyH_take (i := 0) rfl (by kernel_rfl) (by kernel_rfl) (by kernel_rfl) (fun _ _ _ h => h) ((yieldsIf_load1 (by rfl) 25 _ rfl _ _ (by rfl) _ Tryz.underlying25 rfl _ (fun w h => h))) (by assumption) ?_); (try simp only [Act.put, List.setIfInBounds_toArray, List.set_cons_zero, List.set_cons_succ, List.getElem_toArray, List.getElem_cons_succ, List.getElem_cons_zero])
  (refine wpAnyH_ready (rs := [1]) (by kernel_rfl) (by simp) (AllReadyH.cons rfl (fun K hK => ?_) AllReadyH.nil)); (rw [if_pos (by rfl)]); (go_simp; go_at_call 40; (with_reducible refine (len_nil _).mono ?_); rintro e W' ⟨rfl, rfl⟩; (try go_wp2_with fail); refine hK.out _ _ c0 (fun hHeld => ?_); clear hK K)
  (try simp only [Act.put, List.setIfInBounds_toArray, List.set_cons_zero, List.set_cons_succ, List.getElem_toArray, List.getElem_cons_succ, List.getElem_cons_zero])
  (refine wpAnyH_take (i := 2) (v := ?_) rfl (by kernel_rfl) (by kernel_rfl) (by kernel_rfl) (fun _ _ _ h => h) (Or.inl ⟨by rfl, ?_⟩) (by assumption) ?_; rotate_left; focus (intro w hSw; (try dsimp only at hSw); go_simp; all_goals (with_reducible rfl))); (try simp only [Act.put, List.setIfInBounds_toArray, List.set_cons_zero, List.set_cons_succ, List.getElem_toArray, List.getElem_cons_succ, List.getElem_cons_zero])
  (refine wpAnyH_take (i := 3) (v := ?_) rfl (by kernel_rfl) (by kernel_rfl) (by kernel_rfl) (fun _ _ _ h => h) (Or.inl ⟨by rfl, ?_⟩) (by assumption) ?_; rotate_left; focus (intro w hSw; (try dsimp only at hSw); go_simp; all_goals (with_reducible rfl))); (try simp only [Act.put, List.setIfInBounds_toArray, List.set_cons_zero, List.set_cons_succ, List.getElem_toArray, List.getElem_cons_succ, List.getElem_cons_zero])
  (refine wpAnyH_take (i := 4) (v := undef) rfl (by kernel_rfl) (by kernel_rfl) (by kernel_rfl) (fun _ _ _ h => h) (Or.inr ⟨by rfl, rfl⟩) (by assumption) ?_); (try simp only [Act.put, List.setIfInBounds_toArray, List.set_cons_zero, List.set_cons_succ, List.getElem_toArray, List.getElem_cons_succ, List.getElem_cons_zero])
  (refine wpAnyH_take (i := 5) (v := undef) rfl (by kernel_rfl) (by kernel_rfl) (by kernel_rfl) (fun _ _ _ h => h) (Or.inr ⟨by rfl, rfl⟩) (by assumption) ?_); (try simp only [Act.put, List.setIfInBounds_toArray, List.set_cons_zero, List.set_cons_succ, List.getElem_toArray, List.getElem_cons_succ, List.getElem_cons_zero])
  (refine wpAnyH_take (i := 6) (v := ?_) rfl (by kernel_rfl) (by kernel_rfl) (by kernel_rfl) (fun _ _ _ h => h) (Or.inl ⟨by rfl, ?_⟩) (by assumption) ?_; rotate_left; focus (intro w hSw; (try dsimp only at hSw); go_simp; all_goals (with_reducible rfl))); (try simp only [Act.put, List.setIfInBounds_toArray, List.set_cons_zero, List.set_cons_succ, List.getElem_toArray, List.getElem_cons_succ, List.getElem_cons_zero])
  (refine wpAnyH_take (i := 7) (v := ?_) rfl (by kernel_rfl) (by kernel_rfl) (by kernel_rfl) (fun _ _ _ h => h) (Or.inl ⟨by rfl, ?_⟩) (by assumption) ?_; rotate_left; focus (intro w hSw; (try dsimp only at hSw); go_simp; all_goals (with_reducible rfl))); (try simp only [Act.put, List.setIfInBounds_toArray, List.set_cons_zero, List.set_cons_succ, List.getElem_toArray, List.getElem_cons_succ, List.getElem_cons_zero])
  (refine wpAnyH_take (i := 8) (v := undef) rfl (by kernel_rfl) (by kernel_rfl) (by kernel_rfl) (fun _ _ _ h => h) (Or.inr ⟨by rfl, rfl⟩) (by assumption) ?_); (try simp only [Act.put, List.setIfInBounds_toArray, List.set_cons_zero, List.set_cons_succ, List.getElem_toArray, List.getElem_cons_succ, List.getElem_cons_zero])
  (refine wpAnyH_take (i := 9) (v := undef) rfl (by kernel_rfl) (by kernel_rfl) (by kernel_rfl) (fun _ _ _ h => h) (Or.inr ⟨by rfl, rfl⟩) (by assumption) ?_); (try simp only [Act.put, List.setIfInBounds_toArray, List.set_cons_zero, List.set_cons_succ, List.getElem_toArray, List.getElem_cons_succ, List.getElem_cons_zero])
  (refine wpAnyH_take (i := 10) (v := ?_) rfl (by kernel_rfl) (by kernel_rfl) (by kernel_rfl) (fun _ _ _ h => h) (Or.inl ⟨by rfl, ?_⟩) (by assumption) ?_; rotate_left; focus (intro w hSw; (try dsimp only at hSw); go_simp; all_goals (with_reducible rfl))); (try simp only [Act.put, List.setIfInBounds_toArray, List.set_cons_zero, List.set_cons_succ, List.getElem_toArray, List.getElem_cons_succ, List.getElem_cons_zero])
  (refine wpAnyH_take (i := 11) (v := ?_) rfl (by kernel_rfl) (by kernel_rfl) (by kernel_rfl) (fun _ _ _ h => h) (Or.inl ⟨by rfl, ?_⟩) (by assumption) ?_; rotate_left; focus (intro w hSw; (try dsimp only at hSw); go_simp; all_goals (with_reducible rfl))); (try simp only [Act.put, List.setIfInBounds_toArray, List.set_cons_zero, List.set_cons_succ, List.getElem_toArray, List.getElem_cons_succ, List.getElem_cons_zero])
  (refine wpAnyH_take (i := 12) (v := undef) rfl (by kernel_rfl) (by kernel_rfl) (by kernel_rfl) (fun _ _ _ h => h) (Or.inr ⟨by rfl, rfl⟩) (by assumption) ?_); (try simp only [Act.put, List.setIfInBounds_toArray, List.set_cons_zero, List.set_cons_succ, List.getElem_toArray, List.getElem_cons_succ, List.getElem_cons_zero])
  (refine wpAnyH_take (i := 13) (v := undef) rfl (by kernel_rfl) (by kernel_rfl) (by kernel_rfl) (fun _ _ _ h => h) (Or.inr ⟨by rfl, rfl⟩) (by assumption) ?_); (try simp only [Act.put, List.setIfInBounds_toArray, List.set_cons_zero, List.set_cons_succ, List.getElem_toArray, List.getElem_cons_succ, List.getElem_cons_zero])
  (refine wpAnyH_take (i := 14) (v := undef) rfl (by kernel_rfl) (by kernel_rfl) (by kernel_rfl) (fun _ _ _ h => h) (Or.inr ⟨by rfl, rfl⟩) (by assumption) ?_); (try simp only [Act.put, List.setIfInBounds_toArray, List.set_cons_zero, List.set_cons_succ, List.getElem_toArray, List.getElem_cons_succ, List.getElem_cons_zero])
  (refine wpAnyH_take (i := 15) (v := undef) rfl (by kernel_rfl) (by kernel_rfl) (by kernel_rfl) (fun _ _ _ h => h) (Or.inr ⟨by rfl, rfl⟩) (by assumption) ?_); (try simp only [Act.put, List.setIfInBounds_toArray, List.set_cons_zero, List.set_cons_succ, List.getElem_toArray, List.getElem_cons_succ, List.getElem_cons_zero])
  (refine wpAnyH_take (i := 16) (v := undef) rfl (by kernel_rfl) (by kernel_rfl) (by kernel_rfl) (fun _ _ _ h => h) (Or.inr ⟨by rfl, rfl⟩) (by assumption) ?_); (try simp only [Act.put, List.setIfInBounds_toArray, List.set_cons_zero, List.set_cons_succ, List.getElem_toArray, List.getElem_cons_succ, List.getElem_cons_zero])
  (refine wpAnyH_take (i := 17) (v := undef) rfl (by kernel_rfl) (by kernel_rfl) (by kernel_rfl) (fun _ _ _ h => h) (Or.inr ⟨by rfl, rfl⟩) (by assumption) ?_); (try simp only [Act.put, List.setIfInBounds_toArray, List.set_cons_zero, List.set_cons_succ, List.getElem_toArray, List.getElem_cons_succ, List.getElem_cons_zero])
  (refine wpAnyH_take (i := 18) (v := ?_) rfl (by kernel_rfl) (by kernel_rfl) (by kernel_rfl) (fun _ _ _ h => h) (Or.inl ⟨by rfl, ?_⟩) (by assumption) ?_; rotate_left; focus (intro w hSw; (try dsimp only at hSw); go_simp; all_goals (with_reducible rfl))); (try simp only [Act.put, List.setIfInBounds_toArray, List.set_cons_zero, List.set_cons_succ, List.getElem_toArray, List.getElem_cons_succ, List.getElem_cons_zero])
  (refine wpAnyH_done (by kernel_rfl) ?_ _)
  clear hHeld c0
  go_wp2
  go_ret
  exact ⟨rfl, H.fix.below⟩

end Go.Proofs.YtajlhloapglafaaGreatDoor
