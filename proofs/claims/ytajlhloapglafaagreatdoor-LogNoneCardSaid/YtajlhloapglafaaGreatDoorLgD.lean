/- The log's looks, of a group that may be committed. -/
import Derived.Test.YtajlhloapglafaaGreatDoorLgC
namespace Go.Proofs.YtajlhloapglafaaGreatDoor
open Go.RowKit
set_option linter.unusedSimpArgs false
set_option linter.unusedVariables false
set_option maxRecDepth 4000

/-- A look-up, run. -/
theorem wp_lookup_run {P : Program} {o : Oper} {a : Act} {Q : Exit → Act → World → Prop} {K : Act → World → Prop} {W : World}
    (t : TypeId) (m x : Operand) (c : Bool) (hop : o.op = .lookup t m x c) (mv xv v : Value) (hm : a.eval m = mv) (hx : a.eval x = xv)
    (hrun : (Instr.lookup t mv xv c).run P W = .ok v W) (h : K (a.put o.dst v) W) : o.wp P a W K Q := by
  unfold Oper.wp
  simp [execOp, hop, hm, hx, hrun, Result.andThen]
  exact h

theorem zero_put : (Tryz.prog.info? 36).bind (·.zero) = some (.agg #[.int .i64 0, .slice none 0 0]) := by kernel_rfl
def pR (h : Int) (v : Value) : List Value := [.int .i64 h, v]
theorem cells_put : (Value.agg #[.int .i64 0, .slice none 0 0]).cells = (pR 0 (.slice none 0 0)).toArray := rfl
theorem pR0 (h : Int) (v : Value) : (pR h v).toArray[0]? = some (.int .i64 h) := rfl
theorem pR1 (h : Int) (v : Value) : (pR h v).toArray[1]? = some v := rfl
theorem pR_all (h : Int) (p : Option Addr) (l c : Nat) : (pR h (.slice p l c)).toArray.all (·.oneCell') = true := all_oneCell_toArray (by
  intro v hv
  simp only [pR, List.mem_cons, List.not_mem_nil, or_false] at hv
  rcases hv with rfl | rfl <;> rfl)
theorem size_put : (Tryz.prog.info? 36).map (·.size) = some 2 := by kernel_rfl

set_option maxHeartbeats 2000000 in
theorem looks_ok {w : World} {g gd gm : Nat} {X : LS} {M : DataW Value} {rm : Nat → Prop} {n : Nat} {D : DS} {own rd : Nat → Prop} {p : Option Addr} {cap : Nat} {ps : List PutS} {rp : Nat → Prop}
    (hb : Bundle w (logL g gd gm X M rm n D own rd ++ [rdA p (putV ps), putsA rp ps])) {N u : Nat} (hf : LogFine X n D N u) (hg : Good ps n X.ring) :
    Calls Tryz.prog 87 #[.pointer (some ⟨g, 0, none⟩), .slice p ps.length cap] w fun e w' => e = .returned .nilIface ∧
      BunTo w (ownL (logL g gd gm X M rm n D own rd ++ [rdA p (putV ps), putsA rp ps])) (rdL (logL g gd gm X M rm n D own rd ++ [rdA p (putV ps), putsA rp ps])) (logL g gd gm X M rm n D own rd ++ [rdA p (putV ps), putsA rp ps]) w' := by
  have H := hb.open_
  obtain ⟨O, hO⟩ : ∃ O, ownL (logL g gd gm X M rm n D own rd ++ [rdA p (putV ps), putsA rp ps]) = O := ⟨_, rfl⟩
  obtain ⟨R, hR⟩ : ∃ R, rdL (logL g gd gm X M rm n D own rd ++ [rdA p (putV ps), putsA rp ps]) = R := ⟨_, rfl⟩
  rw [hO, hR] at H ⊢
  clear hO hR hb
  have HF := Lib.hid hf
  have HG := Lib.hid hg
  have hli : (ps.length : Int) ≤ 119 := by have := hg.most; omega
  have hlr : (ps.length : Int) < (X.ring : Int) := by have := hg.fits; omega
  have hlr2 : ps.length < X.ring := hg.fits
  clear hf hg
  go_enter Tryz.func87, Tryz.ntmps87
  go_wp2_with (first
    | (refine wpList_makemap_st H rfl 146 rfl ?_; clear H; intro W gs H; simp only [logL, List.nil_append, List.cons_append] at H))
  go_loopw [11, 7] (fun i _ wr => ∃ (j : Nat) (Ms : DataW Value), i = .int .i64 (j : Int) ∧ j ≤ ps.length ∧ Seen Ms ((ps.take j).map PutS.home) n ∧
      St O R w wr (logL g gd gm X M rm n D own rd ++ [rdA p (putV ps), putsA rp ps, mapA gs (Go.Maps.size Ms) Ms])) (fun i _ _ => ps.length - (intOf i).toNat)
  case atStart => exact ⟨0, .map [], rfl, Nat.zero_le _, Seen.empty n, H⟩
  case round =>
    clear H
    obtain ⟨j, Ms, rfl, hj, hseen, H⟩ := hrel
    rcases Nat.lt_or_ge j ps.length with hlt | hge
    · obtain ⟨ga, offa, rfl, hcell0⟩ := rdA_at (H.at 4 rfl) (putV_at ps j hlt).1
      obtain ⟨ga', offa', e1, hcell1⟩ := rdA_at (H.at 4 rfl) (putV_at ps j hlt).2
      simp only [Option.some.injEq, Addr.mk.injEq] at e1
      obtain ⟨rfl, rfl, _⟩ := e1
      obtain ⟨gv, offv, capv, hval, hcv, hrv, hbv⟩ := (H.at 5 rfl : PutsIs wr rp ps).val j hlt (HG.out.len _ (List.getElem_mem hlt))
      rw [hval, ← Nat.add_assoc] at hcell1
      have hhn : ps[j].home < n := HG.out.home _ (List.getElem_mem hlt)
      have hnew : ps[j].home ∉ (ps.take j).map PutS.home := by
        have hnd := HG.out.nodup
        have hsp : ps.map PutS.home = (ps.take j).map PutS.home ++ (ps.drop j).map PutS.home := by rw [← List.map_append, List.take_append_drop]
        rw [hsp] at hnd
        intro hm
        refine (List.nodup_append.1 hnd).2.2 _ hm _ ?_ rfl
        exact List.mem_map.2 ⟨ps[j], by rw [List.drop_eq_getElem_cons hlt]; exact List.mem_cons_self .., rfl⟩
      obtain ⟨h, hh⟩ : ∃ h, ps[j].home = h := ⟨_, rfl⟩
      rw [hh] at hcell0 hhn hnew
      have hat : Ms.atKey (keyI h) (.held (.int .i64 0)) = .held (.int .i64 0) := by rw [hseen.at_, if_neg hnew]
      have hji : (j : Int) < (ps.length : Int) := by omega
      have hj0 : 0 ≤ (j : Int) := by omega
      have hh0 : 0 ≤ (h : Int) := by omega
      have hhi : (h : Int) < (n : Int) := by omega
      have HA := Lib.hid hat
      have HS := Lib.hid hseen
      clear hat hseen hnew hbv hval
      go_wp2_with (first
        | (refine wpList_alloc_st H rfl 36 rfl _ zero_put ?_; clear H; intro W g7 H; rw [cells_put] at H; simp only [logL, List.nil_append, List.cons_append] at H)
        | (refine wpList_storerow_st H 7 rfl 36 _ _ rfl _ (pR (h : Int) (.slice (some ⟨gv, offv, none⟩) 248 capv)).toArray rfl rfl _ _ rfl size_put rfl (pR_all _ _ _ _) ?_; clear H; intro W H; simp only [List.set_cons_zero, List.set_cons_succ] at H)
        | (refine wpList_load1_st rfl 3 _ rfl _ _ rfl _ _ _ (H.at 7 rfl) _ Tryz.underlying3 rfl _ (pR0 _ _) ?_)
        | (refine wpList_lookup_run rfl 146 _ _ _ rfl _ _ _ rfl rfl (look_int (H.at 6 rfl : World.ownsMap _ Tryz.prog 3 RV gs (Go.Maps.size Ms) Ms) h (by have := HF.out.fits; have := HF.out.top; omega) _ HA.out) ?_)
        | (obtain ⟨W3, hrun, H3⟩ := H.mapStoreI 6 rfl (by have := keys_size_le HS.out.keys (H.at 6 rfl : World.ownsMap _ Tryz.prog 3 RV gs (Go.Maps.size Ms) Ms); have := HF.out.fits; have := HF.out.top; omega) h (by have := HF.out.fits; have := HF.out.top; omega) (.int .i64 1); refine wpList_mapupdate_run rfl 146 _ _ _ rfl _ _ _ rfl rfl rfl hrun ?_; clear hrun H; have H := H3; clear H3; simp only [List.set_cons_zero, List.set_cons_succ] at H))
      have HS2 := Lib.hid (HS.out.put h hhn)
      have HA2 := Lib.hid (show (Ms.put (keyI h) (.held (.int .i64 1))).atKey (keyI h) (.held (.int .i64 0)) = .held (.int .i64 1) by rw [HS2.out.at_ h]; simp)
      have f0 : decide ((h : Int) < 0) = false := decide_eq_false (by omega)
      have f1 : decide ((n : Int) ≤ (h : Int)) = false := decide_eq_false (by omega)
      have f2 : ¬ (n ≤ h) := by omega
      replace H := H.drew
      refine wp_region_held_drew (S := fun w' => w'.cell? ⟨g7, 0, none⟩ = some (.int .i64 (h : Int))) (by kernel_rfl) (row_cell (H.at 7 rfl) (pR0 _ _)) (fun hHeld => ?_)
      (refine wpAnyH_take (i := 0) (v := ?_) rfl (by kernel_rfl) (by kernel_rfl) (by kernel_rfl) (fun _ _ _ h => h) (Or.inl ⟨by rfl, ?_⟩) (by assumption) ?_; rotate_left; focus (intro w hSw; (try dsimp only at hSw); go_simp; all_goals (with_reducible rfl))); (try simp only [Act.put, List.setIfInBounds_toArray, List.set_cons_zero, List.set_cons_succ, List.getElem_toArray, List.getElem_cons_succ, List.getElem_cons_zero])
      (refine wpAnyH_take (i := 1) rfl (by kernel_rfl) (by kernel_rfl) (by kernel_rfl) (fun _ _ _ h => h) ((yieldsIf_load1 (by rfl) 3 _ rfl _ _ (by rfl) _ Tryz.underlying3 rfl _ (fun w h => h))) (by assumption) ?_); (try simp only [Act.put, List.setIfInBounds_toArray, List.set_cons_zero, List.set_cons_succ, List.getElem_toArray, List.getElem_cons_succ, List.getElem_cons_zero])
      (refine wpAnyH_take (i := 2) (v := ?_) rfl (by kernel_rfl) (by kernel_rfl) (by kernel_rfl) (fun _ _ _ h => h) (Or.inl ⟨by rfl, ?_⟩) (by assumption) ?_; rotate_left; focus (intro w hSw; (try dsimp only at hSw); go_simp; all_goals (with_reducible rfl))); (try simp only [Act.put, List.setIfInBounds_toArray, List.set_cons_zero, List.set_cons_succ, List.getElem_toArray, List.getElem_cons_succ, List.getElem_cons_zero])
      (refine wpAnyH_take (i := 3) (v := ?_) rfl (by kernel_rfl) (by kernel_rfl) (by kernel_rfl) (fun _ _ _ h => h) (Or.inl ⟨by rfl, ?_⟩) (by assumption) ?_; rotate_left; focus (intro w hSw; (try dsimp only at hSw); go_simp; all_goals (with_reducible rfl))); (try simp only [Act.put, List.setIfInBounds_toArray, List.set_cons_zero, List.set_cons_succ, List.getElem_toArray, List.getElem_cons_succ, List.getElem_cons_zero])
      (refine wpAnyH_take (i := 4) (v := ?_) rfl (by kernel_rfl) (by kernel_rfl) (by kernel_rfl) (fun _ _ _ h => h) (Or.inl ⟨by rfl, ?_⟩) (by assumption) ?_; rotate_left; focus (intro w hSw; (try dsimp only at hSw); go_simp; all_goals (with_reducible rfl))); (try simp only [Act.put, List.setIfInBounds_toArray, List.set_cons_zero, List.set_cons_succ, List.getElem_toArray, List.getElem_cons_succ, List.getElem_cons_zero])
      (refine wpAnyH_take (i := 5) rfl (by kernel_rfl) (by kernel_rfl) (by kernel_rfl) (fun _ _ _ h => h) ((yieldsIf_load1 (by rfl) 3 _ rfl _ _ (by rfl) _ Tryz.underlying3 rfl _ (fun w h => h))) (by assumption) ?_); (try simp only [Act.put, List.setIfInBounds_toArray, List.set_cons_zero, List.set_cons_succ, List.getElem_toArray, List.getElem_cons_succ, List.getElem_cons_zero])
      (refine wpAnyH_take (i := 6) (v := ?_) rfl (by kernel_rfl) (by kernel_rfl) (by kernel_rfl) (fun _ _ _ h => h) (Or.inl ⟨by rfl, ?_⟩) (by assumption) ?_; rotate_left; focus (intro w hSw; (try dsimp only at hSw); go_simp; all_goals (with_reducible rfl))); (try simp only [Act.put, List.setIfInBounds_toArray, List.set_cons_zero, List.set_cons_succ, List.getElem_toArray, List.getElem_cons_succ, List.getElem_cons_zero])
      (refine wpAnyH_ready (rs := [7]) (by kernel_rfl) (by simp) (AllReadyH.cons rfl (fun K hK => ?_) AllReadyH.nil)); (rw [if_pos (by rfl)]); (go_simp; go_at_call 50; (refine (homes_ok (g := g) (gd := gd) (gm := gm) (X := X) (M := M) (rm := rm) (n := n) (D := D) (own := own) (rd := rd) (H.take 4).bundle HF.out.calm.len HF.out.fits HF.out.top).mono ?_); rintro e W ⟨rfl, hto⟩; replace H := hto.front (R := [rdA _ _, putsA _ _, mapA _ _ _, blk _ _]) H; clear hto; simp only [logL, List.nil_append, List.cons_append] at H; (try dsimp only); refine hK.out _ _ (row_cell (H.at 7 rfl) (pR0 _ _)) (fun hHeld2 => ?_); clear hK K) ; (try simp only [Act.put, List.setIfInBounds_toArray, List.set_cons_zero, List.set_cons_succ, List.getElem_toArray, List.getElem_cons_succ, List.getElem_cons_zero])
      (refine wpAnyH_take (i := 8) (v := ?_) rfl (by kernel_rfl) (by kernel_rfl) (by kernel_rfl) (fun _ _ _ h => h) (Or.inl ⟨by rfl, ?_⟩) (by assumption) ?_; rotate_left; focus (intro w hSw; (try dsimp only at hSw); go_simp; all_goals (with_reducible rfl))); (try simp only [Act.put, List.setIfInBounds_toArray, List.set_cons_zero, List.set_cons_succ, List.getElem_toArray, List.getElem_cons_succ, List.getElem_cons_zero])
      (refine wpAnyH_take (i := 9) (v := ?_) rfl (by kernel_rfl) (by kernel_rfl) (by kernel_rfl) (fun _ _ _ h => h) (Or.inl ⟨by rfl, ?_⟩) (by assumption) ?_; rotate_left; focus (intro w hSw; (try dsimp only at hSw); go_simp; all_goals (with_reducible rfl))); (try simp only [Act.put, List.setIfInBounds_toArray, List.set_cons_zero, List.set_cons_succ, List.getElem_toArray, List.getElem_cons_succ, List.getElem_cons_zero])
      (refine wpAnyH_take (i := 10) (v := ?_) rfl (by kernel_rfl) (by kernel_rfl) (by kernel_rfl) (fun _ _ _ h => h) (Or.inl ⟨by rfl, ?_⟩) (by assumption) ?_; rotate_left; focus (intro w hSw; (try dsimp only at hSw); go_simp; all_goals (with_reducible rfl))); (try simp only [Act.put, List.setIfInBounds_toArray, List.set_cons_zero, List.set_cons_succ, List.getElem_toArray, List.getElem_cons_succ, List.getElem_cons_zero])
      (refine wpAnyH_take (i := 11) (v := ?_) rfl (by kernel_rfl) (by kernel_rfl) (by kernel_rfl) (fun _ _ _ h => h) (Or.inl ⟨by rfl, ?_⟩) (by assumption) ?_; rotate_left; focus (intro w hSw; (try dsimp only at hSw); go_simp; all_goals (with_reducible rfl))); (try simp only [Act.put, List.setIfInBounds_toArray, List.set_cons_zero, List.set_cons_succ, List.getElem_toArray, List.getElem_cons_succ, List.getElem_cons_zero])
      (refine wpAnyH_take (i := 12) (v := ?_) rfl (by kernel_rfl) (by kernel_rfl) (by kernel_rfl) (fun _ _ _ h => h) (Or.inl ⟨by rfl, ?_⟩) (by assumption) ?_; rotate_left; focus (intro w hSw; (try dsimp only at hSw); go_simp; all_goals (with_reducible rfl))); (try simp only [Act.put, List.setIfInBounds_toArray, List.set_cons_zero, List.set_cons_succ, List.getElem_toArray, List.getElem_cons_succ, List.getElem_cons_zero])
      (refine wpAnyH_take (i := 13) rfl (by kernel_rfl) (by kernel_rfl) (by kernel_rfl) (fun _ _ _ h => h) ((yieldsIf_load1 (by rfl) 3 _ rfl _ _ (by rfl) _ Tryz.underlying3 rfl _ (fun w h => h))) (by assumption) ?_); (try simp only [Act.put, List.setIfInBounds_toArray, List.set_cons_zero, List.set_cons_succ, List.getElem_toArray, List.getElem_cons_succ, List.getElem_cons_zero])
      (refine wpAnyH_ready (rs := [14]) (by kernel_rfl) (by simp) (AllReadyH.cons rfl (fun K hK => ?_) AllReadyH.nil)); (rw [if_pos (by rfl)]); (refine wp_lookup_run 146 _ _ _ rfl _ _ _ (by rfl) (by rfl) (look_int (H.at 6 rfl : World.ownsMap _ Tryz.prog 3 RV gs _ _) h (by have := HF.out.fits; have := HF.out.top; omega) _ HA2.out) ?_; refine hK.out _ _ (row_cell (H.at 7 rfl) (pR0 _ _)) (fun hHeld3 => ?_); clear hK K) ; (try simp only [Act.put, List.setIfInBounds_toArray, List.set_cons_zero, List.set_cons_succ, List.getElem_toArray, List.getElem_cons_succ, List.getElem_cons_zero])
      (refine wpAnyH_take (i := 15) (v := ?_) rfl (by kernel_rfl) (by kernel_rfl) (by kernel_rfl) (fun _ _ _ h => h) (Or.inl ⟨by rfl, ?_⟩) (by assumption) ?_; rotate_left; focus (intro w hSw; (try dsimp only at hSw); go_simp; all_goals (with_reducible rfl))); (try simp only [Act.put, List.setIfInBounds_toArray, List.set_cons_zero, List.set_cons_succ, List.getElem_toArray, List.getElem_cons_succ, List.getElem_cons_zero])
      (refine wpAnyH_take (i := 16) (v := ?_) rfl (by kernel_rfl) (by kernel_rfl) (by kernel_rfl) (fun _ _ _ h => h) (Or.inl ⟨by rfl, ?_⟩) (by assumption) ?_; rotate_left; focus (intro w hSw; (try dsimp only at hSw); go_simp; all_goals (with_reducible rfl))); (try simp only [Act.put, List.setIfInBounds_toArray, List.set_cons_zero, List.set_cons_succ, List.getElem_toArray, List.getElem_cons_succ, List.getElem_cons_zero])
      (refine wpAnyH_done (by kernel_rfl) ?_ _)
      clear hHeld hHeld2 hHeld3 f0 f1
      go_wp2_with (first
        | (refine wpList_load1_st rfl 22 _ rfl _ _ rfl _ _ _ (H.at 7 rfl) _ Tryz.underlying22 rfl _ (pR1 _ _) ?_))
      replace H := H.take 7
      go_roundw
      case rel =>
        refine ⟨j + 1, _, congrArg _ (by omega), by omega, ?_, H⟩
        have e : (ps.take (j + 1)).map PutS.home = (ps.take j).map PutS.home ++ [h] := by
          rw [List.take_succ_eq_append_getElem hlt, List.map_append, ← hh]; rfl
        rw [e]; exact HS2.out
      case measure => simp [intOf]; omega
    · obtain rfl : j = ps.length := by omega
      have hji : ¬ ((ps.length : Int) < (ps.length : Int)) := by omega
      have f0 : decide (119 < (ps.length : Int)) = false := decide_eq_false (by omega)
      have f1 : decide ((X.ring : Int) ≤ (ps.length : Int)) = false := decide_eq_false (by omega)
      have f2 : ¬ (X.ring ≤ ps.length) := by omega
      go_wp2_with (first | (refine wpList_load1_st rfl 3 _ rfl _ _ rfl _ _ _ (H.at 0 rfl) _ Tryz.underlying3 rfl _ (lRow6 _ _ _ _ _ _ _ _ _) ?_))
      go_ret
      exact ⟨rfl, (H.take 6).bunTo⟩

end Go.Proofs.YtajlhloapglafaaGreatDoor
