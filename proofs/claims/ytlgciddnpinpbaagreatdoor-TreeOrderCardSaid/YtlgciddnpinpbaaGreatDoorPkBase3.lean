/- Texts of this proof, packed: The log's looks, of a group whose homes are there, each once and what follows it. -/
import Derived.Test.YtlgciddnpinpbaaGreatDoorPkBase2
import Derived.Deep.CutBlock
import Derived.StillTailTactics
import Derived.Shelf.SlIterI.Nil
import Derived.Shelf.SortM.Plain
import Derived.Shelf.SortM.SortNone
import Derived.Ground.GgzProg
import Derived.Ground.SlgmProg
import Derived.Test.YtlgciddnpinpbaaGreatDoorProg
import Derived.Deep.CutRange

namespace Go.Proofs.YtlgciddnpinpbaaGreatDoor
open Go.RowKit
set_option linter.unusedSimpArgs false
set_option linter.unusedVariables false
set_option maxRecDepth 4000

/-- A group whose homes are there, each once. -/
structure GoodP (ps : List PutS) (n : Nat) : Prop where
  home : ∀ x ∈ ps, x.home < n
  len : ∀ x ∈ ps, x.bs.length = 248
  nodup : (ps.map PutS.home).Nodup
theorem Good.p {ps : List PutS} {n ring : Nat} (h : Good ps n ring) : GoodP ps n := ⟨h.home, h.len, h.nodup⟩
theorem GoodP.good {ps : List PutS} {n ring : Nat} (h : GoodP ps n) (h1 : ps.length ≤ 119) (h2 : ps.length < ring) : Good ps n ring := ⟨h.home, h.len, h.nodup, h1, h2⟩

/-- A look-up, run. -/
theorem wp_lookup_run {P : Program} {o : Oper} {a : Act} {Q : Exit → Act → World → Prop} {K : Act → World → Prop} {W : World}
    (t : TypeId) (m x : Operand) (c : Bool) (hop : o.op = .lookup t m x c) (mv xv v : Value) (hm : a.eval m = mv) (hx : a.eval x = xv)
    (hrun : (Instr.lookup t mv xv c).run P W = .ok v W) (h : K (a.put o.dst v) W) : o.wp P a W K Q := by
  unfold Oper.wp
  simp [execOp, hop, hm, hx, hrun, Result.andThen]
  exact h

theorem zero_put : (Tryz.prog.info? 127).bind (·.zero) = some (.agg #[.int .i64 0, .slice none 0 0]) := by kernel_rfl
def pR (h : Int) (v : Value) : List Value := [.int .i64 h, v]
theorem cells_put : (Value.agg #[.int .i64 0, .slice none 0 0]).cells = (pR 0 (.slice none 0 0)).toArray := rfl
theorem pR0 (h : Int) (v : Value) : (pR h v).toArray[0]? = some (.int .i64 h) := rfl
theorem pR1 (h : Int) (v : Value) : (pR h v).toArray[1]? = some v := rfl
theorem pR_all (h : Int) (p : Option Addr) (l c : Nat) : (pR h (.slice p l c)).toArray.all (·.oneCell') = true := all_oneCell_toArray (by
  intro v hv
  simp only [pR, List.mem_cons, List.not_mem_nil, or_false] at hv
  rcases hv with rfl | rfl <;> rfl)
theorem size_put : (Tryz.prog.info? 127).map (·.size) = some 2 := by kernel_rfl

set_option maxHeartbeats 2000000 in
theorem looks_any {w : World} {g gd gm : Nat} {X : LS} {M : DataW Value} {rm : Nat → Prop} {n : Nat} {D : DS} {own rd : Nat → Prop} {p : Option Addr} {cap : Nat} {ps : List PutS} {rp : Nat → Prop}
    (hb : Bundle w (logL g gd gm X M rm n D own rd ++ [rdA p (putV ps), putsA rp ps])) {N u : Nat} (hf : LogFine X n D N u) (hg : GoodP ps n) (hlen : ps.length ≤ 1900) :
    Calls Tryz.prog 141 #[.pointer (some ⟨g, 0, none⟩), .slice p ps.length cap] w fun e w' => ((ps.length ≤ 119 ∧ ps.length < X.ring) → e = .returned .nilIface) ∧ (¬ (ps.length ≤ 119 ∧ ps.length < X.ring) → ∃ ge, e = .returned (faultV ge) ∧ w'.heap[ge]? = some (faultO 4 .nilIface)) ∧
      BunTo w (ownL (logL g gd gm X M rm n D own rd ++ [rdA p (putV ps), putsA rp ps])) (rdL (logL g gd gm X M rm n D own rd ++ [rdA p (putV ps), putsA rp ps])) (logL g gd gm X M rm n D own rd ++ [rdA p (putV ps), putsA rp ps]) w' := by
  have H := hb.open_
  obtain ⟨O, hO⟩ : ∃ O, ownL (logL g gd gm X M rm n D own rd ++ [rdA p (putV ps), putsA rp ps]) = O := ⟨_, rfl⟩
  obtain ⟨R, hR⟩ : ∃ R, rdL (logL g gd gm X M rm n D own rd ++ [rdA p (putV ps), putsA rp ps]) = R := ⟨_, rfl⟩
  rw [hO, hR] at H ⊢
  clear hO hR hb
  have HF := Lib.hid hf
  have HG := Lib.hid hg
  have hli : (ps.length : Int) ≤ 1900 := by omega
  clear hlen
  clear hf hg
  go_enter Tryz.func141, Tryz.ntmps141
  go_wp2_with (first
    | (refine wpList_makemap_st H rfl 265 rfl ?_; clear H; intro W gs H; simp only [logL, List.nil_append, List.cons_append] at H))
  go_loopw [11, 7] (fun i _ wr => ∃ (j : Nat) (Ms : DataW Value), i = .int .i64 (j : Int) ∧ j ≤ ps.length ∧ Seen Ms ((ps.take j).map PutS.home) n ∧
      St O R w wr (logL g gd gm X M rm n D own rd ++ [rdA p (putV ps), putsA rp ps, mapA gs (Go.Maps.size Ms) Ms])) (fun i _ _ => ps.length - (intOf i).toNat)
  case atStart => exact ⟨0, .map [], rfl, Nat.zero_le _, Seen.empty n, H⟩
  case round =>
    clear H
    obtain ⟨j, Ms, rfl, hj, hseen, H⟩ := hrel
    rcases Nat.lt_or_ge j ps.length with hlt | hge
    · obtain ⟨ga, offa, rfl, hcell0⟩ := rdA_at (H.at 4 rfl) (putV_at ps j hlt).1
      obtain ⟨ga', offa', e1, hcell1⟩ := rdA_at (H.at 4 rfl) (putV_at ps j hlt).2
      simp only [Option.some.injEq, Addr.mk.injEq] at e1
      obtain ⟨rfl, rfl, _⟩ := e1
      obtain ⟨gv, offv, capv, hval, hcv, hrv, hbv⟩ := (H.at 5 rfl : PutsIs wr rp ps).val j hlt (HG.out.len _ (List.getElem_mem hlt))
      rw [hval, ← Nat.add_assoc] at hcell1
      have hhn : ps[j].home < n := HG.out.home _ (List.getElem_mem hlt)
      have hnew : ps[j].home ∉ (ps.take j).map PutS.home := by
        have hnd := HG.out.nodup
        have hsp : ps.map PutS.home = (ps.take j).map PutS.home ++ (ps.drop j).map PutS.home := by rw [← List.map_append, List.take_append_drop]
        rw [hsp] at hnd
        intro hm
        refine (List.nodup_append.1 hnd).2.2 _ hm _ ?_ rfl
        exact List.mem_map.2 ⟨ps[j], by rw [List.drop_eq_getElem_cons hlt]; exact List.mem_cons_self .., rfl⟩
      obtain ⟨h, hh⟩ : ∃ h, ps[j].home = h := ⟨_, rfl⟩
      rw [hh] at hcell0 hhn hnew
      have hat : Ms.atKey (keyI h) (.held (.int .i64 0)) = .held (.int .i64 0) := by rw [hseen.at_, if_neg hnew]
      have hji : (j : Int) < (ps.length : Int) := by omega
      have hj0 : 0 ≤ (j : Int) := by omega
      have hh0 : 0 ≤ (h : Int) := by omega
      have hhi : (h : Int) < (n : Int) := by omega
      have HA := Lib.hid hat
      have HS := Lib.hid hseen
      clear hat hseen hnew hbv hval
      go_wp2_with (first
        | (refine wpList_alloc_st H rfl 127 rfl _ zero_put ?_; clear H; intro W g7 H; rw [cells_put] at H; simp only [logL, List.nil_append, List.cons_append] at H)
        | (refine wpList_storerow_st H 7 rfl 127 _ _ rfl _ (pR (h : Int) (.slice (some ⟨gv, offv, none⟩) 248 capv)).toArray rfl rfl _ _ rfl size_put rfl (pR_all _ _ _ _) ?_; clear H; intro W H; simp only [List.set_cons_zero, List.set_cons_succ] at H)
        | (refine wpList_load1_st rfl 3 _ rfl _ _ rfl _ _ _ (H.at 7 rfl) _ Tryz.underlying3 rfl _ (pR0 _ _) ?_)
        | (refine wpList_lookup_run rfl 265 _ _ _ rfl _ _ _ rfl rfl (look_int (H.at 6 rfl : World.ownsMap _ Tryz.prog 3 RV gs (Go.Maps.size Ms) Ms) h (by have := HF.out.fits; have := HF.out.top; omega) _ HA.out) ?_)
        | (obtain ⟨W3, hrun, H3⟩ := H.mapStoreI 6 rfl (by have := keys_size_le HS.out.keys (H.at 6 rfl : World.ownsMap _ Tryz.prog 3 RV gs (Go.Maps.size Ms) Ms); have := HF.out.fits; have := HF.out.top; omega) h (by have := HF.out.fits; have := HF.out.top; omega) (.int .i64 1); refine wpList_mapupdate_run rfl 265 _ _ _ rfl _ _ _ rfl rfl rfl hrun ?_; clear hrun H; have H := H3; clear H3; simp only [List.set_cons_zero, List.set_cons_succ] at H))
      have HS2 := Lib.hid (HS.out.put h hhn)
      have HA2 := Lib.hid (show (Ms.put (keyI h) (.held (.int .i64 1))).atKey (keyI h) (.held (.int .i64 0)) = .held (.int .i64 1) by rw [HS2.out.at_ h]; simp)
      have f0 : decide ((h : Int) < 0) = false := decide_eq_false (by omega)
      have f1 : decide ((n : Int) ≤ (h : Int)) = false := decide_eq_false (by omega)
      have f2 : ¬ (n ≤ h) := by omega
      replace H := H.drew
      refine wp_region_held_drew (S := fun w' => w'.cell? ⟨g7, 0, none⟩ = some (.int .i64 (h : Int))) (by kernel_rfl) (row_cell (H.at 7 rfl) (pR0 _ _)) (fun hHeld => ?_)
      (refine wpAnyH_take (i := 0) (v := ?_) rfl (by kernel_rfl) (by kernel_rfl) (by kernel_rfl) (fun _ _ _ h => h) (Or.inl ⟨by rfl, ?_⟩) (by assumption) ?_; rotate_left; focus (intro w hSw; (try dsimp only at hSw); go_simp; all_goals (with_reducible rfl))); (try simp only [Act.put, List.setIfInBounds_toArray, List.set_cons_zero, List.set_cons_succ, List.getElem_toArray, List.getElem_cons_succ, List.getElem_cons_zero])
      (refine wpAnyH_take (i := 1) rfl (by kernel_rfl) (by kernel_rfl) (by kernel_rfl) (fun _ _ _ h => h) ((yieldsIf_load1 (by rfl) 3 _ rfl _ _ (by rfl) _ Tryz.underlying3 rfl _ (fun w h => h))) (by assumption) ?_); (try simp only [Act.put, List.setIfInBounds_toArray, List.set_cons_zero, List.set_cons_succ, List.getElem_toArray, List.getElem_cons_succ, List.getElem_cons_zero])
      (refine wpAnyH_take (i := 2) (v := ?_) rfl (by kernel_rfl) (by kernel_rfl) (by kernel_rfl) (fun _ _ _ h => h) (Or.inl ⟨by rfl, ?_⟩) (by assumption) ?_; rotate_left; focus (intro w hSw; (try dsimp only at hSw); go_simp; all_goals (with_reducible rfl))); (try simp only [Act.put, List.setIfInBounds_toArray, List.set_cons_zero, List.set_cons_succ, List.getElem_toArray, List.getElem_cons_succ, List.getElem_cons_zero])
      (refine wpAnyH_take (i := 3) (v := ?_) rfl (by kernel_rfl) (by kernel_rfl) (by kernel_rfl) (fun _ _ _ h => h) (Or.inl ⟨by rfl, ?_⟩) (by assumption) ?_; rotate_left; focus (intro w hSw; (try dsimp only at hSw); go_simp; all_goals (with_reducible rfl))); (try simp only [Act.put, List.setIfInBounds_toArray, List.set_cons_zero, List.set_cons_succ, List.getElem_toArray, List.getElem_cons_succ, List.getElem_cons_zero])
      (refine wpAnyH_take (i := 4) (v := ?_) rfl (by kernel_rfl) (by kernel_rfl) (by kernel_rfl) (fun _ _ _ h => h) (Or.inl ⟨by rfl, ?_⟩) (by assumption) ?_; rotate_left; focus (intro w hSw; (try dsimp only at hSw); go_simp; all_goals (with_reducible rfl))); (try simp only [Act.put, List.setIfInBounds_toArray, List.set_cons_zero, List.set_cons_succ, List.getElem_toArray, List.getElem_cons_succ, List.getElem_cons_zero])
      (refine wpAnyH_take (i := 5) rfl (by kernel_rfl) (by kernel_rfl) (by kernel_rfl) (fun _ _ _ h => h) ((yieldsIf_load1 (by rfl) 3 _ rfl _ _ (by rfl) _ Tryz.underlying3 rfl _ (fun w h => h))) (by assumption) ?_); (try simp only [Act.put, List.setIfInBounds_toArray, List.set_cons_zero, List.set_cons_succ, List.getElem_toArray, List.getElem_cons_succ, List.getElem_cons_zero])
      (refine wpAnyH_take (i := 6) (v := ?_) rfl (by kernel_rfl) (by kernel_rfl) (by kernel_rfl) (fun _ _ _ h => h) (Or.inl ⟨by rfl, ?_⟩) (by assumption) ?_; rotate_left; focus (intro w hSw; (try dsimp only at hSw); go_simp; all_goals (with_reducible rfl))); (try simp only [Act.put, List.setIfInBounds_toArray, List.set_cons_zero, List.set_cons_succ, List.getElem_toArray, List.getElem_cons_succ, List.getElem_cons_zero])
      (refine wpAnyH_ready (rs := [7]) (by kernel_rfl) (by simp) (AllReadyH.cons rfl (fun K hK => ?_) AllReadyH.nil)); (rw [if_pos (by rfl)]); (go_simp; go_at_call 68; (refine (homes_ok (g := g) (gd := gd) (gm := gm) (X := X) (M := M) (rm := rm) (n := n) (D := D) (own := own) (rd := rd) (H.take 4).bundle HF.out.calm.len HF.out.fits HF.out.top).mono ?_); rintro e W ⟨rfl, hto⟩; replace H := hto.front (R := [rdA _ _, putsA _ _, mapA _ _ _, blk _ _]) H; clear hto; simp only [logL, List.nil_append, List.cons_append] at H; (try dsimp only); refine hK.out _ _ (row_cell (H.at 7 rfl) (pR0 _ _)) (fun hHeld2 => ?_); clear hK K) ; (try simp only [Act.put, List.setIfInBounds_toArray, List.set_cons_zero, List.set_cons_succ, List.getElem_toArray, List.getElem_cons_succ, List.getElem_cons_zero])
      (refine wpAnyH_take (i := 8) (v := ?_) rfl (by kernel_rfl) (by kernel_rfl) (by kernel_rfl) (fun _ _ _ h => h) (Or.inl ⟨by rfl, ?_⟩) (by assumption) ?_; rotate_left; focus (intro w hSw; (try dsimp only at hSw); go_simp; all_goals (with_reducible rfl))); (try simp only [Act.put, List.setIfInBounds_toArray, List.set_cons_zero, List.set_cons_succ, List.getElem_toArray, List.getElem_cons_succ, List.getElem_cons_zero])
      (refine wpAnyH_take (i := 9) (v := ?_) rfl (by kernel_rfl) (by kernel_rfl) (by kernel_rfl) (fun _ _ _ h => h) (Or.inl ⟨by rfl, ?_⟩) (by assumption) ?_; rotate_left; focus (intro w hSw; (try dsimp only at hSw); go_simp; all_goals (with_reducible rfl))); (try simp only [Act.put, List.setIfInBounds_toArray, List.set_cons_zero, List.set_cons_succ, List.getElem_toArray, List.getElem_cons_succ, List.getElem_cons_zero])
      (refine wpAnyH_take (i := 10) (v := ?_) rfl (by kernel_rfl) (by kernel_rfl) (by kernel_rfl) (fun _ _ _ h => h) (Or.inl ⟨by rfl, ?_⟩) (by assumption) ?_; rotate_left; focus (intro w hSw; (try dsimp only at hSw); go_simp; all_goals (with_reducible rfl))); (try simp only [Act.put, List.setIfInBounds_toArray, List.set_cons_zero, List.set_cons_succ, List.getElem_toArray, List.getElem_cons_succ, List.getElem_cons_zero])
      (refine wpAnyH_take (i := 11) (v := ?_) rfl (by kernel_rfl) (by kernel_rfl) (by kernel_rfl) (fun _ _ _ h => h) (Or.inl ⟨by rfl, ?_⟩) (by assumption) ?_; rotate_left; focus (intro w hSw; (try dsimp only at hSw); go_simp; all_goals (with_reducible rfl))); (try simp only [Act.put, List.setIfInBounds_toArray, List.set_cons_zero, List.set_cons_succ, List.getElem_toArray, List.getElem_cons_succ, List.getElem_cons_zero])
      (refine wpAnyH_take (i := 12) (v := ?_) rfl (by kernel_rfl) (by kernel_rfl) (by kernel_rfl) (fun _ _ _ h => h) (Or.inl ⟨by rfl, ?_⟩) (by assumption) ?_; rotate_left; focus (intro w hSw; (try dsimp only at hSw); go_simp; all_goals (with_reducible rfl))); (try simp only [Act.put, List.setIfInBounds_toArray, List.set_cons_zero, List.set_cons_succ, List.getElem_toArray, List.getElem_cons_succ, List.getElem_cons_zero])
      (refine wpAnyH_take (i := 13) rfl (by kernel_rfl) (by kernel_rfl) (by kernel_rfl) (fun _ _ _ h => h) ((yieldsIf_load1 (by rfl) 3 _ rfl _ _ (by rfl) _ Tryz.underlying3 rfl _ (fun w h => h))) (by assumption) ?_); (try simp only [Act.put, List.setIfInBounds_toArray, List.set_cons_zero, List.set_cons_succ, List.getElem_toArray, List.getElem_cons_succ, List.getElem_cons_zero])
      (refine wpAnyH_ready (rs := [14]) (by kernel_rfl) (by simp) (AllReadyH.cons rfl (fun K hK => ?_) AllReadyH.nil)); (rw [if_pos (by rfl)]); (refine wp_lookup_run 265 _ _ _ rfl _ _ _ (by rfl) (by rfl) (look_int (H.at 6 rfl : World.ownsMap _ Tryz.prog 3 RV gs _ _) h (by have := HF.out.fits; have := HF.out.top; omega) _ HA2.out) ?_; refine hK.out _ _ (row_cell (H.at 7 rfl) (pR0 _ _)) (fun hHeld3 => ?_); clear hK K) ; (try simp only [Act.put, List.setIfInBounds_toArray, List.set_cons_zero, List.set_cons_succ, List.getElem_toArray, List.getElem_cons_succ, List.getElem_cons_zero])
      (refine wpAnyH_take (i := 15) (v := ?_) rfl (by kernel_rfl) (by kernel_rfl) (by kernel_rfl) (fun _ _ _ h => h) (Or.inl ⟨by rfl, ?_⟩) (by assumption) ?_; rotate_left; focus (intro w hSw; (try dsimp only at hSw); go_simp; all_goals (with_reducible rfl))); (try simp only [Act.put, List.setIfInBounds_toArray, List.set_cons_zero, List.set_cons_succ, List.getElem_toArray, List.getElem_cons_succ, List.getElem_cons_zero])
      (refine wpAnyH_take (i := 16) (v := ?_) rfl (by kernel_rfl) (by kernel_rfl) (by kernel_rfl) (fun _ _ _ h => h) (Or.inl ⟨by rfl, ?_⟩) (by assumption) ?_; rotate_left; focus (intro w hSw; (try dsimp only at hSw); go_simp; all_goals (with_reducible rfl))); (try simp only [Act.put, List.setIfInBounds_toArray, List.set_cons_zero, List.set_cons_succ, List.getElem_toArray, List.getElem_cons_succ, List.getElem_cons_zero])
      (refine wpAnyH_done (by kernel_rfl) ?_ _)
      clear hHeld hHeld2 hHeld3 f0 f1
      go_wp2_with (first
        | (refine wpList_load1_st rfl 22 _ rfl _ _ rfl _ _ _ (H.at 7 rfl) _ Tryz.underlying22 rfl _ (pR1 _ _) ?_))
      replace H := H.take 7
      go_roundw
      case rel =>
        refine ⟨j + 1, _, congrArg _ (by omega), by omega, ?_, H⟩
        have e : (ps.take (j + 1)).map PutS.home = (ps.take j).map PutS.home ++ [h] := by
          rw [List.take_succ_eq_append_getElem hlt, List.map_append, ← hh]; rfl
        rw [e]; exact HS2.out
      case measure => simp [intOf]; omega
    · obtain rfl : j = ps.length := by omega
      have hji : ¬ ((ps.length : Int) < (ps.length : Int)) := by omega
      by_cases hm : ps.length ≤ 119
      · have f0 : decide (119 < (ps.length : Int)) = false := decide_eq_false (by omega)
        have f3 : ¬ (119 < ps.length) := by omega
        by_cases hr : ps.length < X.ring
        · have f1 : decide ((X.ring : Int) ≤ (ps.length : Int)) = false := decide_eq_false (by omega)
          have f2 : ¬ (X.ring ≤ ps.length) := by omega
          go_wp2_with (first | (refine wpList_load1_st rfl 3 _ rfl _ _ rfl _ _ _ (H.at 0 rfl) _ Tryz.underlying3 rfl _ (lRow6 _ _ _ _ _ _ _ _ _) ?_))
          go_ret
          exact ⟨rfl, (H.take 6).bunTo⟩
        · have f1 : decide ((X.ring : Int) ≤ (ps.length : Int)) = true := decide_eq_true (by omega)
          have f2 : X.ring ≤ ps.length := by omega
          go_wp2_with (first
            | (refine wpList_load1_st rfl 3 _ rfl _ _ rfl _ _ _ (H.at 0 rfl) _ Tryz.underlying3 rfl _ (lRow6 _ _ _ _ _ _ _ _ _) ?_)
            | (go_at_call 134; go_loud ((refine (bad_no 4 rfl _).mono ?_); rintro e W' ⟨ge, rfl, hge, hgo, hb⟩)))
          go_ret
          exact ⟨fun h => absurd h.2 hr, fun _ => ⟨ge, rfl, hgo⟩, ((H.stay (Fix.of_below hb _)).take 6).bunTo⟩
      · have f0 : decide (119 < (ps.length : Int)) = true := decide_eq_true (by omega)
        have f3 : 119 < ps.length := by omega
        go_wp2_with (first
          | (refine wpList_load1_st rfl 3 _ rfl _ _ rfl _ _ _ (H.at 0 rfl) _ Tryz.underlying3 rfl _ (lRow6 _ _ _ _ _ _ _ _ _) ?_)
          | (go_at_call 134; go_loud ((refine (bad_no 4 rfl _).mono ?_); rintro e W' ⟨ge, rfl, hge, hgo, hb⟩)))
        go_ret
        exact ⟨fun h => absurd h.1 hm, fun _ => ⟨ge, rfl, hgo⟩, ((H.stay (Fix.of_below hb _)).take 6).bunTo⟩

theorem looks_ok {w : World} {g gd gm : Nat} {X : LS} {M : DataW Value} {rm : Nat → Prop} {n : Nat} {D : DS} {own rd : Nat → Prop} {p : Option Addr} {cap : Nat} {ps : List PutS} {rp : Nat → Prop}
    (hb : Bundle w (logL g gd gm X M rm n D own rd ++ [rdA p (putV ps), putsA rp ps])) {N u : Nat} (hf : LogFine X n D N u) (hg : Good ps n X.ring) :
    Calls Tryz.prog 141 #[.pointer (some ⟨g, 0, none⟩), .slice p ps.length cap] w fun e w' => e = .returned .nilIface ∧
      BunTo w (ownL (logL g gd gm X M rm n D own rd ++ [rdA p (putV ps), putsA rp ps])) (rdL (logL g gd gm X M rm n D own rd ++ [rdA p (putV ps), putsA rp ps])) (logL g gd gm X M rm n D own rd ++ [rdA p (putV ps), putsA rp ps]) w' := by
  refine (looks_any (cap := cap) hb hf hg.p (by have := hg.most; omega)).mono ?_
  rintro e w' ⟨h1, _, h3⟩
  exact ⟨h1 ⟨hg.most, hg.fits⟩, h3⟩

end Go.Proofs.YtlgciddnpinpbaaGreatDoor

namespace Go.Proofs.YtlgciddnpinpbaaGreatDoor
open Go.RowKit
set_option linter.unusedSimpArgs false
set_option linter.unusedVariables false
set_option maxRecDepth 4000

set_option maxHeartbeats 2000000 in
theorem markOf_ok {w : World} {g gd gm : Nat} {X : LS} {M : DataW Value} {rm : Nat → Prop} {n : Nat} {D : DS} {own rd : Nat → Prop} {p : Option Addr} {cap : Nat} {ps : List PutS} {rp : Nat → Prop}
    (hb : Bundle w (logL g gd gm X M rm n D own rd ++ [rdA p (putV ps), putsA rp ps])) {N u : Nat} (hf : LogFine X n D N u) (hg : Good ps n X.ring) (ht : X.turn < 2305843009213693952) :
    Calls Tryz.prog 146 #[.pointer (some ⟨g, 0, none⟩), .slice p ps.length cap] w fun e w' => ∃ gk capk l junk, e = .returned (.slice (some ⟨gk, 0, none⟩) 256 capk) ∧ l.length = 256 ∧ 256 ≤ capk ∧
      BunTo w (ownL (logL g gd gm X M rm n D own rd ++ [rdA p (putV ps), putsA rp ps])) (rdL (logL g gd gm X M rm n D own rd ++ [rdA p (putV ps), putsA rp ps]))
        ((logL g gd gm X M rm n D own rd ++ [rdA p (putV ps), putsA rp ps]) ++ [blk gk (.cells (byteV l ++ junk).toArray 5 (0, 0))]) w' := by
  have H := hb.open_
  obtain ⟨O, hO⟩ : ∃ O, ownL (logL g gd gm X M rm n D own rd ++ [rdA p (putV ps), putsA rp ps]) = O := ⟨_, rfl⟩
  obtain ⟨R, hR⟩ : ∃ R, rdL (logL g gd gm X M rm n D own rd ++ [rdA p (putV ps), putsA rp ps]) = R := ⟨_, rfl⟩
  rw [hO, hR] at H ⊢
  clear hO hR hb
  have HF := Lib.hid hf
  have HG := Lib.hid hg
  have hli : (ps.length : Int) ≤ 119 := by have := hg.most; omega
  have ht1 : (X.turn : Int) < 2305843009213693952 := by omega
  have ht0 : 0 ≤ (X.turn : Int) := by omega
  have HT := Lib.hid ht
  clear hf hg ht
  have tok1 : True := trivial
  have tok2 : True := trivial
  go_enter Tryz.func146, Tryz.ntmps146
  go_wp2_with (first
    | (refine wpList_load1_st rfl 104 _ rfl _ _ rfl _ _ _ (H.at 0 rfl) _ Tryz.underlying104 rfl _ (lRow4 _ _ _ _ _ _ _ _ _) ?_)
    | (go_at_call 111; have _t := tok1; clear _t; go_loud ((refine (put_at _ [] (2 * (X.turn : Int) + 1) 8 (2 * X.turn + 1) 8 8 _ (.inl ⟨rfl, rfl⟩) (by omega) rfl rfl (by simp) (by omega) (by omega) (by have := HT.out; omega)).mono ?_); rintro e W1 ⟨g1, cap1, junk1, rfl, hl1, hc1, hj1, hm1, hg1, hb1, hbl⟩; replace H := H.add (Fix.of_below hbl _) (blk g1 _) hb1 (fun k hk => by rw [show k = g1 from hk]; exact hg1) (fun k hk => hk.elim); clear hb1 hbl tok1; simp only [logL, List.nil_append, List.cons_append] at H hl1))
    | (go_at_call 111; have _t := tok2; clear _t; go_loud ((refine (put_at _ (Lib.leBytes 8 (2 * X.turn + 1)) (ps.length : Int) 2 ps.length 2 10 _ (argS_front (H.at 6 rfl) hl1 hc1) rfl rfl (by rw [hl1]) (by rw [hl1]; omega) (by omega) (by omega) (by have := HG.out.most; omega)).mono ?_); rintro e W1 ⟨g2, cap2, junk2, rfl, hl2, hc2, hj2, hm2, hg2, hb2, hbl⟩; replace H := (H.take 6).add (Fix.of_below hbl _) (blk g2 _) hb2 (fun k hk => by rw [show k = g2 from hk]; exact hg2) (fun k hk => hk.elim); clear hb2 hbl tok2; simp only [logL, List.take_succ_cons, List.take_zero, List.nil_append, List.cons_append] at H)))
  go_loopw [24, 6, 8] (fun i b _ wr => ∃ (j gb capb : Nat) (l : List UInt8) (junk : List Value), i = .int .i64 (j : Int) ∧ j ≤ ps.length ∧ b = .slice (some ⟨gb, 0, none⟩) (10 + 2 * j) capb ∧ l.length = 10 + 2 * j ∧ 10 + 2 * j ≤ capb ∧ (byteV l ++ junk).length = capb ∧ capb ≤ maxLen ∧
      St O R w wr ((logL g gd gm X M rm n D own rd ++ [rdA p (putV ps), putsA rp ps]) ++ [blk gb (.cells (byteV l ++ junk).toArray 5 (0, 0))])) (fun i _ _ _ => ps.length - (intOf i).toNat)
  case atStart => exact ⟨0, g2, cap2, _, junk2, rfl, Nat.zero_le _, rfl, hl2, hc2, hj2, hm2, H⟩
  case round =>
    clear H
    obtain ⟨j, gb, capb, l, junk, rfl, hj, rfl, hl, hc, hjl, hcm, H⟩ := hrel
    rcases Nat.lt_or_ge j ps.length with hlt | hge
    · obtain ⟨ga, offa, rfl, hcell0⟩ := rdA_at (H.at 4 rfl) (putV_at ps j hlt).1
      obtain ⟨ga', offa', e1, hcell1⟩ := rdA_at (H.at 4 rfl) (putV_at ps j hlt).2
      simp only [Option.some.injEq, Addr.mk.injEq] at e1
      obtain ⟨rfl, rfl, _⟩ := e1
      obtain ⟨gv, offv, capv, hval, hcv, hrv, hbv⟩ := (H.at 5 rfl : PutsIs wr rp ps).val j hlt (HG.out.len _ (List.getElem_mem hlt))
      rw [hval, ← Nat.add_assoc] at hcell1
      have hhn : ps[j].home < n := HG.out.home _ (List.getElem_mem hlt)
      obtain ⟨h, hh⟩ : ∃ h, ps[j].home = h := ⟨_, rfl⟩
      rw [hh] at hcell0 hhn
      have hji : (j : Int) < (ps.length : Int) := by omega
      have hj0 : 0 ≤ (j : Int) := by omega
      have hh0 : 0 ≤ (h : Int) := by omega
      have hhi : (h : Int) < 1900 := by have := HF.out.fits; have := HF.out.top; omega
      have HH := Lib.hid (show h < 18446744073709551616 by have := HF.out.fits; have := HF.out.top; omega)
      have HL := Lib.hid hl
      have HC := Lib.hid hc
      have HJ := Lib.hid (show j ≤ 119 by have := HG.out.most; omega)
      clear hbv hval hl hc hcv hhn
      go_wp2_with (first
        | (refine wpList_alloc_st H rfl 127 rfl _ zero_put ?_; clear H; intro W g7 H; rw [cells_put] at H; simp only [logL, List.nil_append, List.cons_append] at H)
        | (refine wpList_storerow_st H 7 rfl 127 _ _ rfl _ (pR (h : Int) (.slice (some ⟨gv, offv, none⟩) 248 capv)).toArray rfl rfl _ _ rfl size_put rfl (pR_all _ _ _ _) ?_; clear H; intro W H; simp only [List.set_cons_zero, List.set_cons_succ] at H)
        | (refine wpList_load1_st rfl 3 _ rfl _ _ rfl _ _ _ (H.at 7 rfl) _ Tryz.underlying3 rfl _ (pR0 _ _) ?_)
        | (go_at_call 111; go_loud ((refine (put_at _ l (h : Int) 2 h 2 (10 + 2 * (j + 1)) _ (argS_front (H.at 6 rfl) HL.out HC.out) rfl rfl (by rw [HL.out]; omega) (by rw [HL.out]; have := HJ.out; omega) (by omega) (by omega) HH.out).mono ?_); rintro e W1 ⟨g2, cap2, junk2, rfl, hl2, hc2, hj2, hm2, hg2, hb2, hbl⟩; replace H := (H.take 6).add (Fix.of_below hbl _) (blk g2 _) hb2 (fun k hk => by rw [show k = g2 from hk]; exact hg2) (fun k hk => hk.elim); clear hb2 hbl; simp only [logL, List.take_succ_cons, List.take_zero, List.nil_append, List.cons_append] at H)))
      go_roundw
      case rel => exact ⟨j + 1, g2, cap2, _, junk2, congrArg _ (by omega), by omega, rfl, hl2, hc2, hj2, hm2, H⟩
      case measure => simp [intOf]; omega
    · obtain rfl : j = ps.length := by omega
      have hji : ¬ ((ps.length : Int) < (ps.length : Int)) := by omega
      have HL := Lib.hid hl
      have HC := Lib.hid hc
      by_cases hz : ps.length = 119
      · have e1 : 10 + 2 * ps.length = 248 := by omega
        rw [e1] at HL HC ⊢
        clear hl hc
        go_wp2_with (first
          | (refine wpList_appz0 rfl _ _ 22 3 rfl _ Tryz.underlying22 _ Tryz.underlying3 size_u8 gb 248 capb rfl HC.out _ rfl ?_)
          | (go_at_call 111; go_loud ((refine (put_at _ (l) (2 * (X.turn : Int) + 1) 8 (2 * X.turn + 1) 8 256 _ (argS_front (H.at 6 rfl) (HL.out) (HC.out)) (by omega) rfl (by rw [HL.out]) (by rw [HL.out]; omega) (by omega) (by omega) (by have := HT.out; omega)).mono ?_); rintro e W1 ⟨g2, cap2, junk2, rfl, hl2, hc2, hj2, hm2, hg2, hb2, hbl⟩; replace H := (H.take 6).add (Fix.of_below hbl _) (blk g2 _) hb2 (fun k hk => by rw [show k = g2 from hk]; exact hg2) (fun k hk => hk.elim); clear hb2 hbl; simp only [logL, List.take_succ_cons, List.take_zero, List.nil_append, List.cons_append] at H)))
        go_ret
        exact ⟨g2, cap2, _, junk2, rfl, hl2, hc2, H.bunTo⟩
      · obtain ⟨q, hq⟩ : ∃ q, 10 + 2 * ps.length = q := ⟨_, rfl⟩
        obtain ⟨k, hk⟩ : ∃ k, 248 - q = k := ⟨_, rfl⟩
        have hmo := HG.out.most
        have hk0 : 0 < k := by omega
        have e3 := Lib.hid (show (248 : Int) - (q : Int) = (k : Int) by omega)
        have e2 := Lib.hid (show q + k = 248 by omega)
        have hqi : (q : Int) < 248 := by omega
        have hq0 : 0 ≤ (q : Int) := by omega
        rw [hq] at HL HC ⊢
        clear hl hc hq hk
        have hzr : (List.replicate k (Value.int .u8 0)) = byteV (List.replicate k 0) := by simp [byteV]
        go_wp2_with (first
          | go_loud (refine wpList_appz_st H 6 rfl _ _ 22 3 rfl _ Tryz.underlying22 _ Tryz.underlying3 _ _ info_u8 rfl rfl gb q capb rfl _ rfl HC.out hjl hcm .i64 k (congrArg (Value.int .i64) e3.out) hk0 (by have := e2.out; simp only [maxLen]; omega) (by have := e2.out; omega) ?_; clear H; intro W g5 cap5 junk5 H hj5 hc5 hm5; simp only [List.set_cons_zero, List.set_cons_succ, logL, List.nil_append, List.cons_append] at H; rw [take_byteV _ _ _ HL.out, hzr] at H hj5; rw [show byteV l ++ byteV (List.replicate k 0) = byteV (l ++ List.replicate k 0) by simp [byteV]] at H hj5; rw [e2.out] at hc5 ⊢; have HL5 := Lib.hid (show (l ++ List.replicate k 0).length = 248 by rw [List.length_append, HL.out, List.length_replicate]; exact e2.out))
          | (go_at_call 111; go_loud ((refine (put_at _ (l ++ List.replicate k 0) (2 * (X.turn : Int) + 1) 8 (2 * X.turn + 1) 8 256 _ (argS_front (H.at 6 rfl) (HL5.out) (hc5)) (by omega) rfl (by rw [HL5.out]) (by rw [HL5.out]; omega) (by omega) (by omega) (by have := HT.out; omega)).mono ?_); rintro e W1 ⟨g2, cap2, junk2, rfl, hl2, hc2, hj2, hm2, hg2, hb2, hbl⟩; replace H := (H.take 6).add (Fix.of_below hbl _) (blk g2 _) hb2 (fun k hk => by rw [show k = g2 from hk]; exact hg2) (fun k hk => hk.elim); clear hb2 hbl; simp only [logL, List.take_succ_cons, List.take_zero, List.nil_append, List.cons_append] at H)))
        go_ret
        exact ⟨g2, cap2, _, junk2, rfl, hl2, hc2, H.bunTo⟩

end Go.Proofs.YtlgciddnpinpbaaGreatDoor

namespace Go.Proofs.YtlgciddnpinpbaaGreatDoor
open Go.RowKit
set_option linter.unusedSimpArgs false
set_option linter.unusedVariables false
set_option maxRecDepth 4000

theorem BunTo.st {W W' : World} {own rd : Nat → Prop} {L : List Asrt} (h : BunTo W own rd L W') : St own rd W W' L :=
  ⟨h.fix, h.holds.all, h.holds.apart, fun i A hi k hk => (h.owns k ⟨A, List.mem_of_getElem? hi, hk⟩).symm, fun i A hi k hk => by
    rcases h.reads k ⟨A, List.mem_of_getElem? hi, hk⟩ with h | h | h
    · exact .inr (.inl h)
    · exact .inr (.inr h)
    · exact .inl h⟩

theorem PutsIs.news {W : World} {rd : Nat → Prop} {ps : List PutS} (h : PutsIs W rd ps) (i : Nat) (hi : i < ps.length) (hl : ps[i].bs.length = 248) {gv off cap : Nat} (hval : ps[i].val = .slice (some ⟨gv, off, none⟩) 248 cap) :
    ∀ j u, (byteV ps[i].bs)[j]? = some u → W.cell? ((⟨gv, off, none⟩ : Addr).add j) = some u := by
  obtain ⟨gv', off', cap', hval', _, _, hb⟩ := h.val i hi hl
  rw [hval] at hval'
  simp only [Value.slice.injEq, Option.some.injEq, Addr.mk.injEq] at hval'
  obtain ⟨⟨rfl, rfl, _⟩, _, _⟩ := hval'
  intro j u hu
  have hj : j < ps[i].bs.length := by have := (List.getElem?_eq_some_iff.1 hu).1; simpa using this
  rw [byteV_get, List.getElem?_eq_getElem hj, Option.map_some, Option.some.injEq] at hu
  rw [Addr.add_lit, ← hu]; exact hb j hj

/-- A disk whose homes are as they were. -/
structure Off (D D' : DS) (N ring : Nat) (u : Nat) : Prop where
  calm : Calm D' N u
  lives : D'.lives = D.lives
  sect : ∀ k, 2 + ring ≤ k → k < N → D'.sect k = D.sect k

theorem Off.refl {D : DS} {N ring u : Nat} (h : Calm D N u) : Off D D N ring u := ⟨h, rfl, fun _ _ _ => rfl⟩
theorem Off.put {D D' : DS} {N ring u : Nat} (h : Off D D' N ring u) (s : Nat) (hs : s < 2 + ring) (l : List UInt8) : Off D (D'.put s l) N ring (u + 1) :=
  ⟨h.calm.put s l, h.lives, fun k hk hkN => by rw [sect_put, if_neg (by omega)]; exact h.sect k hk hkN⟩
theorem Off.flushed {D D' : DS} {N ring u : Nat} (h : Off D D' N ring u) : Off D D'.flushed N ring u :=
  ⟨h.calm.flushed, h.lives, fun k hk hkN => by rw [sect_flushed _ k (by rw [h.calm.len]; exact hkN)]; exact h.sect k hk hkN⟩

theorem LogFine.off {X : LS} {n : Nat} {D D' : DS} {N u u' : Nat} (h : LogFine X n D N u) (ho : Off D D' N X.ring u') : LogFine X n D' N u' :=
  ⟨ho.calm, h.fits, h.top, h.r1, h.r2, h.n1, h.place, h.lives.trans ho.lives.symm, h.full, h.free, h.turn, h.s⟩

/-- What the map has behind j puts. -/
def putM (m : Nat → Option (List UInt8)) : List PutS → Nat → Option (List UInt8)
  | [] => m
  | x :: ps => putM (fun k => if k = x.home then some x.bs else m k) ps

theorem putM_snoc (x : PutS) : ∀ (ps : List PutS) (m : Nat → Option (List UInt8)), putM m (ps ++ [x]) = fun k => if k = x.home then some x.bs else putM m ps k
  | [], m => rfl
  | y :: ps, m => by rw [List.cons_append, putM, putM_snoc x ps]; rfl

/-- The log behind a group that had room. -/
def LS.done (X : LS) (ps : List PutS) : LS := { X with turn := X.turn + 1, place := (X.place + 1 + ps.length) % X.ring, free := X.free - ((ps.length + 1 : Nat) : Int), m := putM X.m ps }

theorem clone_n {w : World} {g off cap n : Nat} {l : List UInt8} (hb : BytesAt w g off l) (hl : l.length = n) (hn : n ≤ 1048576) (hlt : g < w.heap.size) :
    Calls Tryz.prog 63 #[.slice (some ⟨g, off, none⟩) n cap] w fun e w' => ∃ gc capc junk, e = .returned (.slice (some ⟨gc, 0, none⟩) n capc) ∧ n ≤ capc ∧ w.heap.size ≤ gc ∧
      w'.heap[gc]? = some (.cells (byteV l ++ junk).toArray 5 (0, 0)) ∧ Below w.heap.size w w' := by
  subst hl
  refine (clone_calls w g off cap l hb hn (.inr hlt)).mono ?_
  rintro e w' ⟨g', cap', junk, rfl, h5, h6, h7, h8, h9⟩
  exact ⟨g', cap', junk, rfl, h5, h7, h8, h9⟩

theorem PutsIs.at_ {W : World} {rd : Nat → Prop} {ps : List PutS} (h : PutsIs W rd ps) (i : Nat) (hi : i < ps.length) (hl : ps[i].bs.length = 248) {gv off cap : Nat} (hval : ps[i].val = .slice (some ⟨gv, off, none⟩) 248 cap) : BytesAt W gv off ps[i].bs ∧ gv < W.heap.size := by
  obtain ⟨gv', off', cap', hval', _, hr, hb⟩ := h.val i hi hl
  rw [hval] at hval'
  simp only [Value.slice.injEq, Option.some.injEq, Addr.mk.injEq] at hval'
  obtain ⟨⟨rfl, rfl, _⟩, _, _⟩ := hval'
  exact ⟨hb, h.lt _ hr⟩

/-- A map is stored into, run. -/
theorem wp_mapupdate_run {P : Program} {o : Oper} {a : Act} {Q : Exit → Act → World → Prop} {K : Act → World → Prop} {W W' : World}
    (t : TypeId) (m x y : Operand) (hop : o.op = .mapUpdate t m x y) (mv xv v : Value) (hm : a.eval m = mv) (hx : a.eval x = xv) (hy : a.eval y = v)
    (hrun : (Instr.mapUpdate t mv xv v).run P W = .ok () W') (h : K (a.put o.dst undef) W') : o.wp P a W K Q := by
  unfold Oper.wp
  simp [execOp, hop, hm, hx, hy, hrun, Result.andThen]
  exact h

section
variable {P : Program} {o : Oper} {a : Act} {Q : Exit → Act → World → Prop} {K : Act → World → Prop}
variable {M0 R0 : Nat → Prop} {w0 W : World} {L : List Asrt}

/-- One cell is loaded, run. -/
theorem wp_load1 (ty : TypeId) (x : Operand) (ho : o.op = .load ty x) (g off : Nat) (hx : a.eval x = .pointer (some ⟨g, off, none⟩)) (d : TypeDesc) (hu : P.underlying ty = some d)
    (hd : (match d with | .struct _ | .array _ _ => true | _ => false) = false) (v : Value) (hc : W.cell? ⟨g, off, none⟩ = some v) (h : K (a.put o.dst v) W) : o.wp P a W K Q := by
  have hagg : (isAgg ty).run P W = .ok false W := by
    unfold isAgg
    rw [Sem.run_bind, run_underlying hu W]
    cases d <;> simp_all
  unfold Oper.wp execOp
  simp only [ho, hx, Instr.loadAt, Instr.sureAddr, Sem.run_bind, Sem.run_pure, Result.andThen_ok, loadVar, hagg]
  have hl : (load ⟨g, off, none⟩).run P W = .ok v W := by simp [load, Sem.run, hc]
  simp [hl, Result.andThen]
  exact h

/-- One cell is stored, run. -/
theorem wp_store1_st (H : St M0 R0 w0 W L) (i : Nat) (ty : TypeId) (x y : Operand) (ho : o.op = .store ty x y)
    (g off : Nat) (v : Value) (hx : a.eval x = .pointer (some ⟨g, off, none⟩)) (hy : a.eval y = v) (h1 : v.oneCell' = true)
    (t : TypeId) (old : Array Value) (hi : L[i]? = some (blk g (.cells old t (0, 0)))) (hn : (P.info? ty).map (·.size) = some 1) (hoff : off < old.size)
    (h : ∀ W', St M0 R0 w0 W' (L.set i (blk g (.cells (old.setIfInBounds off v) t (0, 0)))) → K (a.put o.dst undef) W') : o.wp P a W K Q := by
  have hg := H.at i hi
  have hc : W.cell? ⟨g, off, none⟩ = some old[off] := by rw [cell_of_row W g off old t (0, 0) hg]; simp [hoff]
  have hf : W.frozen? ⟨g, off, none⟩ = false := frozen_of_row W g off old t hg
  have h' := h _ (H.setRow i hi (old.setIfInBounds off v))
  have hcells : v.cells = #[v] := by cases v <;> first | rfl | simp [Value.oneCell'] at h1
  have hst : (store ⟨g, off, none⟩ v).run P W = .ok () (W.setRow g (old.setIfInBounds off v)) := by
    rw [run_store P W _ v _ h1, hc]
    simp [hf, setCell_eq_setRow W g off old t (0, 0) v hg]
  cases hq : P.info? ty with
  | none => simp [hq] at hn
  | some i =>
    have hs : i.size = 1 := by simpa [hq] using hn
    have hadd : (⟨g, off, none⟩ : Addr).add 0 = ⟨g, off, none⟩ := by simp [Addr.add]
    unfold Oper.wp execOp
    simp [ho, hx, hy, Instr.storeAt, Instr.sureAddr, storeVar, sizeOf, typeInfo, hq, hs, hcells, storeCells, hadd, hst, Result.andThen]
    exact h'
end

/-- The log behind j puts of a group that is being taken up. -/
def LS.took (X : LS) (ps : List PutS) (j : Nat) : LS := { X with m := putM X.m (ps.take j) }

theorem took_succ (X : LS) (ps : List PutS) (j : Nat) (hj : j < ps.length) : X.took ps (j + 1) = { X.took ps j with m := fun k => if k = ps[j].home then some ps[j].bs else (X.took ps j).m k } := by
  unfold LS.took
  rw [List.take_succ_eq_append_getElem hj, putM_snoc]

end Go.Proofs.YtlgciddnpinpbaaGreatDoor

namespace Go.Proofs
open Go.Shelf
def Tryz.keysA_ren : Go.Shelf.Ren := ⟨fun | 7 => 65 | 10 => 104 | n => n, fun | 23 => 110 | 26 => 3 | 3 => 22 | 28 => 124 | 0 => 0 | 27 => 123 | 33 => 165 | 4 => 4 | n => n, fun | n => n⟩
theorem Tryz.keysA : Go.Proofs.SlLaysZI.n7 Tryz.prog Tryz.keysA_ren := {
  mixed := by kernel_rfl
  f7 := ⟨Tryz.f65.name, by decide, Tryz.func65.trans (congrArg some (by kernel_rfl))⟩
  f10 := ⟨Tryz.f104.name, by decide, Tryz.func104.trans (congrArg some (by kernel_rfl))⟩
  t0 := Tryz.underlying0
  a0 := Tryz.isAgg0
  z0 := Tryz.sizeOf0
  v0 := Tryz.zeroValue0
  t4 := Tryz.underlying4
  a4 := Tryz.isAgg4
  z4 := Tryz.sizeOf4
  v4 := Tryz.zeroValue4
  t23 := Tryz.underlying110
  a23 := Tryz.isAgg110
  z23 := Tryz.sizeOf110
  v23 := Tryz.zeroValue110
  t26 := Tryz.underlying3
  a26 := Tryz.isAgg3
  z26 := Tryz.sizeOf3
  v26 := Tryz.zeroValue3
  t27 := Tryz.underlying123
  a27 := Tryz.isAgg123
  z27 := Tryz.sizeOf123
  v27 := Tryz.zeroValue123
  t28 := Tryz.underlying124
  a28 := Tryz.isAgg124
  z28 := Tryz.sizeOf124
  v28 := Tryz.zeroValue124
  t33 := Tryz.underlying165
  a33 := Tryz.isAgg165
  z33 := Tryz.sizeOf165
  v33 := Tryz.zeroValue165 }
def Tryz.sortedA_ren : Go.Shelf.Ren := ⟨fun | 6 => 64 | 8 => 103 | 9 => 84 | 11 => 140 | 13 => 121 | 12 => 120 | 23 => 165 | 24 => 166 | 14 => 156 | 15 => 157 | 16 => 158 | 17 => 159 | 18 => 160 | 19 => 161 | 20 => 162 | 21 => 163 | 22 => 164 | 25 => 189 | 26 => 190 | 27 => 191 | 28 => 192 | 29 => 193 | 30 => 194 | 31 => 203 | n => n, fun | 26 => 3 | 28 => 124 | 24 => 72 | 0 => 0 | 3 => 3 | 37 => 135 | 48 => 48 | 50 => 104 | 4 => 4 | 40 => 237 | 39 => 236 | 45 => 98 | 5 => 5 | 9 => 9 | 51 => 281 | 55 => 284 | 57 => 292 | 58 => 293 | 33 => 165 | n => n, fun | n => n⟩
theorem Tryz.sortedA : Go.Proofs.SlLaysZI.n6 Tryz.prog Tryz.sortedA_ren := {
  mixed := by kernel_rfl
  f6 := ⟨Tryz.f64.name, by decide, Tryz.func64.trans (congrArg some (by kernel_rfl))⟩
  f8 := ⟨Tryz.f103.name, by decide, Tryz.func103.trans (congrArg some (by kernel_rfl))⟩
  f11 := ⟨Tryz.f140.name, by decide, Tryz.func140.trans (congrArg some (by kernel_rfl))⟩
  t0 := Tryz.underlying0
  a0 := Tryz.isAgg0
  z0 := Tryz.sizeOf0
  v0 := Tryz.zeroValue0
  t24 := Tryz.underlying72
  a24 := Tryz.isAgg72
  z24 := Tryz.sizeOf72
  v24 := Tryz.zeroValue72
  t26 := Tryz.underlying3
  a26 := Tryz.isAgg3
  z26 := Tryz.sizeOf3
  v26 := Tryz.zeroValue3
  t28 := Tryz.underlying124
  a28 := Tryz.isAgg124
  z28 := Tryz.sizeOf124
  v28 := Tryz.zeroValue124
  i26 := by kernel_rfl }
def Tryz.sortA_ren : Go.Shelf.Ren := ⟨fun | 5 => 84 | 8 => 121 | 7 => 120 | 19 => 165 | 20 => 166 | 10 => 156 | 11 => 157 | 12 => 158 | 13 => 159 | 14 => 160 | 15 => 161 | 16 => 162 | 17 => 163 | 18 => 164 | 30 => 189 | 31 => 190 | 32 => 191 | 33 => 192 | 34 => 193 | 35 => 194 | 40 => 203 | n => n, fun | 23 => 72 | 25 => 3 | 3 => 3 | 32 => 135 | 22 => 72 | 0 => 0 | 44 => 48 | 46 => 104 | 4 => 4 | 36 => 237 | 35 => 236 | 41 => 98 | 5 => 5 | 9 => 9 | 53 => 281 | 57 => 284 | 63 => 292 | 64 => 293 | n => n, fun | n => n⟩
theorem Tryz.sortA : Go.Proofs.SlLaysM.n5 Tryz.prog Tryz.sortA_ren := {
  mixed := by kernel_rfl
  f5 := ⟨Tryz.f84.name, by decide, Tryz.func84.trans (congrArg some (by kernel_rfl))⟩
  f7 := ⟨Tryz.f120.name, by decide, Tryz.func120.trans (congrArg some (by kernel_rfl))⟩
  f8 := Tryz.func121.trans (congrArg some (by kernel_rfl))
  f10 := ⟨Tryz.f156.name, by decide, Tryz.func156.trans (congrArg some (by kernel_rfl))⟩
  f11 := ⟨Tryz.f157.name, by decide, Tryz.func157.trans (congrArg some (by kernel_rfl))⟩
  f12 := ⟨Tryz.f158.name, by decide, Tryz.func158.trans (congrArg some (by kernel_rfl))⟩
  f13 := ⟨Tryz.f159.name, by decide, Tryz.func159.trans (congrArg some (by kernel_rfl))⟩
  f14 := ⟨Tryz.f160.name, by decide, Tryz.func160.trans (congrArg some (by kernel_rfl))⟩
  f15 := ⟨Tryz.f161.name, by decide, Tryz.func161.trans (congrArg some (by kernel_rfl))⟩
  f16 := ⟨Tryz.f162.name, by decide, Tryz.func162.trans (congrArg some (by kernel_rfl))⟩
  f17 := ⟨Tryz.f163.name, by decide, Tryz.func163.trans (congrArg some (by kernel_rfl))⟩
  f18 := ⟨Tryz.f164.name, by decide, Tryz.func164.trans (congrArg some (by kernel_rfl))⟩
  f19 := Tryz.func165.trans (congrArg some (by kernel_rfl))
  f20 := Tryz.func166.trans (congrArg some (by kernel_rfl))
  f30 := ⟨Tryz.f189.name, by decide, Tryz.func189.trans (congrArg some (by kernel_rfl))⟩
  f31 := Tryz.func190.trans (congrArg some (by kernel_rfl))
  f32 := Tryz.func191.trans (congrArg some (by kernel_rfl))
  f33 := ⟨Tryz.f192.name, by decide, Tryz.func192.trans (congrArg some (by kernel_rfl))⟩
  f34 := ⟨Tryz.f193.name, by decide, Tryz.func193.trans (congrArg some (by kernel_rfl))⟩
  f35 := ⟨Tryz.f194.name, by decide, Tryz.func194.trans (congrArg some (by kernel_rfl))⟩
  f40 := ⟨Tryz.f203.name, by decide, Tryz.func203.trans (congrArg some (by kernel_rfl))⟩
  t0 := Tryz.underlying0
  a0 := Tryz.isAgg0
  z0 := Tryz.sizeOf0
  v0 := Tryz.zeroValue0
  t3 := Tryz.underlying3
  a3 := Tryz.isAgg3
  z3 := Tryz.sizeOf3
  v3 := Tryz.zeroValue3
  t4 := Tryz.underlying4
  a4 := Tryz.isAgg4
  z4 := Tryz.sizeOf4
  v4 := Tryz.zeroValue4
  t5 := Tryz.underlying5
  a5 := Tryz.isAgg5
  z5 := Tryz.sizeOf5
  v5 := Tryz.zeroValue5
  t9 := Tryz.underlying9
  a9 := Tryz.isAgg9
  z9 := Tryz.sizeOf9
  v9 := Tryz.zeroValue9
  t22 := Tryz.underlying72
  a22 := Tryz.isAgg72
  z22 := Tryz.sizeOf72
  v22 := Tryz.zeroValue72
  t23 := Tryz.underlying72
  a23 := Tryz.isAgg72
  z23 := Tryz.sizeOf72
  v23 := Tryz.zeroValue72
  t25 := Tryz.underlying3
  a25 := Tryz.isAgg3
  z25 := Tryz.sizeOf3
  v25 := Tryz.zeroValue3
  t32 := Tryz.underlying135
  a32 := Tryz.isAgg135
  z32 := Tryz.sizeOf135
  v32 := Tryz.zeroValue135
  t35 := Tryz.underlying236
  a35 := Tryz.isAgg236
  z35 := Tryz.sizeOf236
  v35 := Tryz.zeroValue236
  t36 := Tryz.underlying237
  a36 := Tryz.isAgg237
  z36 := Tryz.sizeOf237
  v36 := Tryz.zeroValue237
  t41 := Tryz.underlying98
  a41 := Tryz.isAgg98
  z41 := Tryz.sizeOf98
  v41 := Tryz.zeroValue98
  t44 := Tryz.underlying48
  a44 := Tryz.isAgg48
  z44 := Tryz.sizeOf48
  v44 := Tryz.zeroValue48
  t46 := Tryz.underlying104
  a46 := Tryz.isAgg104
  z46 := Tryz.sizeOf104
  v46 := Tryz.zeroValue104
  t53 := Tryz.underlying281
  a53 := Tryz.isAgg281
  z53 := Tryz.sizeOf281
  v53 := Tryz.zeroValue281
  t57 := Tryz.underlying284
  a57 := Tryz.isAgg284
  z57 := Tryz.sizeOf284
  v57 := Tryz.zeroValue284
  t63 := Tryz.underlying292
  a63 := Tryz.isAgg292
  z63 := Tryz.sizeOf292
  v63 := Tryz.zeroValue292
  t64 := Tryz.underlying293
  a64 := Tryz.isAgg293
  z64 := Tryz.sizeOf293
  v64 := Tryz.zeroValue293 }
end Go.Proofs

namespace Go.Proofs
open Go.RowKit Go.Maps Go.Sort Go.Shelf
/-- slices.Sort's two contracts at this dump, at the fence that asks nothing. -/
theorem Tryz.sortsA (m : Nat) : AnyZI.SortsIn Tryz.prog Tryz.sortedA_ren Fence.wide m :=
  ⟨fun blk off cap ss W hH hblk hsz => callsIn_wide.2 (AnyM.slices_Sort_int Tryz.sortA blk off cap ss W hH hblk hsz),
   fun p cap W => callsIn_wide.2 (AnyM.slices_Sort_int_none Tryz.sortA p cap W)⟩

theorem Tryz.keys_calls (gm : Nat) (W : World) : Calls Tryz.prog 65 #[.map (some gm)] W fun e w' => e = .returned (.func (.func 104) #[] #[.pointer (some ⟨W.heap.size, 0, none⟩)]) ∧ w' = W.alloc (.cells #[.map (some gm)] 110) :=
  (callsIn_wide (n := 5)).1 (AnyZI.keys_in Tryz.keysA Fence.wide 5 trivial rfl (some gm) W)

theorem Tryz.sorted_calls {H : Type} (gm nn : Nat) (D0 : DataW H) (R : Value → Option (DataW H × List MemPlace)) (w : World) (hown : w.ownsMap Tryz.prog 3 R gm nn D0) (hmax : Maps.size D0 ≤ maxLen) (hbytes : Maps.size D0 * 8 ≤ 140737488355328) :
    Calls Tryz.prog 64 #[.func (.func 104) #[] #[.pointer (some ⟨w.heap.size, 0, none⟩)]] (w.alloc (.cells #[.map (some gm)] 110)) fun e w' => ∃ (v : Value) (ss : List Int), e = .returned v ∧ ss.Perm (intKeys D0) ∧
      w'.ownsRow w.heap.size 3 1 v ss.length ((ss.mergeSort (fun x y => decide (x ≤ y))).map encZ) ∧ Below w.heap.size w w' := by
  refine (callsIn_wide (n := 5)).1 ?_
  have hbl := hown.lt
  have hseq : SeqGives Fence.wide 2 Tryz.prog 104 #[.pointer (some ⟨w.heap.size, 0, none⟩)] encZ (fun ss => ss.Perm (intKeys D0)) (Maps.size D0) (w.alloc (.cells #[.map (some gm)] 110)) :=
    AnyZI.keys_gives (ρ := Tryz.keysA_ren) { Tryz.keysA with } Fence.wide _ trivial rfl (by omega) w.heap.size gm nn D0 _ (by simp) (by simp) (by
      obtain ⟨es, clock, hb, Ft, hs, hD⟩ := hown
      exact ⟨es, clock, (Below.heap_alloc _ _ gm hbl).trans hb, Ft, hs, hD⟩)
  have cS := AnyZI.sorted_in Tryz.sortedA Fence.wide 5 trivial trivial trivial trivial rfl (by omega) (Tryz.sortsA _) (enters_of Tryz.func84 (by kernel_rfl) rfl) 104 #[.pointer (some ⟨w.heap.size, 0, none⟩)] trivial (enters_of Tryz.func104 (by kernel_rfl) rfl) _ _ hmax hbytes _ hseq
  change CallsIn _ _ Tryz.prog 64 _ _ _ at cS
  refine cS.mono ?_
  rintro e w' ⟨v, ss, rfl, hS, hrow, hnil, hb⟩
  exact ⟨v, ss, rfl, hS, ownsRow_base_a hrow (by simp), ((Below.refl _ w).alloc (Nat.le_refl _) _).trans (hb.mono (by simp))⟩

end Go.Proofs

namespace Go.Proofs.YtlgciddnpinpbaaGreatDoor
open Go.RowKit
set_option linter.unusedSimpArgs false
set_option linter.unusedVariables false
set_option maxRecDepth 4000

/-- Which sectors wait. -/
def DS.waiting (D : DS) : List Nat := (List.range D.last.length).filter fun k => (D.wait k).isSome

theorem PayIs.keys_perm {W : World} {rd : Nat → Prop} {rows : List Value} {D : DS} {M : DataW Value} {tv : Value} (h : PayIs W rd rows D.last M D.wait tv D.torn) {gm n : Nat}
    (hm : W.ownsMap Tryz.prog 3 RV gm n M) {ss : List Int} (hs : ss.Perm (intKeys M)) : ss.mergeSort (fun x y => decide (x ≤ y)) = D.waiting.map fun k : Nat => (k : Int) := by
  have hhas : ∀ x : Int, x ∈ (D.waiting.map fun k : Nat => (k : Int)) ↔ Go.Maps.has M (.int .i64 x) = true := by
    intro x
    rw [List.mem_map]
    constructor
    · rintro ⟨k, hk, rfl⟩
      have hk2 : (D.wait k).isSome = true := by simpa [DS.waiting] using (List.mem_filter.1 hk).2
      rcases h.waits k with ⟨_, a2⟩ | ⟨v, l, a1, _⟩
      · rw [a2] at hk2; cases hk2
      · exact a1
    · intro hx
      obtain ⟨k, hk, e⟩ := h.keys _ hx
      simp only [keyI, Lit.int.injEq, true_and] at e
      subst e
      refine ⟨k, ?_, rfl⟩
      rcases h.waits k with ⟨a1, _⟩ | ⟨v, l, _, _, a3, _⟩
      · rw [show Lit.int .i64 (k : Int) = keyI k from rfl, a1] at hx; cases hx
      · simp [DS.waiting, hk, a3]
  obtain ⟨es, rfl, hpw, _⟩ := hm.entries keyedInt
  obtain ⟨es', hD', hko⟩ := hm.keysOf
  obtain rfl : es = es' := by simpa using hD'
  have hp := perm_intKeys hpw (fun p hp => by obtain ⟨v, hv⟩ := hko p hp; obtain ⟨x, _, hx, _⟩ := Go.Maps.keyOf_i64 Tryz.underlying3 hv; exact ⟨x, hx⟩) (ss := D.waiting.map fun k : Nat => (k : Int)) (by
    rw [List.nodup_iff_pairwise_ne, List.pairwise_map]
    have : D.waiting.Nodup := List.nodup_range.sublist List.filter_sublist
    exact this.imp fun hne e => hne (by omega)) hhas
  rw [mergeSort_of_perm_i (hs.trans hp.symm)]
  refine List.mergeSort_of_pairwise ?_
  rw [List.pairwise_map]
  have : D.waiting.Pairwise (fun a b => a < b) := List.pairwise_lt_range.sublist List.filter_sublist
  exact this.imp fun hlt => by simp; omega


end Go.Proofs.YtlgciddnpinpbaaGreatDoor

namespace Go.Proofs.YtlgciddnpinpbaaGreatDoor
open Go.RowKit
set_option linter.unusedSimpArgs false
set_option linter.unusedVariables false
set_option maxRecDepth 4000

/-- The sectors' bytes within Power, behind j of those that waited. -/
def DS.pow (D : DS) (keep : List Bool) (j : Nat) : List (List UInt8) :=
  (List.range j).foldl (fun L i => if keep.getD i false then L.set (D.waiting.getD i 0) (D.sect (D.waiting.getD i 0)) else L) D.last

theorem DS.pow_succ (D : DS) (keep : List Bool) (j : Nat) : D.pow keep (j + 1) = if keep.getD j false then (D.pow keep j).set (D.waiting.getD j 0) (D.sect (D.waiting.getD j 0)) else D.pow keep j := by
  simp [DS.pow, List.range_succ, List.foldl_append]

theorem DS.pow_length (D : DS) (keep : List Bool) : ∀ j, (D.pow keep j).length = D.last.length
  | 0 => by simp [DS.pow]
  | j + 1 => by
    rw [DS.pow_succ]
    split
    · rw [List.length_set, DS.pow_length D keep j]
    · exact DS.pow_length D keep j

/-- All sectors behind Power. -/
def DS.powLast (D : DS) (keep : List Bool) : List (List UInt8) :=
  if 0 ≤ D.way then (D.pow keep D.waiting.length).set D.way.toNat (D.torn ++ ((D.pow keep D.waiting.length).getD D.way.toNat []).drop D.torn.length) else D.pow keep D.waiting.length

def DS.power (D : DS) (keep : List Bool) : DS := { D with last := D.powLast keep, wait := fun _ => none, dead := false, armed := false, way := -1, torn := [], lives := D.lives + 1 }

end Go.Proofs.YtlgciddnpinpbaaGreatDoor

namespace Go.Proofs.YtlgciddnpinpbaaGreatDoor
open Go.RowKit
set_option linter.unusedSimpArgs false
set_option linter.unusedVariables false
set_option maxRecDepth 4000

theorem ownsRow_rd {w : World} {base : Nat} {e : TypeId} {v : Value} {n : Nat} {xs : List Value} (h : w.ownsRow base e 1 v n xs) :
    ∃ p cap, v = .slice p n cap ∧ (rdA p xs).prop w ∧ ∀ k, (rdA p xs).rd k → base ≤ k := by
  obtain ⟨h1, h2⟩ := h
  rcases h2 with ⟨rfl, rfl⟩ | ⟨g, cap, cur, rfl, hb, hg, _, _, hc, ht⟩
  · have : xs = [] := by simpa using h1
    exact ⟨none, 0, rfl, .inl this, fun k hk => absurd this hk.1⟩
  · refine ⟨_, cap, rfl, .inr ⟨g, 0, rfl, (Array.getElem?_eq_some_iff.1 hg).1, fun i x hi => ?_⟩, fun k hk => ?_⟩
    · rw [Nat.zero_add, cell_of_row w g i cur e (0, 0) hg, ← Array.getElem?_toList]
      have hlt : i < n * 1 := by have := (List.getElem?_eq_some_iff.1 hi).1; omega
      rw [← hi, ← ht, List.getElem?_take_of_lt hlt]
    · obtain ⟨_, ad, e1, rfl⟩ := hk
      cases e1; exact hb

/-- One sector is laid. -/
theorem PayIs.lay {W : World} {rd : Nat → Prop} {rows : List Value} {last : List (List UInt8)} {M : DataW Value} {wait : Nat → Option (List UInt8)} {tv : Value} {torn : List UInt8} (h : PayIs W rd rows last M wait tv torn)
    (hr : rows.length = last.length) (k : Nat) (hk : k < last.length) {v : Value} {l : List UInt8} (hv : ByS W rd v l) : PayIs W rd (rows.set k v) (last.set k l) M wait tv torn := by
  refine ⟨fun i hi => ?_, fun kl hkl => ?_, h.waits, h.torn, h.lt⟩
  · have hi' : i < last.length := by simpa using hi
    rw [List.getElem_set]
    by_cases e : k = i
    · subst e
      rw [if_pos rfl, List.getD_eq_getElem?_getD, List.getElem?_set_self (by omega), Option.getD_some]
      exact hv
    · rw [if_neg e, List.getD_eq_getElem?_getD, List.getElem?_set_ne e, ← List.getD_eq_getElem?_getD]
      exact h.sect i hi'
  · rw [List.length_set]; exact h.keys kl hkl

theorem waiting_at (D : DS) (j : Nat) (hj : j < D.waiting.length) : ∃ s l, D.waiting.getD j 0 = s ∧ (D.waiting.map fun k : Nat => Value.int .i64 (k : Int))[j]? = some (.int .i64 (s : Int)) ∧ s < D.last.length ∧ D.wait s = some l ∧ D.sect s = l := by
  have hm : D.waiting[j] ∈ D.waiting := List.getElem_mem hj
  have h1 := List.mem_filter.1 hm
  have h2 : (D.wait D.waiting[j]).isSome = true := h1.2
  obtain ⟨l, hl⟩ := Option.isSome_iff_exists.1 h2
  refine ⟨D.waiting[j], l, ?_, ?_, by simpa using h1.1, hl, by simp [DS.sect, hl]⟩
  · rw [List.getD_eq_getElem?_getD, List.getElem?_eq_getElem hj]; rfl
  · simp [hj]

theorem DS.pow_256 {D : DS} (h1 : ∀ l ∈ D.last, l.length = 256) (h2 : ∀ l ∈ D.all, l.length = 256) (keep : List Bool) : ∀ j, j ≤ D.waiting.length → ∀ l ∈ D.pow keep j, l.length = 256
  | 0, _, l, hl => h1 l (by simpa [DS.pow] using hl)
  | j + 1, hj, l, hl => by
    rw [DS.pow_succ] at hl
    split at hl
    · rcases List.mem_or_eq_of_mem_set hl with hl | hl
      · exact DS.pow_256 h1 h2 keep j (by omega) l hl
      · obtain ⟨s, l', a1, _, a3, _, _⟩ := waiting_at D j (by omega)
        rw [a1] at hl
        exact h2 l (by rw [hl]; exact List.mem_map.2 ⟨s, by simpa using a3, rfl⟩)
    · exact DS.pow_256 h1 h2 keep j (by omega) l hl

/-- Power's last word: all sectors are laid, none waits, none is torn. -/
theorem PayIs.power {W : World} {rd : Nat → Prop} {rows : List Value} {last : List (List UInt8)} {M : DataW Value} {wait : Nat → Option (List UInt8)} {tv : Value} {torn : List UInt8} (h : PayIs W rd rows last M wait tv torn) :
    PayIs W rd rows last (.map []) (fun _ => none) (.slice none 0 0) [] :=
  ⟨h.sect, fun kl hkl => (by cases hkl), fun k => .inl ⟨rfl, rfl⟩, .inl ⟨rfl, rfl⟩, h.lt⟩

end Go.Proofs.YtlgciddnpinpbaaGreatDoor

namespace Go.Proofs.YtlgciddnpinpbaaGreatDoor
open Go.RowKit
set_option linter.unusedSimpArgs false
set_option linter.unusedVariables false
set_option maxRecDepth 4000

section
variable {P : Program} {ops : Array Oper} {rest : List Oper} {o : Oper} {a : Act} {S : World → Prop} {Q : Exit → Act → World → Prop} {K : Act → World → Prop}
variable {M0 R0 : Nat → Prop} {w0 W : World} {L : List Asrt}

/-- A lookup yields in every world in which it runs so. -/
theorem yieldsIf_lookup (hw : Region.wanted o (yielded ops a.tmps) = true) (t : TypeId) (m x : Operand) (b : Bool) (ho : o.op = .lookup t m x b) (mv xv : Value) (hm : a.eval m = mv) (hx : a.eval x = xv) (v : Value)
    (hS : ∀ w, S w → (Instr.lookup t mv xv b).run P w = .ok v w) : YieldsIf P ops S o v a := by
  refine Or.inl ⟨hw, fun w h => ?_⟩
  have hl := hS w h
  unfold execOp
  simp [ho, hm, hx, hl, Result.andThen]

/-- A load of a whole row yields in every world in which the row lies there. -/
theorem yieldsIf_loadrow (hw : Region.wanted o (yielded ops a.tmps) = true) (ty : TypeId) (x : Operand) (ho : o.op = .load ty x) (g : Nat) (hx : a.eval x = .pointer (some ⟨g, 0, none⟩)) (cs : Array Value) (t : TypeId) (fr : Nat × Nat)
    (d : TypeDesc) (hu : P.underlying ty = some d) (hd : (match d with | .struct _ | .array _ _ => true | _ => false) = true) (hi : (P.info? ty).map (·.size) = some cs.size)
    (hS : ∀ w, S w → w.heap[g]? = some (.cells cs t fr)) : YieldsIf P ops S o (.agg cs) a := by
  refine Or.inl ⟨hw, fun w h => ?_⟩
  unfold execOp
  simp only [ho, hx, Instr.loadAt, Instr.sureAddr, Sem.run_bind, Sem.run_pure, Result.andThen_ok, run_loadVar_row w g t ty cs fr d (hS w h) hu hd hi]

/-- Some cells amid a row are loaded. -/
theorem wpList_loadmid (hwt : Region.wanted o (yielded ops a.tmps) = true) (ty : TypeId) (x : Operand) (ho : o.op = .load ty x) (g off : Nat) (hx : a.eval x = .pointer (some ⟨g, off, none⟩))
    (vs : List Value) (d : TypeDesc) (hu : P.underlying ty = some d) (hd : (match d with | .struct _ | .array _ _ => true | _ => false) = true) (hi : (P.info? ty).map (·.size) = some vs.length)
    (hc : ∀ j v, vs[j]? = some v → W.cell? ⟨g, off + j, none⟩ = some v) (h : wpList P ops Q rest (a.put o.dst (.agg vs.toArray)) W) : wpList P ops Q (o :: rest) a W := by
  refine wpList_want hwt fun K hK => ?_
  have h' := hK _ _ h
  have hl := run_loadCells_list (P := P) W ⟨g, off, none⟩ vs (fun j v hj => by rw [Addr.add_lit]; exact hc j v hj)
  have hagg : (isAgg ty).run P W = .ok true W := by
    unfold isAgg
    rw [Sem.run_bind, run_underlying hu W]
    cases d <;> simp_all
  cases hq : P.info? ty with
  | none => simp [hq] at hi
  | some j =>
    have hs : j.size = vs.length := by simpa [hq] using hi
    unfold Oper.wp execOp
    simp only [ho, hx, Instr.loadAt, Instr.sureAddr, Sem.run_bind, Sem.run_pure, Result.andThen_ok, loadVar, hagg]
    simp [sizeOf, typeInfo, hq, hs, hl, Result.andThen]
    exact h'

/-- A new map, run. -/
theorem wp_makemap_st (H : St M0 R0 w0 W L) (T : TypeId) (hop : o.op = .makeMap T none)
    (h : ∀ W' g, St M0 R0 w0 W' (L ++ [mapA g 0 (.map [])]) → K (a.put o.dst (.map (some g))) W') : o.wp P a W K Q := by
  unfold Oper.wp
  simp [execOp, hop, run_makeMap, Result.andThen]
  exact h _ _ (H.add (Fix.alloc _ W _) (mapA W.heap.size 0 (.map [])) (World.ownsMap_made W _ _ _) (fun k hk => Nat.le_of_eq hk.symm) (fun k hk => hk.elim))

/-- Some cells amid a row are stored, run. -/
theorem wp_storemid_st (H : St M0 R0 w0 W L) (i : Nat) (ty : TypeId) (x y : Operand) (ho : o.op = .store ty x y)
    (g off : Nat) (vs : List Value) (hx : a.eval x = .pointer (some ⟨g, off, none⟩)) (hy : a.eval y = .agg vs.toArray)
    (t : TypeId) (old : List Value) (hi : L[i]? = some (blk g (.cells old.toArray t (0, 0)))) (hn : (P.info? ty).map (·.size) = some vs.length) (hfit : off + vs.length ≤ old.length) (h1 : ∀ v ∈ vs, v.oneCell' = true)
    (h : ∀ W', St M0 R0 w0 W' (L.set i (blk g (.cells (old.take off ++ vs ++ old.drop (off + vs.length)).toArray t (0, 0)))) → K (a.put o.dst undef) W') : o.wp P a W K Q := by
  have hg := H.at i hi
  have hst := run_storeCells_at P g off t vs 0 _ W hg (by simpa using hfit) h1
  simp only [Nat.add_zero, List.toList_toArray] at hst
  have h' := h _ (H.setRow i hi _)
  cases hq : P.info? ty with
  | none => simp [hq] at hn
  | some j =>
    have hs : j.size = vs.length := by simpa [hq] using hn
    unfold Oper.wp execOp
    simp [ho, hx, hy, Instr.storeAt, Instr.sureAddr, storeVar, sizeOf, typeInfo, hq, hs, Value.cells, hst, Result.andThen]
    simp only [List.append_assoc] at h'
    exact h'
end

theorem look_sl {W : World} {gm n : Nat} {M : DataW Value} (hm : W.ownsMap Tryz.prog 3 RV gm n M) (k : Nat) (hk : k < 1048576) (x : Value) (h : M.atKey (keyI k) (.held (.slice none 0 0)) = .held x) :
    (Instr.lookup 110 (.map (some gm)) (.int .i64 (k : Int)) false).run Tryz.prog W = .ok x W := by
  obtain ⟨v, ps, hrun, hv⟩ := hm.lookup keyedInt Tryz.underlying110 (zero_bytes W) (zd := .held (.slice none 0 0)) (zp := []) rfl (keyI_is hk)
  rw [h] at hv
  simp [RV] at hv
  rw [hrun, hv.1]

/-- What a key's slice is. -/
theorem MapIs.val {W : World} {rd : Nat → Prop} {M : DataW Value} {f : Nat → Option (List UInt8)} {n : Nat} (h : MapIs W rd M f n 248) (k : Nat) {l : List UInt8} (hf : f k = some l) :
    l.length = 248 ∧ ∃ gv off cap, M.atKey (keyI k) (.held (.slice none 0 0)) = .held (.slice (some ⟨gv, off, none⟩) 248 cap) ∧ 248 ≤ cap ∧ rd gv := by
  rcases h.waits k with ⟨_, h1⟩ | ⟨v, l', _, h2, h3, h4, h5⟩
  · rw [hf] at h1; cases h1
  · rw [hf] at h3
    cases h3
    refine ⟨h4, ?_⟩
    rcases h5 with ⟨rfl, _⟩ | ⟨g, off, cap, rfl, h6, h7, _⟩
    · simp at h4
    · rw [h4] at h2 h6
      rcases h7 with rfl | h7
      · simp at h4
      · exact ⟨g, off, cap, h2, h6, h7⟩

theorem MapIs.news {W : World} {rd : Nat → Prop} {M : DataW Value} {f : Nat → Option (List UInt8)} {n : Nat} (h : MapIs W rd M f n 248) (k : Nat) {l : List UInt8} (hf : f k = some l) {gv off cap : Nat}
    (hv : M.atKey (keyI k) (.held (.slice none 0 0)) = .held (.slice (some ⟨gv, off, none⟩) 248 cap)) : BytesAt W gv off l := by
  rcases h.waits k with ⟨_, h1⟩ | ⟨v, l', _, h2, h3, h4, h5⟩
  · rw [hf] at h1; cases h1
  · rw [hf] at h3
    cases h3
    rw [hv] at h2
    cases h2
    rcases h5 with ⟨rfl, _⟩ | ⟨g, off', cap', e, h6, h7, h8⟩
    · simp at h4
    · simp only [Value.slice.injEq, Option.some.injEq, Addr.mk.injEq] at e
      obtain ⟨⟨rfl, rfl, _⟩, _, _⟩ := e
      exact h8

theorem news_of_bytes {W : World} {g off : Nat} {l : List UInt8} (hb : BytesAt W g off l) : ∀ j u, (byteV l)[j]? = some u → W.cell? ((⟨g, off, none⟩ : Addr).add j) = some u := by
  intro j u hu
  have hj : j < l.length := by have := (List.getElem?_eq_some_iff.1 hu).1; simpa using this
  rw [byteV_get, List.getElem?_eq_getElem hj, Option.map_some, Option.some.injEq] at hu
  rw [Addr.add_lit, ← hu]; exact hb j hj

/-- The homes that wait in the map. -/
def LS.keys (X : LS) (n : Nat) : List Nat := (List.range n).filter fun k => (X.m k).isSome

theorem MapIs.keys_perm {W : World} {rd : Nat → Prop} {M : DataW Value} {X : LS} {b : Nat} (h : MapIs W rd M X.m b 248) {gm n : Nat}
    (hm : W.ownsMap Tryz.prog 3 RV gm n M) {ss : List Int} (hs : ss.Perm (intKeys M)) : ss.mergeSort (fun x y => decide (x ≤ y)) = (X.keys b).map fun k : Nat => (k : Int) := by
  have hhas : ∀ x : Int, x ∈ ((X.keys b).map fun k : Nat => (k : Int)) ↔ Go.Maps.has M (.int .i64 x) = true := by
    intro x
    rw [List.mem_map]
    constructor
    · rintro ⟨k, hk, rfl⟩
      have hk2 : (X.m k).isSome = true := by simpa [LS.keys] using (List.mem_filter.1 hk).2
      rcases h.waits k with ⟨_, a2⟩ | ⟨v, l, a1, _⟩
      · rw [a2] at hk2; cases hk2
      · exact a1
    · intro hx
      obtain ⟨k, hk, e⟩ := h.keys _ hx
      simp only [keyI, Lit.int.injEq, true_and] at e
      subst e
      refine ⟨k, ?_, rfl⟩
      rcases h.waits k with ⟨a1, _⟩ | ⟨v, l, _, _, a3, _⟩
      · rw [show Lit.int .i64 (k : Int) = keyI k from rfl, a1] at hx; cases hx
      · simp [LS.keys, hk, a3]
  obtain ⟨es, rfl, hpw, _⟩ := hm.entries keyedInt
  obtain ⟨es', hD', hko⟩ := hm.keysOf
  obtain rfl : es = es' := by simpa using hD'
  have hp := perm_intKeys hpw (fun p hp => by obtain ⟨v, hv⟩ := hko p hp; obtain ⟨x, _, hx, _⟩ := Go.Maps.keyOf_i64 Tryz.underlying3 hv; exact ⟨x, hx⟩) (ss := (X.keys b).map fun k : Nat => (k : Int)) (by
    rw [List.nodup_iff_pairwise_ne, List.pairwise_map]
    have : (X.keys b).Nodup := List.nodup_range.sublist List.filter_sublist
    exact this.imp fun hne e => hne (by omega)) hhas
  rw [mergeSort_of_perm_i (hs.trans hp.symm)]
  refine List.mergeSort_of_pairwise ?_
  rw [List.pairwise_map]
  have : (X.keys b).Pairwise (fun a b => a < b) := List.pairwise_lt_range.sublist List.filter_sublist
  exact this.imp fun hlt => by simp; omega

/-- A home's sector. -/
def homeB (l : List UInt8) : List UInt8 := List.replicate 8 0 ++ l
theorem homeB_len {l : List UInt8} (h : l.length = 248) : (homeB l).length = 256 := by simp [homeB, h]

/-- Homes are written. -/
def DS.homes (D : DS) (m : Nat → Option (List UInt8)) (ring : Nat) : List Nat → DS
  | [] => D
  | k :: ks => DS.homes (D.put (2 + ring + k) (homeB ((m k).getD []))) m ring ks

theorem homes_snoc (m : Nat → Option (List UInt8)) (ring k : Nat) : ∀ (ks : List Nat) (D : DS), D.homes m ring (ks ++ [k]) = (D.homes m ring ks).put (2 + ring + k) (homeB ((m k).getD []))
  | [], D => rfl
  | j :: ks, D => by rw [List.cons_append, DS.homes, homes_snoc m ring k ks]; rfl

theorem homes_sect (m : Nat → Option (List UInt8)) (ring : Nat) : ∀ (ks : List Nat) (D : DS) (k : Nat), (D.homes m ring ks).sect k = if 2 + ring ≤ k ∧ k - (2 + ring) ∈ ks then homeB ((m (k - (2 + ring))).getD []) else D.sect k
  | [], D, k => by simp [DS.homes]
  | j :: ks, D, k => by
    rw [DS.homes, homes_sect m ring ks, sect_put]
    by_cases h1 : 2 + ring ≤ k ∧ k - (2 + ring) ∈ ks
    · rw [if_pos h1, if_pos ⟨h1.1, List.mem_cons_of_mem _ h1.2⟩]
    · rw [if_neg h1]
      by_cases h2 : k = 2 + ring + j
      · subst h2
        rw [if_pos rfl, if_pos ⟨by omega, by rw [Nat.add_sub_cancel_left]; exact List.mem_cons_self ..⟩, Nat.add_sub_cancel_left]
      · rw [if_neg h2, if_neg]
        rintro ⟨h3, h4⟩
        rcases List.mem_cons.1 h4 with h4 | h4
        · omega
        · exact h1 ⟨h3, h4⟩

theorem Calm.homes (m : Nat → Option (List UInt8)) (ring : Nat) : ∀ (ks : List Nat) {D : DS} {N u : Nat}, Calm D N u → Calm (D.homes m ring ks) N (u + ks.length)
  | [], D, N, u, h => h
  | k :: ks, D, N, u, h => by
    have := Calm.homes m ring ks (h.put (2 + ring + k) (homeB ((m k).getD [])))
    rw [show u + 1 + ks.length = u + (k :: ks).length by simp; omega] at this
    exact this

def LS.settleD (X : LS) (n : Nat) (D : DS) : DS := (((D.homes X.m X.ring (X.keys n)).flushed).put ((X.s + 1) % 2) (anchorB (X.s + 1) X.turn X.place X.ring)).flushed
def LS.settled (X : LS) : LS := { X with s := X.s + 1, free := (X.ring : Int), m := fun _ => none }

theorem keys_len (X : LS) (n : Nat) : (X.keys n).length ≤ n := by
  have := List.length_filter_le (fun k => (X.m k).isSome) (List.range n)
  rw [List.length_range] at this
  exact this

theorem homes_lives (m : Nat → Option (List UInt8)) (ring : Nat) : ∀ (ks : List Nat) (D : DS), (D.homes m ring ks).lives = D.lives
  | [], D => rfl
  | k :: ks, D => by rw [DS.homes, homes_lives m ring ks]; rfl

theorem settle_calm {X : LS} {n : Nat} {D : DS} {N u : Nat} (h : Calm D N u) : Calm (X.settleD n D) N (u + (X.keys n).length + 1) :=
  ((((Calm.homes X.m X.ring (X.keys n) h).flushed).put _ _).flushed)

theorem settle_sect {X : LS} {n : Nat} {D : DS} {N u : Nat} (h : Calm D N u) (k : Nat) (hk : k < N) :
    (X.settleD n D).sect k = if k = (X.s + 1) % 2 then anchorB (X.s + 1) X.turn X.place X.ring else if 2 + X.ring ≤ k ∧ k - (2 + X.ring) ∈ X.keys n then homeB ((X.m (k - (2 + X.ring))).getD []) else D.sect k := by
  have c1 := Calm.homes X.m X.ring (X.keys n) h
  have c2 := c1.flushed
  have c3 := c2.put ((X.s + 1) % 2) (anchorB (X.s + 1) X.turn X.place X.ring)
  unfold LS.settleD
  rw [sect_flushed _ k (by rw [c3.len]; exact hk), sect_put]
  split
  · rfl
  · rw [sect_flushed _ k (by rw [c1.len]; exact hk), homes_sect]

theorem LogFine.settled {X : LS} {n : Nat} {D : DS} {N u : Nat} (h : LogFine X n D N u) : LogFine X.settled n (X.settleD n D) N (u + (X.keys n).length + 1) :=
  ⟨settle_calm h.calm, h.fits, h.top, h.r1, h.r2, h.n1, h.place, h.lives.trans (by show D.lives = (D.homes X.m X.ring (X.keys n)).lives; rw [homes_lives]), fun _ => rfl, ⟨by show (0 : Int) ≤ (X.ring : Int); omega, by show (X.ring : Int) ≤ (X.ring : Int); omega⟩, h.turn, by show 1 ≤ X.s + 1; omega⟩

end Go.Proofs.YtlgciddnpinpbaaGreatDoor

namespace Go.Proofs.YtlgciddnpinpbaaGreatDoor
open Go.RowKit
set_option linter.unusedSimpArgs false
set_option linter.unusedVariables false
set_option maxRecDepth 4000

theorem byteV_zeros (n : Nat) : List.replicate n (Value.int .u8 0) = byteV (List.replicate n 0) := by simp [byteV]

theorem zeros_home (l : List UInt8) (junk : List Value) : List.take 8 (byteV (List.replicate 8 0)) ++ byteV l ++ junk = byteV (homeB l) ++ junk := by
  rw [List.take_of_length_le (by rw [byteV_length]; exact Nat.le_refl _)]
  simp [byteV, homeB]

theorem anchor_mid {W : World} {g : Nat} {x0 : Value} {x1 : Int} {x2 : Bool} {s turn place ring : Nat} {x7 : Int} {x8 : Value} {t : TypeId} {fr : Nat × Nat} (hg : W.heap[g]? = some (.cells (lRow x0 x1 x2 s turn place ring x7 x8).toArray t fr)) :
    ∀ j v, (anchorR s turn place ring)[j]? = some v → W.cell? ⟨g, 3 + j, none⟩ = some v := by
  intro j v hj
  refine row_cell hg ?_
  rcases j with _ | _ | _ | _ | j
  · exact hj
  · exact hj
  · exact hj
  · exact hj
  · simp [anchorR] at hj

set_option maxHeartbeats 4000000 in
theorem settles_ok {w : World} {g gd gm : Nat} {X : LS} {M : DataW Value} {rm : Nat → Prop} {n : Nat} {D : DS} {own rd : Nat → Prop} (hb : Bundle w (logL g gd gm X M rm n D own rd)) {N u : Nat} (hf : LogFine X n D N u) (hu : u + 2000 < 1000000) (hs : X.s < 1000000) (ht : X.turn < 2000000) :
    Calls Tryz.prog 135 #[.pointer (some ⟨g, 0, none⟩)] w fun e w' => e = .returned .nilIface ∧ ∃ gm' own' rd',
      BunTo w (ownL (logL g gd gm X M rm n D own rd)) (rdL (logL g gd gm X M rm n D own rd)) (logL g gd gm' X.settled (.map []) NoBlk n (X.settleD n D) own' rd') w' := by
  have H := hb.open_
  have hP : MapIs w rm M X.m n 248 := H.at 2 rfl
  have hM : w.ownsMap Tryz.prog 3 RV gm (Go.Maps.size M) M := H.at 1 rfl
  have hsz := hP.size_le hM
  have hn2 : n ≤ 1900 := by have := hf.fits; have := hf.top; omega
  have HS := Lib.hid (Tryz.sorted_calls gm _ M RV w hM (by simp only [maxLen]; omega) (by omega))
  have HK := Lib.hid (fun ss hss => hP.keys_perm hM (ss := ss) hss)
  have HKL := Lib.hid (keys_len X n)
  have HN2 := Lib.hid hn2
  clear hP hM hsz
  obtain ⟨O, hO⟩ : ∃ O, ownL (logL g gd gm X M rm n D own rd) = O := ⟨_, rfl⟩
  obtain ⟨R, hR⟩ : ∃ R, rdL (logL g gd gm X M rm n D own rd) = R := ⟨_, rfl⟩
  rw [hO, hR] at H ⊢
  clear hO hR
  have HF := Lib.hid hf
  have HU := Lib.hid hu
  have HSS := Lib.hid hs
  have HT := Lib.hid ht
  clear hb hf hu hn2 hs ht
  go_enter Tryz.func135, Tryz.ntmps135
  go_upto_block 0 with (first
    | (refine wpList_load1_st rfl 110 _ rfl _ _ rfl _ _ _ (H.at 0 rfl) _ Tryz.underlying110 rfl _ (lRow8 _ _ _ _ _ _ _ _ _) ?_)
    | (go_at_call 65; (with_reducible refine (Tryz.keys_calls gm _).mono ?_); rintro e W' ⟨rfl, rfl⟩)
    | (go_at_call 64; go_loud ((refine HS.out.mono ?_); rintro e W ⟨v, ss, rfl, hperm, hrow, hb⟩; have e1 := HK.out ss hperm; have e2 : ss.length = (X.keys n).length := by { have := congrArg List.length e1; simpa using this }; rw [e1, e2, List.map_map] at hrow; obtain ⟨pw, capw, rfl, hw1, hw2⟩ := ownsRow_rd hrow; clear hrow e1 e2 hperm; replace H := H.add (Fix.of_below hb NoBlk) (rdA pw _) hw1 (fun k hk => hk.elim) (fun k hk => .inl (hw2 k hk)); clear hw1 hw2 hb; simp only [logL, List.nil_append, List.cons_append] at H)))
  replace H : St O R w _ (logL g gd gm X M rm n D own rd ++ [rdA pw ((X.keys n).map fun k : Nat => Value.int .i64 (k : Int))]) := H
  go_wp2
  go_loopw [17, 4, 5] (fun i _ _ wr => ∃ (j : Nat) (D1 : DS) (own1 rd1 : Nat → Prop), i = .int .i64 (j : Int) ∧ j ≤ (X.keys n).length ∧ D1 = D.homes X.m X.ring ((X.keys n).take j) ∧
      St O R w wr (logL g gd gm X M rm n D1 own1 rd1 ++ [rdA pw ((X.keys n).map fun k : Nat => Value.int .i64 (k : Int))])) (fun i _ _ _ => (X.keys n).length - (intOf i).toNat)
  case atStart => exact ⟨0, D, own, rd, rfl, Nat.zero_le _, rfl, H⟩
  case round =>
    clear H HS HK
    obtain ⟨j, D1, own1, rd1, rfl, hj, hD1, H⟩ := hrel
    have hC1 : Calm D1 N (u + ((X.keys n).take j).length) := by rw [hD1]; exact Calm.homes X.m X.ring _ HF.out.calm
    rw [List.length_take, Nat.min_eq_left hj] at hC1
    have HC1 := Lib.hid hC1
    have HD1 := Lib.hid hD1
    clear hC1 hD1
    rcases Nat.lt_or_ge j (X.keys n).length with hlt | hge
    · obtain ⟨k, hk⟩ : ∃ k, (X.keys n)[j] = k := ⟨_, rfl⟩
      have hkm : k ∈ X.keys n := by rw [← hk]; exact List.getElem_mem hlt
      obtain ⟨hkn, hkl⟩ := List.mem_filter.1 hkm
      have hkn : k < n := List.mem_range.1 hkn
      obtain ⟨l, hl⟩ := Option.isSome_iff_exists.1 hkl
      obtain ⟨hl248, gv, offv, capv, hat, hcv, hrv⟩ := (H.at 2 rfl : MapIs _ rm M X.m n 248).val k hl
      obtain ⟨ga, offa, rfl, hcell⟩ := rdA_at (H.at 4 rfl) (show ((X.keys n).map fun k : Nat => Value.int .i64 (k : Int))[j]? = some (.int .i64 (k : Int)) by rw [List.getElem?_map, List.getElem?_eq_getElem hlt, hk]; rfl)
      have hji : (j : Int) < ((X.keys n).length : Int) := by omega
      have hj0 : 0 ≤ (j : Int) := by omega
      have hj9 : (j : Int) < 1900 := by have := HKL.out; have := HN2.out; omega
      have HKN := Lib.hid hkn
      have HL := Lib.hid hl
      have HL2 := Lib.hid hl248
      have HAT := Lib.hid hat
      have HLT := Lib.hid hlt
      have HKK := Lib.hid hk
      have HJ := Lib.hid (show j < 1900 by have := HKL.out; have := HN2.out; omega)
      clear hkm hkn hkl hl hl248 hat hcv hk
      have HSTEP := Lib.hid (show D1.put (2 + X.ring + k) (homeB l) = D.homes X.m X.ring ((X.keys n).take (j + 1)) by rw [List.take_succ_eq_append_getElem hlt, homes_snoc, ← HD1.out, HKK.out, HL.out]; rfl)
      go_wp2
      replace H := H.drew
      have hS : ∀ (W' : World) (D' : DS) (own' rd' : Nat → Prop), St O R w W' (logL g gd gm X M rm n D' own' rd' ++ [rdA (some ⟨ga, offa, none⟩) ((X.keys n).map fun k : Nat => Value.int .i64 (k : Int))]) → W'.cell? ⟨g, 8, none⟩ = some (.map (some gm)) ∧ (Instr.lookup 110 (.map (some gm)) (.int .i64 (k : Int)) false).run Tryz.prog W' = .ok (.slice (some ⟨gv, offv, none⟩) 248 capv) W' :=
        fun W' D' own' rd' h => ⟨row_cell (h.at 0 rfl) (lRow8 _ _ _ _ _ _ _ _ _), look_sl (h.at 1 rfl) k (by have := HKN.out; have := HN2.out; omega) _ HAT.out⟩
      have HSQ := Lib.hid hS
      have hS0 := HSQ.out _ _ _ _ H
      clear hS
      refine wp_region_held_drew (S := fun W' => W'.cell? ⟨g, 8, none⟩ = some (.map (some gm)) ∧ (Instr.lookup 110 (.map (some gm)) (.int .i64 (k : Int)) false).run Tryz.prog W' = .ok (.slice (some ⟨gv, offv, none⟩) 248 capv) W') (by kernel_rfl) hS0 (fun hHeld => ?_)
      (refine wpAnyH_take (i := 0) (v := ?_) rfl (by kernel_rfl) (by kernel_rfl) (by kernel_rfl) (fun _ _ _ h => h) (Or.inl ⟨by rfl, ?_⟩) (by assumption) ?_; rotate_left; focus (intro w hSw; (try dsimp only at hSw); go_simp; all_goals (with_reducible rfl))); (try simp only [Act.put, List.setIfInBounds_toArray, List.set_cons_zero, List.set_cons_succ, List.getElem_toArray, List.getElem_cons_succ, List.getElem_cons_zero])
      (refine wpAnyH_take (i := 1) (v := ?_) rfl (by kernel_rfl) (by kernel_rfl) (by kernel_rfl) (fun _ _ _ h => h) (Or.inl ⟨by rfl, ?_⟩) (by assumption) ?_; rotate_left; focus (intro w hSw; (try dsimp only at hSw); go_simp; all_goals (with_reducible rfl))); (try simp only [Act.put, List.setIfInBounds_toArray, List.set_cons_zero, List.set_cons_succ, List.getElem_toArray, List.getElem_cons_succ, List.getElem_cons_zero])
      (refine wpAnyH_take (i := 2) (v := ?_) rfl (by kernel_rfl) (by kernel_rfl) (by kernel_rfl) (fun _ _ _ h => h) (Or.inl ⟨by rfl, ?_⟩) (by assumption) ?_; rotate_left; focus (intro w hSw; (try dsimp only at hSw); go_simp; all_goals (with_reducible rfl))); (try simp only [Act.put, List.setIfInBounds_toArray, List.set_cons_zero, List.set_cons_succ, List.getElem_toArray, List.getElem_cons_succ, List.getElem_cons_zero])
      (refine wpAnyH_take (i := 5) (v := ?_) rfl (by kernel_rfl) (by kernel_rfl) (by kernel_rfl) (fun _ _ _ h => h) (Or.inl ⟨by rfl, ?_⟩) (by assumption) ?_; rotate_left; focus (intro w hSw; (try dsimp only at hSw); go_simp; all_goals (with_reducible rfl))); (try simp only [Act.put, List.setIfInBounds_toArray, List.set_cons_zero, List.set_cons_succ, List.getElem_toArray, List.getElem_cons_succ, List.getElem_cons_zero])
      (refine wpAnyH_take (i := 6) (v := ?_) rfl (by kernel_rfl) (by kernel_rfl) (by kernel_rfl) (fun _ _ _ h => h) (Or.inl ⟨by rfl, ?_⟩) (by assumption) ?_; rotate_left; focus (intro w hSw; (try dsimp only at hSw); go_simp; all_goals (with_reducible rfl))); (try simp only [Act.put, List.setIfInBounds_toArray, List.set_cons_zero, List.set_cons_succ, List.getElem_toArray, List.getElem_cons_succ, List.getElem_cons_zero])
      (refine wpAnyH_take (i := 7) (v := ?_) rfl (by kernel_rfl) (by kernel_rfl) (by kernel_rfl) (fun _ _ _ h => h) (Or.inl ⟨by rfl, ?_⟩) (by assumption) ?_; rotate_left; focus (intro w hSw; (try dsimp only at hSw); go_simp; all_goals (with_reducible rfl))); (try simp only [Act.put, List.setIfInBounds_toArray, List.set_cons_zero, List.set_cons_succ, List.getElem_toArray, List.getElem_cons_succ, List.getElem_cons_zero])
      (refine wpAnyH_take (i := 8) rfl (by kernel_rfl) (by kernel_rfl) (by kernel_rfl) (fun _ _ _ h => h) ((yieldsIf_load1 (by rfl) 110 _ rfl _ _ (by rfl) _ Tryz.underlying110 rfl _ (fun w h => h.1))) (by assumption) ?_); (try simp only [Act.put, List.setIfInBounds_toArray, List.set_cons_zero, List.set_cons_succ, List.getElem_toArray, List.getElem_cons_succ, List.getElem_cons_zero])
      (refine wpAnyH_take (i := 9) (v := ?_) rfl (by kernel_rfl) (by kernel_rfl) (by kernel_rfl) (fun _ _ _ h => h) (Or.inl ⟨by rfl, ?_⟩) (by assumption) ?_; rotate_left; focus (intro w hSw; (try dsimp only at hSw); go_simp; all_goals (with_reducible rfl))); (try simp only [Act.put, List.setIfInBounds_toArray, List.set_cons_zero, List.set_cons_succ, List.getElem_toArray, List.getElem_cons_succ, List.getElem_cons_zero])
      (refine wpAnyH_take (i := 10) rfl (by kernel_rfl) (by kernel_rfl) (by kernel_rfl) (fun _ _ _ h => h) ((yieldsIf_lookup (by rfl) _ _ _ _ rfl _ _ (by rfl) (by rfl) _ (fun w h => h.2))) (by assumption) ?_); (try simp only [Act.put, List.setIfInBounds_toArray, List.set_cons_zero, List.set_cons_succ, List.getElem_toArray, List.getElem_cons_succ, List.getElem_cons_zero])
      refine wpAnyH_ready (rs := [3, 4]) (by kernel_rfl) (by simp) (AllReadyH.cons rfl (fun K hK => ?_) (AllReadyH.cons rfl (fun K hK => ?_) AllReadyH.nil))
      · rw [if_pos (by rfl)]
        go_simp
        go_at_call 70
        refine (home_calls (g := g) (gd := gd) (gm := gm) (X := X) (M := M) (rm := rm) (n := n) (D := D1) (own := own1) (rd := rd1) (H.take 4).bundle _ k rfl (by have := HKN.out; have := HN2.out; omega) HF.out.r2).mono ?_
        rintro e W' ⟨rfl, rfl⟩
        (try go_wp2_with fail)
        refine hK.out _ _ hS0 (fun hHeld2 => ?_); clear hK K
        (try simp only [Act.put, List.setIfInBounds_toArray, List.set_cons_zero, List.set_cons_succ, List.getElem_toArray, List.getElem_cons_succ, List.getElem_cons_zero])
        (refine wpAnyH_ready (rs := [4]) (by kernel_rfl) (by simp) (AllReadyH.cons rfl (fun K hK => ?_) AllReadyH.nil)); (rw [if_pos (by rfl)]); (refine wp_make2_st H 22 _ _ rfl _ Tryz.underlying22 _ _ info_u8 rfl 8 8 rfl rfl (by omega) (by omega) (by simp only [maxLen]; omega) ?_; clear H; intro W gz H; rw [byteV_zeros] at H; refine hK.out _ _ (HSQ.out _ _ _ _ (H.take 5)) (fun hHeld3 => ?_); clear hK K)
        (try simp only [Act.put, List.setIfInBounds_toArray, List.set_cons_zero, List.set_cons_succ, List.getElem_toArray, List.getElem_cons_succ, List.getElem_cons_zero])
        have HBY := Lib.hid ((H.at 2 rfl : MapIs _ rm M X.m n 248).news k HL.out HAT.out)
        (refine wpAnyH_ready (rs := [11]) (by kernel_rfl) (by simp) (AllReadyH.cons rfl (fun K hK => ?_) AllReadyH.nil)); (rw [if_pos (by rfl)]); (refine wp_append_st H 5 _ _ 22 rfl _ Tryz.underlying22 _ _ info_u8 rfl gz 8 8 (by rfl) (byteV (List.replicate 8 0)) rfl (by omega) (by rw [byteV_length]; rfl) (by simp only [maxLen]; omega) _ 248 capv (by rfl) (byteV l) (by rw [byteV_length]; exact HL2.out) (news_of_bytes HBY.out) (byteV_one _) (by simp only [maxLen]; omega) (by omega) ?_; clear H; intro W2 g2 cap2 junk2 H hj2 hc2 hm2; rw [zeros_home] at H hj2; replace H : St O R w _ (logL g gd gm X M rm n D1 own1 rd1 ++ [rdA (some ⟨ga, offa, none⟩) ((X.keys n).map fun k : Nat => Value.int .i64 (k : Int)), blk g2 (.cells (byteV (homeB l) ++ junk2).toArray 5 (0, 0))]) := H; refine hK.out _ _ (HSQ.out _ _ _ _ (H.take 5)) (fun hHeld4 => ?_); clear hK K) ; (try simp only [Act.put, List.setIfInBounds_toArray, List.set_cons_zero, List.set_cons_succ, List.getElem_toArray, List.getElem_cons_succ, List.getElem_cons_zero])
        (refine wpAnyH_ready (rs := [12]) (by kernel_rfl) (by simp) (AllReadyH.cons rfl (fun K hK => ?_) AllReadyH.nil)); (rw [if_pos (by rfl)]); (go_simp; go_at_call 143; (refine (lwrite_ok (g := g) (gd := gd) (gm := gm) (X := X) (M := M) (rm := rm) (n := n) (D := D1) (own := own1) (rd := rd1) (H.take 4).bundle HC1.out (by have := HU.out; have := HJ.out; omega) _ (2 + X.ring + k) rfl (by have := HKN.out; have := HF.out.fits; omega) _ (homeB l) (argB_front (H.at 5 rfl) (St.notownL (Ls := logL g gd gm X M rm n D1 own1 rd1) (R := [rdA _ _, blk g2 _]) H 1 rfl) (homeB_len HL2.out) hc2 (by omega)) (homeB_len HL2.out)).mono ?_); rintro e W3 ⟨rfl, own2, rd2, hto⟩; replace H := (hto.front (R := [rdA _ _, blk g2 _]) H).take 5; clear hto; (try go_wp2_with fail); replace H : St O R w _ (logL g gd gm X M rm n (D1.put (2 + X.ring + k) (homeB l)) own2 rd2 ++ [rdA (some ⟨ga, offa, none⟩) ((X.keys n).map fun k : Nat => Value.int .i64 (k : Int))]) := H; refine hK.out _ _ (HSQ.out _ _ _ _ H) (fun hHeld5 => ?_); clear hK K) ; (try simp only [Act.put, List.setIfInBounds_toArray, List.set_cons_zero, List.set_cons_succ, List.getElem_toArray, List.getElem_cons_succ, List.getElem_cons_zero])
        (refine wpAnyH_take (i := 13) (v := ?_) rfl (by kernel_rfl) (by kernel_rfl) (by kernel_rfl) (fun _ _ _ h => h) (Or.inl ⟨by rfl, ?_⟩) (by assumption) ?_; rotate_left; focus (intro w hSw; (try dsimp only at hSw); go_simp; all_goals (with_reducible rfl))); (try simp only [Act.put, List.setIfInBounds_toArray, List.set_cons_zero, List.set_cons_succ, List.getElem_toArray, List.getElem_cons_succ, List.getElem_cons_zero])
        (refine wpAnyH_done (by kernel_rfl) ?_ _)
        clear hHeld hHeld2 hHeld3 hHeld4 hHeld5 hS0
        go_wp2
        go_roundw
        case rel => exact ⟨j + 1, _, own2, rd2, congrArg _ (by omega), HLT.out, HSTEP.out, H⟩
        case measure => have := HLT.out; simp [intOf]; omega
      · rw [if_pos (by rfl)]
        refine wp_make2_st H 22 _ _ rfl _ Tryz.underlying22 _ _ info_u8 rfl 8 8 rfl rfl (by omega) (by omega) (by simp only [maxLen]; omega) ?_; clear H; intro W gz H; rw [byteV_zeros] at H; refine hK.out _ _ (HSQ.out _ _ _ _ (H.take 5)) (fun hHeld3 => ?_); clear hK K
        (try simp only [Act.put, List.setIfInBounds_toArray, List.set_cons_zero, List.set_cons_succ, List.getElem_toArray, List.getElem_cons_succ, List.getElem_cons_zero])
        (refine wpAnyH_ready (rs := [3]) (by kernel_rfl) (by simp) (AllReadyH.cons rfl (fun K hK => ?_) AllReadyH.nil)); (rw [if_pos (by rfl)]); (go_simp; go_at_call 70; refine (home_calls (g := g) (gd := gd) (gm := gm) (X := X) (M := M) (rm := rm) (n := n) (D := D1) (own := own1) (rd := rd1) (H.take 4).bundle _ k rfl (by have := HKN.out; have := HN2.out; omega) HF.out.r2).mono ?_; rintro e W' ⟨rfl, rfl⟩; (try go_wp2_with fail); refine hK.out _ _ (HSQ.out _ _ _ _ (H.take 5)) (fun hHeld2 => ?_); clear hK K)
        (try simp only [Act.put, List.setIfInBounds_toArray, List.set_cons_zero, List.set_cons_succ, List.getElem_toArray, List.getElem_cons_succ, List.getElem_cons_zero])
        have HBY := Lib.hid ((H.at 2 rfl : MapIs _ rm M X.m n 248).news k HL.out HAT.out)
        (refine wpAnyH_ready (rs := [11]) (by kernel_rfl) (by simp) (AllReadyH.cons rfl (fun K hK => ?_) AllReadyH.nil)); (rw [if_pos (by rfl)]); (refine wp_append_st H 5 _ _ 22 rfl _ Tryz.underlying22 _ _ info_u8 rfl gz 8 8 (by rfl) (byteV (List.replicate 8 0)) rfl (by omega) (by rw [byteV_length]; rfl) (by simp only [maxLen]; omega) _ 248 capv (by rfl) (byteV l) (by rw [byteV_length]; exact HL2.out) (news_of_bytes HBY.out) (byteV_one _) (by simp only [maxLen]; omega) (by omega) ?_; clear H; intro W2 g2 cap2 junk2 H hj2 hc2 hm2; rw [zeros_home] at H hj2; replace H : St O R w _ (logL g gd gm X M rm n D1 own1 rd1 ++ [rdA (some ⟨ga, offa, none⟩) ((X.keys n).map fun k : Nat => Value.int .i64 (k : Int)), blk g2 (.cells (byteV (homeB l) ++ junk2).toArray 5 (0, 0))]) := H; refine hK.out _ _ (HSQ.out _ _ _ _ (H.take 5)) (fun hHeld4 => ?_); clear hK K) ; (try simp only [Act.put, List.setIfInBounds_toArray, List.set_cons_zero, List.set_cons_succ, List.getElem_toArray, List.getElem_cons_succ, List.getElem_cons_zero])
        (refine wpAnyH_ready (rs := [12]) (by kernel_rfl) (by simp) (AllReadyH.cons rfl (fun K hK => ?_) AllReadyH.nil)); (rw [if_pos (by rfl)]); (go_simp; go_at_call 143; (refine (lwrite_ok (g := g) (gd := gd) (gm := gm) (X := X) (M := M) (rm := rm) (n := n) (D := D1) (own := own1) (rd := rd1) (H.take 4).bundle HC1.out (by have := HU.out; have := HJ.out; omega) _ (2 + X.ring + k) rfl (by have := HKN.out; have := HF.out.fits; omega) _ (homeB l) (argB_front (H.at 5 rfl) (St.notownL (Ls := logL g gd gm X M rm n D1 own1 rd1) (R := [rdA _ _, blk g2 _]) H 1 rfl) (homeB_len HL2.out) hc2 (by omega)) (homeB_len HL2.out)).mono ?_); rintro e W3 ⟨rfl, own2, rd2, hto⟩; replace H := (hto.front (R := [rdA _ _, blk g2 _]) H).take 5; clear hto; (try go_wp2_with fail); replace H : St O R w _ (logL g gd gm X M rm n (D1.put (2 + X.ring + k) (homeB l)) own2 rd2 ++ [rdA (some ⟨ga, offa, none⟩) ((X.keys n).map fun k : Nat => Value.int .i64 (k : Int))]) := H; refine hK.out _ _ (HSQ.out _ _ _ _ H) (fun hHeld5 => ?_); clear hK K) ; (try simp only [Act.put, List.setIfInBounds_toArray, List.set_cons_zero, List.set_cons_succ, List.getElem_toArray, List.getElem_cons_succ, List.getElem_cons_zero])
        (refine wpAnyH_take (i := 13) (v := ?_) rfl (by kernel_rfl) (by kernel_rfl) (by kernel_rfl) (fun _ _ _ h => h) (Or.inl ⟨by rfl, ?_⟩) (by assumption) ?_; rotate_left; focus (intro w hSw; (try dsimp only at hSw); go_simp; all_goals (with_reducible rfl))); (try simp only [Act.put, List.setIfInBounds_toArray, List.set_cons_zero, List.set_cons_succ, List.getElem_toArray, List.getElem_cons_succ, List.getElem_cons_zero])
        (refine wpAnyH_done (by kernel_rfl) ?_ _)
        clear hHeld hHeld2 hHeld3 hHeld4 hHeld5 hS0
        go_wp2
        go_roundw
        case rel => exact ⟨j + 1, _, own2, rd2, congrArg _ (by omega), HLT.out, HSTEP.out, H⟩
        case measure => have := HLT.out; simp [intOf]; omega
    · obtain rfl : j = (X.keys n).length := by omega
      have hji2 : ¬ (((X.keys n).length : Int) < ((X.keys n).length : Int)) := by omega
      have hD := HD1.out
      rw [List.take_length] at hD
      have HD := Lib.hid hD
      clear hD HD1 hge hj
      have HKL2 := Lib.hid (show (X.keys n).length ≤ 1900 by have := HKL.out; have := HN2.out; omega)
      obtain ⟨s1, hs1⟩ : ∃ s1, X.s + 1 = s1 := ⟨_, rfl⟩
      have hsw : IntKind.u64.wrap ((X.s : Int) + 1) = (s1 : Int) := by have := HSS.out; rw [IntKind.wrap_u64]; omega
      have HS1 := Lib.hid hs1
      have HS2 := Lib.hid (show s1 ≤ 1000000 by have := HSS.out; omega)
      clear hs1
      have tok1 : True := trivial
      have tok2 : True := trivial
      go_wp2_with (first
        | (go_at_call 145; have _t := tok1; clear _t; go_loud ((refine (lflush_ok (g := g) (gd := gd) (gm := gm) (X := X) (M := M) (rm := rm) (n := n) (D := D1) (own := own1) (rd := rd1) (H.take 4).bundle HC1.out).mono ?_); rintro e W3 ⟨rfl, own2, rd2, hto⟩; replace H := hto.front (R := []) (H.take 4); clear hto tok1; simp only [List.append_nil] at H))
        | (refine wpList_alloc_st H rfl 130 rfl _ zero_anchor ?_; clear H; intro W g6 H; rw [cells_anchorV] at H)
        | (refine wpList_loadmid rfl 130 _ rfl g 3 rfl (anchorR X.s X.turn X.place X.ring) _ Tryz.underlying130 rfl size_anchor (anchor_mid (H.at 0 rfl)) ?_)
        | (refine wpList_storerow_st H 4 rfl 130 _ _ rfl _ (anchorR X.s X.turn X.place X.ring).toArray rfl rfl _ _ rfl size_anchor rfl (anchorR_all _ _ _ _) ?_; clear H; intro W H; replace H : St O R w _ (logL g gd gm X M rm n D1.flushed own2 rd2 ++ [blk g6 (.cells (anchorR X.s X.turn X.place X.ring).toArray 130 (0, 0))]) := H)
        | (refine wpList_load1_st rfl 104 _ rfl _ _ rfl _ _ _ (H.at 4 rfl) _ Tryz.underlying104 rfl _ (anchorR0 _ _ _ _) ?_)
        | (refine wpList_store1_st H 4 rfl 104 _ _ rfl _ _ (.int .u64 (s1 : Int)) rfl rfl rfl _ _ rfl rfl (by simp [anchorR]) ?_; clear H; intro W H; replace H : St O R w _ (logL g gd gm X M rm n D1.flushed own2 rd2 ++ [blk g6 (.cells (anchorR s1 X.turn X.place X.ring).toArray 130 (0, 0))]) := H))
      clear hsw
      obtain ⟨Df, hDf⟩ : ∃ Df, D1.flushed = Df := ⟨_, rfl⟩
      have HCF := Lib.hid (show Calm Df N (u + (X.keys n).length) by rw [← hDf]; exact HC1.out.flushed)
      rw [hDf] at H
      have HDF := Lib.hid hDf
      clear hDf
      obtain ⟨la, hla⟩ : ∃ la, anchorB s1 X.turn X.place X.ring = la := ⟨_, rfl⟩
      have HLA := Lib.hid (show la.length = 256 by rw [← hla]; exact anchorB_len _ _ _ _)
      have HLB := Lib.hid hla
      clear hla
      obtain ⟨q, hq⟩ : ∃ q, s1 % 2 = q := ⟨_, rfl⟩
      have hq2 : (q : Int) < 2 := by omega
      have hq0 : 0 ≤ (q : Int) := by omega
      have hqt : ((s1 : Int)).tmod 2 = (q : Int) := by rw [Int.tmod_eq_emod_of_nonneg (by omega)]; omega
      replace H := H.drew
      refine wp_region_held_drew (S := fun w' => w'.heap[g6]? = some (.cells (anchorR s1 X.turn X.place X.ring).toArray 130 (0, 0))) (by kernel_rfl) (H.at 4 rfl) (fun hHeld => ?_)
      (refine wpAnyH_take (i := 0) (v := ?_) rfl (by kernel_rfl) (by kernel_rfl) (by kernel_rfl) (fun _ _ _ h => h) (Or.inl ⟨by rfl, ?_⟩) (by assumption) ?_; rotate_left; focus (intro w hSw; (try dsimp only at hSw); go_simp; all_goals (with_reducible rfl))); (try simp only [Act.put, List.setIfInBounds_toArray, List.set_cons_zero, List.set_cons_succ, List.getElem_toArray, List.getElem_cons_succ, List.getElem_cons_zero])
      (refine wpAnyH_take (i := 1) (v := ?_) rfl (by kernel_rfl) (by kernel_rfl) (by kernel_rfl) (fun _ _ _ h => h) (Or.inl ⟨by rfl, ?_⟩) (by assumption) ?_; rotate_left; focus (intro w hSw; (try dsimp only at hSw); go_simp; all_goals (with_reducible rfl))); (try simp only [Act.put, List.setIfInBounds_toArray, List.set_cons_zero, List.set_cons_succ, List.getElem_toArray, List.getElem_cons_succ, List.getElem_cons_zero])
      (refine wpAnyH_take (i := 2) rfl (by kernel_rfl) (by kernel_rfl) (by kernel_rfl) (fun _ _ _ h => h) ((yieldsIf_load1 (by rfl) 104 _ rfl _ _ (by rfl) _ Tryz.underlying104 rfl _ (fun w h => row_cell h (anchorR0 _ _ _ _)))) (by assumption) ?_); (try simp only [Act.put, List.setIfInBounds_toArray, List.set_cons_zero, List.set_cons_succ, List.getElem_toArray, List.getElem_cons_succ, List.getElem_cons_zero])
      (refine wpAnyH_take (i := 3) (v := ?_) rfl (by kernel_rfl) (by kernel_rfl) (by kernel_rfl) (fun _ _ _ h => h) (Or.inl ⟨by rfl, ?_⟩) (by assumption) ?_; rotate_left; focus (intro w hSw; (try dsimp only at hSw); go_simp; all_goals (with_reducible rfl))); (try simp only [Act.put, List.setIfInBounds_toArray, List.set_cons_zero, List.set_cons_succ, List.getElem_toArray, List.getElem_cons_succ, List.getElem_cons_zero])
      (refine wpAnyH_take (i := 4) (v := ?_) rfl (by kernel_rfl) (by kernel_rfl) (by kernel_rfl) (fun _ _ _ h => h) (Or.inl ⟨by rfl, ?_⟩) (by assumption) ?_; rotate_left; focus (intro w hSw; (try dsimp only at hSw); go_simp; all_goals (with_reducible rfl))); (try simp only [Act.put, List.setIfInBounds_toArray, List.set_cons_zero, List.set_cons_succ, List.getElem_toArray, List.getElem_cons_succ, List.getElem_cons_zero])
      (refine wpAnyH_take (i := 5) rfl (by kernel_rfl) (by kernel_rfl) (by kernel_rfl) (fun _ _ _ h => h) ((yieldsIf_loadrow (by rfl) 130 _ rfl _ rfl (anchorR s1 X.turn X.place X.ring).toArray _ _ _ Tryz.underlying130 rfl size_anchor (fun w h => h))) (by assumption) ?_); (try simp only [Act.put, List.setIfInBounds_toArray, List.set_cons_zero, List.set_cons_succ, List.getElem_toArray, List.getElem_cons_succ, List.getElem_cons_zero])
      (refine wpAnyH_ready (rs := [6]) (by kernel_rfl) (by simp) (AllReadyH.cons rfl (fun K hK => ?_) AllReadyH.nil)); (rw [if_pos (by rfl)]); (go_simp; go_at_call 98; (refine (bytes_calls s1 X.turn X.place X.ring _ (by have := HS2.out; omega) (by have := HT.out; omega) (by have := HF.out.place; have := HF.out.r2; omega) (by have := HF.out.r2; omega)).mono ?_); rintro e W4 ⟨g7, cap7, junk7, rfl, hl7, hc7, hj7, hm7, hg7, hb7, hbl⟩; replace H := H.add (Fix.of_below hbl _) (blk g7 _) hb7 (fun k hk => by rw [show k = g7 from hk]; exact hg7) (fun k hk => hk.elim); clear hb7 hbl; rw [HLB.out] at H hj7; (try go_wp2_with fail); refine hK.out _ _ (H.at 4 rfl) (fun hHeld2 => ?_); clear hK K)
      (try simp only [Act.put, List.setIfInBounds_toArray, List.set_cons_zero, List.set_cons_succ, List.getElem_toArray, List.getElem_cons_succ, List.getElem_cons_zero])
      (refine wpAnyH_ready (rs := [7]) (by kernel_rfl) (by simp) (AllReadyH.cons rfl (fun K hK => ?_) AllReadyH.nil)); (rw [if_pos (by rfl)]); (go_simp; go_at_call 143; rw [show IntKind.i64.wrap (q : Int) = (q : Int) by rw [IntKind.wrap_i64]; omega]; (refine (lwrite_ok (g := g) (gd := gd) (gm := gm) (X := X) (M := M) (rm := rm) (n := n) (D := Df) (own := own2) (rd := rd2) (H.take 4).bundle HCF.out (by have := HU.out; have := HKL2.out; omega) _ q rfl (by have := HF.out.fits; omega) _ la (argB_front (H.at 5 rfl) (St.notownL (Ls := logL g gd gm X M rm n Df own2 rd2) (R := [blk g6 _, blk g7 _]) H 1 rfl) HLA.out hc7 (by omega)) HLA.out).mono ?_); rintro e W5 ⟨rfl, own3, rd3, hto⟩; replace H := (hto.front (R := [blk g6 _, blk g7 _]) H).take 5; clear hto; (try go_wp2_with fail); replace H : St O R w _ (logL g gd gm X M rm n (Df.put q la) own3 rd3 ++ [blk g6 (.cells (anchorR s1 X.turn X.place X.ring).toArray 130 (0, 0))]) := H; refine hK.out _ _ (H.at 4 rfl) (fun hHeld3 => ?_); clear hK K)
      (try simp only [Act.put, List.setIfInBounds_toArray, List.set_cons_zero, List.set_cons_succ, List.getElem_toArray, List.getElem_cons_succ, List.getElem_cons_zero])
      (refine wpAnyH_take (i := 8) (v := ?_) rfl (by kernel_rfl) (by kernel_rfl) (by kernel_rfl) (fun _ _ _ h => h) (Or.inl ⟨by rfl, ?_⟩) (by assumption) ?_; rotate_left; focus (intro w hSw; (try dsimp only at hSw); go_simp; all_goals (with_reducible rfl))); (try simp only [Act.put, List.setIfInBounds_toArray, List.set_cons_zero, List.set_cons_succ, List.getElem_toArray, List.getElem_cons_succ, List.getElem_cons_zero])
      (refine wpAnyH_done (by kernel_rfl) ?_ _)
      clear hHeld hHeld2 hHeld3
      obtain ⟨D2, hD2⟩ : ∃ D2, Df.put q la = D2 := ⟨_, rfl⟩
      have HC2 := Lib.hid (show Calm D2 N (u + (X.keys n).length + 1) by rw [← hD2]; exact HCF.out.put _ _)
      rw [hD2] at H
      have HD2 := Lib.hid hD2
      clear hD2
      go_wp2_with (first
        | (go_at_call 145; go_loud ((refine (lflush_ok (g := g) (gd := gd) (gm := gm) (X := X) (M := M) (rm := rm) (n := n) (D := D2) (own := own3) (rd := rd3) (H.take 4).bundle HC2.out).mono ?_); rintro e W3 ⟨rfl, own4, rd4, hto⟩; replace H := hto.front (R := [blk g6 _]) H; clear hto)))
      obtain ⟨D3, hD3⟩ : ∃ D3, D2.flushed = D3 := ⟨_, rfl⟩
      rw [hD3] at H
      have HD3 := Lib.hid (show X.settleD n D = D3 by rw [← hD3, ← HD2.out, ← HLB.out, ← HDF.out, HD.out, ← hq, ← HS1.out]; rfl)
      clear hD3
      replace H := H.drew
      replace H : St O R w _ [blk g (.cells (lRow (.pointer (some ⟨gd, 0, none⟩)) X.lives false X.s X.turn X.place X.ring X.free (.map (some gm))).toArray 132 (0, 0)), mapA gm (Go.Maps.size M) M, mapIsA rm M X.m n 248, dA gd D3 own4 rd4, blk g6 (.cells (anchorR s1 X.turn X.place X.ring).toArray 130 (0, 0))] := H
      refine wp_region_held_drew (S := fun w' => w'.heap[g6]? = some (.cells (anchorR s1 X.turn X.place X.ring).toArray 130 (0, 0))) (by kernel_rfl) (H.at 4 rfl) (fun hHeld => ?_)
      (refine wpAnyH_take (i := 0) (v := ?_) rfl (by kernel_rfl) (by kernel_rfl) (by kernel_rfl) (fun _ _ _ h => h) (Or.inl ⟨by rfl, ?_⟩) (by assumption) ?_; rotate_left; focus (intro w hSw; (try dsimp only at hSw); go_simp; all_goals (with_reducible rfl))); (try simp only [Act.put, List.setIfInBounds_toArray, List.set_cons_zero, List.set_cons_succ, List.getElem_toArray, List.getElem_cons_succ, List.getElem_cons_zero])
      (refine wpAnyH_take (i := 1) (v := ?_) rfl (by kernel_rfl) (by kernel_rfl) (by kernel_rfl) (fun _ _ _ h => h) (Or.inl ⟨by rfl, ?_⟩) (by assumption) ?_; rotate_left; focus (intro w hSw; (try dsimp only at hSw); go_simp; all_goals (with_reducible rfl))); (try simp only [Act.put, List.setIfInBounds_toArray, List.set_cons_zero, List.set_cons_succ, List.getElem_toArray, List.getElem_cons_succ, List.getElem_cons_zero])
      (refine wpAnyH_take (i := 2) (v := ?_) rfl (by kernel_rfl) (by kernel_rfl) (by kernel_rfl) (fun _ _ _ h => h) (Or.inl ⟨by rfl, ?_⟩) (by assumption) ?_; rotate_left; focus (intro w hSw; (try dsimp only at hSw); go_simp; all_goals (with_reducible rfl))); (try simp only [Act.put, List.setIfInBounds_toArray, List.set_cons_zero, List.set_cons_succ, List.getElem_toArray, List.getElem_cons_succ, List.getElem_cons_zero])
      (refine wpAnyH_take (i := 3) rfl (by kernel_rfl) (by kernel_rfl) (by kernel_rfl) (fun _ _ _ h => h) ((yieldsIf_loadrow (by rfl) 130 _ rfl _ rfl (anchorR s1 X.turn X.place X.ring).toArray _ _ _ Tryz.underlying130 rfl size_anchor (fun w h => h))) (by assumption) ?_); (try simp only [Act.put, List.setIfInBounds_toArray, List.set_cons_zero, List.set_cons_succ, List.getElem_toArray, List.getElem_cons_succ, List.getElem_cons_zero])
      (refine wpAnyH_take (i := 5) (v := ?_) rfl (by kernel_rfl) (by kernel_rfl) (by kernel_rfl) (fun _ _ _ h => h) (Or.inl ⟨by rfl, ?_⟩) (by assumption) ?_; rotate_left; focus (intro w hSw; (try dsimp only at hSw); go_simp; all_goals (with_reducible rfl))); (try simp only [Act.put, List.setIfInBounds_toArray, List.set_cons_zero, List.set_cons_succ, List.getElem_toArray, List.getElem_cons_succ, List.getElem_cons_zero])
      (refine wpAnyH_take (i := 6) rfl (by kernel_rfl) (by kernel_rfl) (by kernel_rfl) (fun _ _ _ h => h) ((yieldsIf_load1 (by rfl) 3 _ rfl _ _ (by rfl) _ Tryz.underlying3 rfl _ (fun w h => row_cell h (anchorR3 _ _ _ _)))) (by assumption) ?_); (try simp only [Act.put, List.setIfInBounds_toArray, List.set_cons_zero, List.set_cons_succ, List.getElem_toArray, List.getElem_cons_succ, List.getElem_cons_zero])
      (refine wpAnyH_take (i := 7) (v := ?_) rfl (by kernel_rfl) (by kernel_rfl) (by kernel_rfl) (fun _ _ _ h => h) (Or.inl ⟨by rfl, ?_⟩) (by assumption) ?_; rotate_left; focus (intro w hSw; (try dsimp only at hSw); go_simp; all_goals (with_reducible rfl))); (try simp only [Act.put, List.setIfInBounds_toArray, List.set_cons_zero, List.set_cons_succ, List.getElem_toArray, List.getElem_cons_succ, List.getElem_cons_zero])
      (refine wpAnyH_take (i := 8) (v := ?_) rfl (by kernel_rfl) (by kernel_rfl) (by kernel_rfl) (fun _ _ _ h => h) (Or.inl ⟨by rfl, ?_⟩) (by assumption) ?_; rotate_left; focus (intro w hSw; (try dsimp only at hSw); go_simp; all_goals (with_reducible rfl))); (try simp only [Act.put, List.setIfInBounds_toArray, List.set_cons_zero, List.set_cons_succ, List.getElem_toArray, List.getElem_cons_succ, List.getElem_cons_zero])
      refine wpAnyH_ready (rs := [4, 9]) (by kernel_rfl) (by simp) (AllReadyH.cons rfl (fun K hK => ?_) (AllReadyH.cons rfl (fun K hK => ?_) AllReadyH.nil))
      · rw [if_pos (by rfl)]
        refine wp_makemap_st H 110 rfl ?_; clear H; intro W gm2 H; refine hK.out _ _ (H.at 4 rfl) (fun hHeld2 => ?_); clear hK K
        (try simp only [Act.put, List.setIfInBounds_toArray, List.set_cons_zero, List.set_cons_succ, List.getElem_toArray, List.getElem_cons_succ, List.getElem_cons_zero])
        (refine wpAnyH_ready (rs := [9]) (by kernel_rfl) (by simp) (AllReadyH.cons rfl (fun K hK => ?_) AllReadyH.nil)); (rw [if_pos (by rfl)]); (refine wp_storemid_st H 0 130 _ _ rfl g 3 (anchorR s1 X.turn X.place X.ring) (by rfl) (by rfl) 132 _ rfl size_anchor (by simp [lRow, anchorR]) (by simp [anchorR, Value.oneCell']) ?_; clear H; intro W H; replace H : St O R w _ [blk g (.cells (lRow (.pointer (some ⟨gd, 0, none⟩)) X.lives false s1 X.turn X.place X.ring X.free (.map (some gm))).toArray 132 (0, 0)), mapA gm (Go.Maps.size M) M, mapIsA rm M X.m n 248, dA gd D3 own4 rd4, blk g6 (.cells (anchorR s1 X.turn X.place X.ring).toArray 130 (0, 0)), mapA gm2 0 (.map [])] := H; refine hK.out _ _ (H.at 4 rfl) (fun hHeld3 => ?_); clear hK K)
        (try simp only [Act.put, List.setIfInBounds_toArray, List.set_cons_zero, List.set_cons_succ, List.getElem_toArray, List.getElem_cons_succ, List.getElem_cons_zero])
        (refine wpAnyH_take (i := 10) (v := ?_) rfl (by kernel_rfl) (by kernel_rfl) (by kernel_rfl) (fun _ _ _ h => h) (Or.inl ⟨by rfl, ?_⟩) (by assumption) ?_; rotate_left; focus (intro w hSw; (try dsimp only at hSw); go_simp; all_goals (with_reducible rfl))); (try simp only [Act.put, List.setIfInBounds_toArray, List.set_cons_zero, List.set_cons_succ, List.getElem_toArray, List.getElem_cons_succ, List.getElem_cons_zero])
        (refine wpAnyH_take (i := 11) (v := ?_) rfl (by kernel_rfl) (by kernel_rfl) (by kernel_rfl) (fun _ _ _ h => h) (Or.inl ⟨by rfl, ?_⟩) (by assumption) ?_; rotate_left; focus (intro w hSw; (try dsimp only at hSw); go_simp; all_goals (with_reducible rfl))); (try simp only [Act.put, List.setIfInBounds_toArray, List.set_cons_zero, List.set_cons_succ, List.getElem_toArray, List.getElem_cons_succ, List.getElem_cons_zero])
        (refine wpAnyH_ready (rs := [12]) (by kernel_rfl) (by simp) (AllReadyH.cons rfl (fun K hK => ?_) AllReadyH.nil)); (rw [if_pos (by rfl)]); (refine wp_store1_st H 0 110 _ _ rfl g 8 (.map (some gm2)) (by rfl) (by rfl) rfl _ _ rfl rfl (by simp [lRow]) ?_; clear H; intro W H; replace H : St O R w _ [blk g (.cells (lRow (.pointer (some ⟨gd, 0, none⟩)) X.lives false s1 X.turn X.place X.ring X.free (.map (some gm2))).toArray 132 (0, 0)), mapA gm (Go.Maps.size M) M, mapIsA rm M X.m n 248, dA gd D3 own4 rd4, blk g6 (.cells (anchorR s1 X.turn X.place X.ring).toArray 130 (0, 0)), mapA gm2 0 (.map [])] := H; refine hK.out _ _ (H.at 4 rfl) (fun hHeld4 => ?_); clear hK K)
        (try simp only [Act.put, List.setIfInBounds_toArray, List.set_cons_zero, List.set_cons_succ, List.getElem_toArray, List.getElem_cons_succ, List.getElem_cons_zero])
        (refine wpAnyH_take (i := 13) (v := ?_) rfl (by kernel_rfl) (by kernel_rfl) (by kernel_rfl) (fun _ _ _ h => h) (Or.inl ⟨by rfl, ?_⟩) (by assumption) ?_; rotate_left; focus (intro w hSw; (try dsimp only at hSw); go_simp; all_goals (with_reducible rfl))); (try simp only [Act.put, List.setIfInBounds_toArray, List.set_cons_zero, List.set_cons_succ, List.getElem_toArray, List.getElem_cons_succ, List.getElem_cons_zero])
        (refine wpAnyH_take (i := 14) (v := ?_) rfl (by kernel_rfl) (by kernel_rfl) (by kernel_rfl) (fun _ _ _ h => h) (Or.inl ⟨by rfl, ?_⟩) (by assumption) ?_; rotate_left; focus (intro w hSw; (try dsimp only at hSw); go_simp; all_goals (with_reducible rfl))); (try simp only [Act.put, List.setIfInBounds_toArray, List.set_cons_zero, List.set_cons_succ, List.getElem_toArray, List.getElem_cons_succ, List.getElem_cons_zero])
        (refine wpAnyH_ready (rs := [15]) (by kernel_rfl) (by simp) (AllReadyH.cons rfl (fun K hK => ?_) AllReadyH.nil)); (rw [if_pos (by rfl)]); (refine wp_store1_st H 0 3 _ _ rfl g 7 (.int .i64 (X.ring : Int)) (by rfl) (by rfl) rfl _ _ rfl rfl (by simp [lRow]) ?_; clear H; intro W H; replace H : St O R w _ [blk g (.cells (lRow (.pointer (some ⟨gd, 0, none⟩)) X.lives false s1 X.turn X.place X.ring (X.ring : Int) (.map (some gm2))).toArray 132 (0, 0)), mapA gm (Go.Maps.size M) M, mapIsA rm M X.m n 248, dA gd D3 own4 rd4, blk g6 (.cells (anchorR s1 X.turn X.place X.ring).toArray 130 (0, 0)), mapA gm2 0 (.map [])] := H; refine hK.out _ _ (H.at 4 rfl) (fun hHeld5 => ?_); clear hK K)
        (try simp only [Act.put, List.setIfInBounds_toArray, List.set_cons_zero, List.set_cons_succ, List.getElem_toArray, List.getElem_cons_succ, List.getElem_cons_zero])
        (refine wpAnyH_done (by kernel_rfl) ?_ _)
        clear hHeld hHeld2 hHeld3 hHeld4 hHeld5
        go_wp2
        go_ret
        have H1 := H.add (Fix.refl _ _) (mapIsA NoBlk (.map []) (fun _ => none) n 248) (by exact MapIs.empty _ n 248) (fun k hk => hk.elim) (fun k hk => hk.elim)
        have H2 : St O R w W (logL g gd gm2 X.settled (.map []) NoBlk n D3 own4 rd4) := by
          have e : ((X.settled).s : Int) = (s1 : Int) := by show ((X.s + 1 : Nat) : Int) = _; rw [HS1.out]
          unfold logL
          rw [e]
          refine H1.pick (fun m => [0, 5, 6, 3].getD m 0) ?_ ?_
          · intro m C hm
            rcases m with _ | _ | _ | _ | m
            · exact hm
            · exact hm
            · exact hm
            · exact hm
            · simp at hm
          · intro m l hm hl e
            have hm4 : m < 4 := hm
            have hl4 : l < 4 := hl
            rcases m with _ | _ | _ | _ | m <;> rcases l with _ | _ | _ | _ | l <;> first | rfl | omega | (simp at e)
        rw [HD3.out]
        exact ⟨rfl, gm2, own4, rd4, H2.bunTo⟩
      · rw [if_pos (by rfl)]
        refine wp_storemid_st H 0 130 _ _ rfl g 3 (anchorR s1 X.turn X.place X.ring) (by rfl) (by rfl) 132 _ rfl size_anchor (by simp [lRow, anchorR]) (by simp [anchorR, Value.oneCell']) ?_; clear H; intro W H; replace H : St O R w _ [blk g (.cells (lRow (.pointer (some ⟨gd, 0, none⟩)) X.lives false s1 X.turn X.place X.ring X.free (.map (some gm))).toArray 132 (0, 0)), mapA gm (Go.Maps.size M) M, mapIsA rm M X.m n 248, dA gd D3 own4 rd4, blk g6 (.cells (anchorR s1 X.turn X.place X.ring).toArray 130 (0, 0))] := H; refine hK.out _ _ (H.at 4 rfl) (fun hHeld3 => ?_); clear hK K
        (try simp only [Act.put, List.setIfInBounds_toArray, List.set_cons_zero, List.set_cons_succ, List.getElem_toArray, List.getElem_cons_succ, List.getElem_cons_zero])
        (refine wpAnyH_ready (rs := [4]) (by kernel_rfl) (by simp) (AllReadyH.cons rfl (fun K hK => ?_) AllReadyH.nil)); (rw [if_pos (by rfl)]); (refine wp_makemap_st H 110 rfl ?_; clear H; intro W gm2 H; refine hK.out _ _ (H.at 4 rfl) (fun hHeld2 => ?_); clear hK K)
        (try simp only [Act.put, List.setIfInBounds_toArray, List.set_cons_zero, List.set_cons_succ, List.getElem_toArray, List.getElem_cons_succ, List.getElem_cons_zero])
        (refine wpAnyH_take (i := 10) (v := ?_) rfl (by kernel_rfl) (by kernel_rfl) (by kernel_rfl) (fun _ _ _ h => h) (Or.inl ⟨by rfl, ?_⟩) (by assumption) ?_; rotate_left; focus (intro w hSw; (try dsimp only at hSw); go_simp; all_goals (with_reducible rfl))); (try simp only [Act.put, List.setIfInBounds_toArray, List.set_cons_zero, List.set_cons_succ, List.getElem_toArray, List.getElem_cons_succ, List.getElem_cons_zero])
        (refine wpAnyH_take (i := 11) (v := ?_) rfl (by kernel_rfl) (by kernel_rfl) (by kernel_rfl) (fun _ _ _ h => h) (Or.inl ⟨by rfl, ?_⟩) (by assumption) ?_; rotate_left; focus (intro w hSw; (try dsimp only at hSw); go_simp; all_goals (with_reducible rfl))); (try simp only [Act.put, List.setIfInBounds_toArray, List.set_cons_zero, List.set_cons_succ, List.getElem_toArray, List.getElem_cons_succ, List.getElem_cons_zero])
        (refine wpAnyH_ready (rs := [12]) (by kernel_rfl) (by simp) (AllReadyH.cons rfl (fun K hK => ?_) AllReadyH.nil)); (rw [if_pos (by rfl)]); (refine wp_store1_st H 0 110 _ _ rfl g 8 (.map (some gm2)) (by rfl) (by rfl) rfl _ _ rfl rfl (by simp [lRow]) ?_; clear H; intro W H; replace H : St O R w _ [blk g (.cells (lRow (.pointer (some ⟨gd, 0, none⟩)) X.lives false s1 X.turn X.place X.ring X.free (.map (some gm2))).toArray 132 (0, 0)), mapA gm (Go.Maps.size M) M, mapIsA rm M X.m n 248, dA gd D3 own4 rd4, blk g6 (.cells (anchorR s1 X.turn X.place X.ring).toArray 130 (0, 0)), mapA gm2 0 (.map [])] := H; refine hK.out _ _ (H.at 4 rfl) (fun hHeld4 => ?_); clear hK K)
        (try simp only [Act.put, List.setIfInBounds_toArray, List.set_cons_zero, List.set_cons_succ, List.getElem_toArray, List.getElem_cons_succ, List.getElem_cons_zero])
        (refine wpAnyH_take (i := 13) (v := ?_) rfl (by kernel_rfl) (by kernel_rfl) (by kernel_rfl) (fun _ _ _ h => h) (Or.inl ⟨by rfl, ?_⟩) (by assumption) ?_; rotate_left; focus (intro w hSw; (try dsimp only at hSw); go_simp; all_goals (with_reducible rfl))); (try simp only [Act.put, List.setIfInBounds_toArray, List.set_cons_zero, List.set_cons_succ, List.getElem_toArray, List.getElem_cons_succ, List.getElem_cons_zero])
        (refine wpAnyH_take (i := 14) (v := ?_) rfl (by kernel_rfl) (by kernel_rfl) (by kernel_rfl) (fun _ _ _ h => h) (Or.inl ⟨by rfl, ?_⟩) (by assumption) ?_; rotate_left; focus (intro w hSw; (try dsimp only at hSw); go_simp; all_goals (with_reducible rfl))); (try simp only [Act.put, List.setIfInBounds_toArray, List.set_cons_zero, List.set_cons_succ, List.getElem_toArray, List.getElem_cons_succ, List.getElem_cons_zero])
        (refine wpAnyH_ready (rs := [15]) (by kernel_rfl) (by simp) (AllReadyH.cons rfl (fun K hK => ?_) AllReadyH.nil)); (rw [if_pos (by rfl)]); (refine wp_store1_st H 0 3 _ _ rfl g 7 (.int .i64 (X.ring : Int)) (by rfl) (by rfl) rfl _ _ rfl rfl (by simp [lRow]) ?_; clear H; intro W H; replace H : St O R w _ [blk g (.cells (lRow (.pointer (some ⟨gd, 0, none⟩)) X.lives false s1 X.turn X.place X.ring (X.ring : Int) (.map (some gm2))).toArray 132 (0, 0)), mapA gm (Go.Maps.size M) M, mapIsA rm M X.m n 248, dA gd D3 own4 rd4, blk g6 (.cells (anchorR s1 X.turn X.place X.ring).toArray 130 (0, 0)), mapA gm2 0 (.map [])] := H; refine hK.out _ _ (H.at 4 rfl) (fun hHeld5 => ?_); clear hK K)
        (try simp only [Act.put, List.setIfInBounds_toArray, List.set_cons_zero, List.set_cons_succ, List.getElem_toArray, List.getElem_cons_succ, List.getElem_cons_zero])
        (refine wpAnyH_done (by kernel_rfl) ?_ _)
        clear hHeld hHeld2 hHeld3 hHeld4 hHeld5
        go_wp2
        go_ret
        have H1 := H.add (Fix.refl _ _) (mapIsA NoBlk (.map []) (fun _ => none) n 248) (by exact MapIs.empty _ n 248) (fun k hk => hk.elim) (fun k hk => hk.elim)
        have H2 : St O R w W (logL g gd gm2 X.settled (.map []) NoBlk n D3 own4 rd4) := by
          have e : ((X.settled).s : Int) = (s1 : Int) := by show ((X.s + 1 : Nat) : Int) = _; rw [HS1.out]
          unfold logL
          rw [e]
          refine H1.pick (fun m => [0, 5, 6, 3].getD m 0) ?_ ?_
          · intro m C hm
            rcases m with _ | _ | _ | _ | m
            · exact hm
            · exact hm
            · exact hm
            · exact hm
            · simp at hm
          · intro m l hm hl e
            have hm4 : m < 4 := hm
            have hl4 : l < 4 := hl
            rcases m with _ | _ | _ | _ | m <;> rcases l with _ | _ | _ | _ | l <;> first | rfl | omega | (simp at e)
        rw [HD3.out]
        exact ⟨rfl, gm2, own4, rd4, H2.bunTo⟩

end Go.Proofs.YtlgciddnpinpbaaGreatDoor

namespace Go.Proofs.YtlgciddnpinpbaaGreatDoor
open Go.RowKit
set_option linter.unusedSimpArgs false
set_option linter.unusedVariables false
set_option maxRecDepth 4000

theorem MapIs.size_zero {W : World} {rd : Nat → Prop} {M : DataW Value} {f : Nat → Option (List UInt8)} {b len : Nat} (h : MapIs W rd M f b len) {gm n : Nat}
    (hm : W.ownsMap Tryz.prog 3 RV gm n M) : Go.Maps.size M = 0 ↔ ∀ k, f k = none := by
  obtain ⟨es, rfl, hp⟩ := hm.tidy keyedInt
  constructor
  · intro h0 k
    have h1 : es = [] := List.eq_nil_of_length_eq_zero (by simpa [Go.Maps.size] using h0)
    subst h1
    rcases h.waits k with ⟨_, h2⟩ | ⟨v, l, h2, _⟩
    · exact h2
    · simp [Go.Maps.has] at h2
  · intro h0
    cases es with
    | nil => rfl
    | cons p es =>
      have hkey : WideAt.IsKeyLit p.1 := by
        obtain ⟨es', e1, _, h3⟩ := hm.canon keyedInt
        cases e1
        exact h3 p (List.mem_cons_self ..)
      have hh : Go.Maps.has (.map (p :: es)) p.1 = true := by
        rw [Go.Maps.has_eq, List.any_eq_true]
        exact ⟨p, List.mem_cons_self .., WideAt.sameKey_self hkey⟩
      obtain ⟨k, _, e⟩ := h.keys _ hh
      rw [e] at hh
      rcases h.waits k with ⟨h2, _⟩ | ⟨v, l, _, _, h3, _⟩
      · rw [h2] at hh; cases hh
      · rw [h0 k] at h3; cases h3

/-- The log, room made for k sectors and a mark. -/
def LS.roomy (X : LS) (k : Nat) : LS := if X.free < ((k + 1 : Nat) : Int) then X.settled else X
def LS.roomD (X : LS) (n : Nat) (D : DS) (k : Nat) : DS := if X.free < ((k + 1 : Nat) : Int) then X.settleD n D else D

theorem LogFine.roomy {X : LS} {n : Nat} {D : DS} {N u : Nat} (h : LogFine X n D N u) (k : Nat) : ∃ u', u' ≤ u + 1901 ∧ LogFine (X.roomy k) n (X.roomD n D k) N u' := by
  unfold LS.roomy LS.roomD
  by_cases hr : X.free < ((k + 1 : Nat) : Int)
  · rw [if_pos hr, if_pos hr]
    exact ⟨_, by have := keys_len X n; have := h.fits; have := h.top; omega, h.settled⟩
  · rw [if_neg hr, if_neg hr]
    exact ⟨u, by omega, h⟩

set_option maxHeartbeats 1000000 in
theorem checks_none {w : World} {g gd gm : Nat} {X : LS} {M : DataW Value} {rm : Nat → Prop} {n : Nat} {D : DS} {own rd : Nat → Prop} (hb : Bundle w (logL g gd gm X M rm n D own rd)) (hm : ∀ k, X.m k = none) :
    Calls Tryz.prog 142 #[.pointer (some ⟨g, 0, none⟩)] w fun e w' => e = .returned .nilIface ∧ w = w' := by
  have H := hb.open_
  have hz : Go.Maps.size M = 0 := ((H.at 2 rfl : MapIs w rm M X.m n 248).size_zero (H.at 1 rfl)).2 hm
  have hlen : ∀ ty, (Builtin.len_ #[110] ty #[.map (some gm)]).run Tryz.prog w = .ok (.int .i64 0) w := fun ty => by
    have := (H.at 1 rfl : w.ownsMap Tryz.prog 3 RV gm (Go.Maps.size M) M).len Tryz.underlying110 ty
    rw [hz] at this; exact this
  clear hb hz hm
  go_enter Tryz.func142, Tryz.ntmps142
  go_wp2_with (first
    | (refine wpList_load1_st rfl 110 _ rfl _ _ rfl _ _ _ (H.at 0 rfl) _ Tryz.underlying110 rfl _ (lRow8 _ _ _ _ _ _ _ _ _) ?_))
  go_ret
  exact ⟨rfl, rfl⟩

set_option maxHeartbeats 1000000 in
theorem checks_ok {w : World} {g gd gm : Nat} {X : LS} {M : DataW Value} {rm : Nat → Prop} {n : Nat} {D : DS} {own rd : Nat → Prop} (hb : Bundle w (logL g gd gm X M rm n D own rd)) {N u : Nat} (hf : LogFine X n D N u) (hm : ¬ ∀ k, X.m k = none) (hu : u + 2000 < 1000000) (hs : X.s < 1000000) (ht : X.turn < 2000000) :
    Calls Tryz.prog 142 #[.pointer (some ⟨g, 0, none⟩)] w fun e w' => e = .returned .nilIface ∧ ∃ gm' own' rd',
      BunTo w (ownL (logL g gd gm X M rm n D own rd)) (rdL (logL g gd gm X M rm n D own rd)) (logL g gd gm' X.settled (.map []) NoBlk n (X.settleD n D) own' rd') w' := by
  have HS := Lib.hid (settles_ok hb hf hu hs ht)
  have H := hb.open_
  have hz : Go.Maps.size M ≠ 0 := fun h => hm (((H.at 2 rfl : MapIs w rm M X.m n 248).size_zero (H.at 1 rfl)).1 h)
  have hz2 : ((Go.Maps.size M : Int) == 0) = false := beq_eq_false_iff_ne.2 (by omega)
  have hlen : ∀ ty, (Builtin.len_ #[110] ty #[.map (some gm)]).run Tryz.prog w = .ok (.int .i64 (Go.Maps.size M : Int)) w := fun ty =>
    (H.at 1 rfl : w.ownsMap Tryz.prog 3 RV gm (Go.Maps.size M) M).len Tryz.underlying110 ty
  have b3 : decide (4611686018427387902 ≤ (X.s : Int)) = false := decide_eq_false (by omega)
  have b4 : ¬ 4611686018427387902 ≤ X.s := by omega
  clear hb hm hf hu hs ht
  obtain ⟨z, hzz⟩ : ∃ z, Go.Maps.size M = z := ⟨_, rfl⟩
  go_enter Tryz.func142, Tryz.ntmps142
  go_wp2_with (first
    | (refine wpList_load1_st rfl 110 _ rfl _ _ rfl _ _ _ (H.at 0 rfl) _ Tryz.underlying110 rfl _ (lRow8 _ _ _ _ _ _ _ _ _) ?_)
    | (refine wpList_load1_st rfl 104 _ rfl _ _ rfl _ _ _ (H.at 0 rfl) _ Tryz.underlying104 rfl _ (lRow3 _ _ _ _ _ _ _ _ _) ?_)
    | (go_at_call 135; (refine (HS.out).mono ?_); rintro e W ⟨rfl, gm', own', rd', hto⟩))
  go_ret
  exact ⟨rfl, gm', own', rd', hto⟩

set_option maxHeartbeats 4000000 in
theorem commits_ok {w : World} {g gd gma : Nat} {Xa : LS} {Ma : DataW Value} {rma : Nat → Prop} {n : Nat} {Da : DS} {owna rda : Nat → Prop} {p : Option Addr} {cap : Nat} {ps : List PutS} {rp : Nat → Prop}
    (hb : Bundle w (logL g gd gma Xa Ma rma n Da owna rda ++ [rdA p (putV ps), putsA rp ps])) {N ua : Nat} (hf : LogFine Xa n Da N ua) (hg : Good ps n Xa.ring) (hps : 0 < ps.length) (ht : Xa.turn < 1000000) (hs : Xa.s < 1000000) (hu : ua + 3000 < 1000000) :
    Calls Tryz.prog 105 #[.pointer (some ⟨g, 0, none⟩), .slice p ps.length cap] w fun e w' => e = .returned .nilIface ∧ ∃ gm' M' rm' D' own' rd' u', u' ≤ ua + 2100 ∧ Off (Xa.roomD n Da ps.length) D' N Xa.ring u' ∧
      BunTo w (ownL (logL g gd gma Xa Ma rma n Da owna rda ++ [rdA p (putV ps), putsA rp ps])) (rdL (logL g gd gma Xa Ma rma n Da owna rda ++ [rdA p (putV ps), putsA rp ps]))
        (logL g gd gm' ((Xa.roomy ps.length).done ps) M' rm' n D' own' rd' ++ [rdA p (putV ps), putsA rp ps]) w' := by
  have HK := Lib.hid (looks_ok (cap := cap) hb hf hg)
  have H := hb.open_
  obtain ⟨O, hO⟩ : ∃ O, ownL (logL g gd gma Xa Ma rma n Da owna rda ++ [rdA p (putV ps), putsA rp ps]) = O := ⟨_, rfl⟩
  obtain ⟨R, hR⟩ : ∃ R, rdL (logL g gd gma Xa Ma rma n Da owna rda ++ [rdA p (putV ps), putsA rp ps]) = R := ⟨_, rfl⟩
  rw [hO, hR] at H HK ⊢
  have HFA := Lib.hid hf
  have HGA := Lib.hid hg
  have HUA := Lib.hid hu
  have HTA := Lib.hid ht
  have HSA := Lib.hid hs
  have HPS := Lib.hid hps
  have hli : (ps.length : Int) ≤ 119 := by have := hg.most; omega
  have b1 : ((ps.length : Int) == 0) = false := beq_eq_false_iff_ne.2 (by omega)
  have b2 : ps.length ≠ 0 := by omega
  have ht1 : (Xa.turn : Int) < 1000000 := by omega
  have ht0 : 0 ≤ (Xa.turn : Int) := by omega
  have b3 : decide (4611686018427387902 ≤ (Xa.turn : Int)) = false := decide_eq_false (by omega)
  clear hf hg hu hb ht hs hps
  go_enter Tryz.func105, Tryz.ntmps105
  go_upto_if 42 with (first
    | (go_at_call 141; go_loud ((with_reducible refine (HK.out).mono ?_); rintro e W ⟨rfl, hto⟩; clear H HK; have H : St O R w W (logL g gd gma Xa Ma rma n Da owna rda ++ [rdA p (putV ps), putsA rp ps]) := hto.st; clear hto))
    | (refine wpList_load1_st rfl 104 _ rfl _ _ rfl _ _ _ (H.at 0 rfl) _ Tryz.underlying104 rfl _ (lRow4 _ _ _ _ _ _ _ _ _) ?_)
    | (refine wpList_load1_st rfl 3 _ rfl _ _ rfl _ _ _ (H.at 0 rfl) _ Tryz.underlying3 rfl _ (lRow7 _ _ _ _ _ _ _ _ _) ?_))
  clear b1 b3 hO hR ht1 ht0
  go_cut [6] from 42 to 48 (fun t wx => ∃ (gm : Nat) (M : DataW Value) (rm own rd : Nat → Prop), St O R w wx (logL g gd gm (Xa.roomy ps.length) M rm n (Xa.roomD n Da ps.length) own rd ++ [rdA p (putV ps), putsA rp ps]))
  case first =>
    by_cases hroom : Xa.free < (ps.length : Int) + 1
    · have hX : Xa.roomy ps.length = Xa.settled := if_pos (by omega)
      have hD : Xa.roomD n Da ps.length = Xa.settleD n Da := if_pos (by omega)
      have HM := Lib.hid (fun h => by have := HFA.out.full h; have := HGA.out.fits; omega : ¬ ∀ k, Xa.m k = none)
      have b4 : decide (Xa.free < (ps.length : Int) + 1) = true := decide_eq_true hroom
      have HX := Lib.hid hX
      have HD := Lib.hid hD
      clear hX hD
      go_wp2_with (first
        | (go_at_call 142; go_loud ((refine (checks_ok (g := g) (gd := gd) (gm := gma) (X := Xa) (M := Ma) (rm := rma) (n := n) (D := Da) (own := owna) (rd := rda) (H.take 4).bundle HFA.out HM.out (by have := HUA.out; omega) HSA.out (by have := HTA.out; omega)).mono ?_); rintro e W2 ⟨rfl, gm1, own1, rd1, hto⟩; replace H := hto.front (R := [rdA p (putV ps), putsA rp ps]) H; clear hto)))
      go_meet
      case rel => rw [HX.out, HD.out]; exact ⟨gm1, _, _, own1, rd1, H⟩
    · have hX : Xa.roomy ps.length = Xa := if_neg (by omega)
      have hD : Xa.roomD n Da ps.length = Da := if_neg (by omega)
      have b4 : decide (Xa.free < (ps.length : Int) + 1) = false := decide_eq_false hroom
      have HX := Lib.hid hX
      have HD := Lib.hid hD
      clear hX hD
      go_wp2_with fail
      go_meet
      case rel => rw [HX.out, HD.out]; exact ⟨gma, _, _, owna, rda, H⟩
  case rest =>
  clear H
  obtain ⟨gm, M, rm, own, rd, H⟩ := hcut
  obtain ⟨u, hu9, hf9⟩ := HFA.out.roomy ps.length
  have hri : (Xa.roomy ps.length).ring = Xa.ring := by unfold LS.roomy; split <;> rfl
  have htu : (Xa.roomy ps.length).turn = Xa.turn := by unfold LS.roomy; split <;> rfl
  have HG0 := HGA.out
  have HT0 := HTA.out
  rw [← hri] at HG0
  rw [← htu] at HT0
  have HR9 := Lib.hid hri
  have HLI := Lib.hid hli
  have HU0 : u + 1000 < 1000000 := by have := HUA.out; omega
  have HU9 := Lib.hid hu9
  obtain ⟨X, hX⟩ : ∃ X, Xa.roomy ps.length = X := ⟨_, rfl⟩
  obtain ⟨D, hD⟩ : ∃ D, Xa.roomD n Da ps.length = D := ⟨_, rfl⟩
  rw [hX] at H hf9 hri htu HG0 HT0 HR9
  rw [hD] at H hf9
  have HXE := Lib.hid hX
  have HDE := Lib.hid hD
  clear hX hD
  have HF := Lib.hid hf9
  have HG := Lib.hid HG0
  have HU := Lib.hid HU0
  have HT := Lib.hid HT0
  have ht1 : (X.turn : Int) < 1000000 := by omega
  have ht0 : 0 ≤ (X.turn : Int) := by omega
  clear hf9 HG0 HT0 HU0 hri htu hu9 HTA HFA HGA HSA HUA
  go_upto_region 10 with fail
  go_cut [7] from 49 (fun t wx => t = .nilIface ∧ ∃ own1 rd1 : Nat → Prop, St O R w wx (logL g gd gm X M rm n (D.put (2 + X.place) noSect) own1 rd1 ++ [rdA p (putV ps), putsA rp ps]))
  case first =>
    replace H := H.drew
    have e1 := Lib.hid (show 2 + X.place % X.ring = 2 + X.place by rw [Nat.mod_eq_of_lt HF.out.place])
    have HP := Lib.hid (show 2 + X.place < 2 + X.ring ∧ 2 + X.place < N by have := HF.out.place; have := HF.out.fits; omega)
    obtain ⟨W1, gz, hrun, H1⟩ := H.make_run 22 5 Tryz.underlying22 _ _ info_u8 rfl 256 (by omega) (by simp [maxLen])
    rw [byteV_noSect] at H1
    replace hrun : (Instr.makeSlice 22 (.int .i64 256) (.int .i64 256)).run Tryz.prog _ = .ok (.slice (some ⟨gz, 0, none⟩) 256 256) W1 := hrun
    have c5 := row_cell (H.at 0 rfl) (lRow5 _ _ _ _ _ _ _ _ _)
    have d5 := row_cell (H1.at 0 rfl) (lRow5 _ _ _ _ _ _ _ _ _)
    go_region_held3 (fun w' => w'.cell? ⟨g, 5, none⟩ = some (.int .i64 (X.place : Int))) (first | exact c5 | exact d5 | exact f5) (first
      | (go_at_call 144; ((refine (at_calls (g := g) (gd := gd) (gm := gm) (X := X) (M := M) (rm := rm) (n := n) (D := D) (own := own) (rd := rd) (H.take 4).bundle _ X.place rfl (by have := HF.out.r1; omega) HF.out.r2).mono ?_); rintro e W' ⟨rfl, rfl⟩; rw [e1.out]))
      | (go_at_call 144; ((refine (at_calls (g := g) (gd := gd) (gm := gm) (X := X) (M := M) (rm := rm) (n := n) (D := D) (own := own) (rd := rd) (H1.take 4).bundle _ X.place rfl (by have := HF.out.r1; omega) HF.out.r2).mono ?_); rintro e W' ⟨rfl, rfl⟩; rw [e1.out]))
      | (go_at_call 143; go_loud ((refine (lwrite_ok (g := g) (gd := gd) (gm := gm) (X := X) (M := M) (rm := rm) (n := n) (D := D) (own := own) (rd := rd) (H1.take 4).bundle HF.out.calm (by have := HU.out; omega) _ (2 + X.place) rfl HP.out.2 _ noSect (argB_own noSect_len (by omega) (H1.at 6 rfl) (St.notownL (Ls := logL g gd gm X M rm n D own rd) (R := [rdA p (putV ps), putsA rp ps, blk gz _]) H1 2 rfl)) noSect_len).mono ?_); rintro e W2 ⟨rfl, own1, rd1, hto⟩; have H2 := (hto.front (R := [rdA p (putV ps), putsA rp ps, blk gz _]) H1).take 6; clear hto; have f5 := row_cell (H2.at 0 rfl) (lRow5 _ _ _ _ _ _ _ _ _))))
    all_goals
      go_wp2_with fail
      go_meet
      case rel => exact ⟨rfl, own1, rd1, H2⟩
  case rest =>
    clear H
    obtain ⟨rfl, own1, rd1, H⟩ := hcut
    have HP := Lib.hid (show 2 + X.place < 2 + X.ring ∧ 2 + X.place < N by have := HF.out.place; have := HF.out.fits; omega)
    have HO := Lib.hid ((Off.refl HF.out.calm).put (2 + X.place) HP.out.1 noSect)
    go_wp2
    go_loopw [64, 8, 9, 10, 11] (fun i _ _ _ _ wr => ∃ (j : Nat) (D1 : DS) (own1 rd1 : Nat → Prop), i = .int .i64 (j : Int) ∧ j ≤ ps.length ∧ Off D D1 N X.ring (u + 1 + j) ∧
        St O R w wr (logL g gd gm X M rm n D1 own1 rd1 ++ [rdA p (putV ps), putsA rp ps])) (fun i _ _ _ _ _ => ps.length - (intOf i).toNat)
    case atStart => exact ⟨0, _, own1, rd1, rfl, Nat.zero_le _, HO.out, H⟩
    case round =>
      clear H HO
      obtain ⟨j, D1, own2, rd2, rfl, hj, hoff, H⟩ := hrel
      have HO := Lib.hid hoff
      clear hoff
      rcases Nat.lt_or_ge j ps.length with hlt | hge
      · obtain ⟨ga, offa, rfl, hcell0⟩ := rdA_at (H.at 4 rfl) (putV_at ps j hlt).1
        obtain ⟨ga', offa', e1, hcell1⟩ := rdA_at (H.at 4 rfl) (putV_at ps j hlt).2
        simp only [Option.some.injEq, Addr.mk.injEq] at e1
        obtain ⟨rfl, rfl, _⟩ := e1
        have hbl := HG.out.len _ (List.getElem_mem hlt)
        obtain ⟨gv, offv, capv, hval, hcv, hrv, hbv⟩ := (H.at 5 rfl : PutsIs _ rp ps).val j hlt hbl
        have HNW := Lib.hid (fun (W : World) (h : PutsIs W rp ps) => h.news j hlt hbl hval)
        rw [hval, ← Nat.add_assoc] at hcell1
        obtain ⟨h, hh⟩ : ∃ h, ps[j].home = h := ⟨_, rfl⟩
        obtain ⟨bs, hbs⟩ : ∃ bs, ps[j].bs = bs := ⟨_, rfl⟩
        rw [hh] at hcell0
        rw [hbs] at HNW hbl
        have hji : (j : Int) < (ps.length : Int) := by omega
        have hj0 : 0 ≤ (j : Int) := by omega
        have HBL := Lib.hid hbl
        have HJ := Lib.hid (show j ≤ 119 by have := HG.out.most; omega)
        have HLT := Lib.hid hlt
        have hpi : (X.place : Int) < 512 := by have := HF.out.place; have := HF.out.r2; omega
        have hp0 : 0 ≤ (X.place : Int) := by omega
        clear hbv hval hcv hbl hh hbs
        go_wp2_with (first
          | (refine wpList_alloc_st H rfl 127 rfl _ zero_put ?_; clear H; intro W g9 H; rw [cells_put] at H; simp only [logL, List.nil_append, List.cons_append] at H)
          | (refine wpList_storerow_st H 6 rfl 127 _ _ rfl _ (pR (h : Int) (.slice (some ⟨gv, offv, none⟩) 248 capv)).toArray rfl rfl _ _ rfl size_put rfl (pR_all _ _ _ _) ?_; clear H; intro W H; simp only [List.set_cons_zero, List.set_cons_succ] at H))
        replace H := H.drew
        have w2 : IntKind.u64.wrap (2 * (X.turn : Int)) = 2 * (X.turn : Int) := by rw [IntKind.wrap_u64]; omega
        refine wp_region_held_drew (S := fun w' => w'.cell? ⟨g, 4, none⟩ = some (.int .u64 (X.turn : Int)) ∧ w'.cell? ⟨g9, 1, none⟩ = some (.slice (some ⟨gv, offv, none⟩) 248 capv)) (by kernel_rfl) ⟨row_cell (H.at 0 rfl) (lRow4 _ _ _ _ _ _ _ _ _), row_cell (H.at 6 rfl) (pR1 _ _)⟩ (fun hHeld => ?_)
        (refine wpAnyH_take (i := 0) (v := ?_) rfl (by kernel_rfl) (by kernel_rfl) (by kernel_rfl) (fun _ _ _ h => h) (Or.inl ⟨by rfl, ?_⟩) (by assumption) ?_; rotate_left; focus (intro w hSw; (try dsimp only at hSw); go_simp; all_goals (with_reducible rfl))); (try simp only [Act.put, List.setIfInBounds_toArray, List.set_cons_zero, List.set_cons_succ, List.getElem_toArray, List.getElem_cons_succ, List.getElem_cons_zero])
        (refine wpAnyH_take (i := 1) (v := ?_) rfl (by kernel_rfl) (by kernel_rfl) (by kernel_rfl) (fun _ _ _ h => h) (Or.inl ⟨by rfl, ?_⟩) (by assumption) ?_; rotate_left; focus (intro w hSw; (try dsimp only at hSw); go_simp; all_goals (with_reducible rfl))); (try simp only [Act.put, List.setIfInBounds_toArray, List.set_cons_zero, List.set_cons_succ, List.getElem_toArray, List.getElem_cons_succ, List.getElem_cons_zero])
        (refine wpAnyH_take (i := 2) (v := ?_) rfl (by kernel_rfl) (by kernel_rfl) (by kernel_rfl) (fun _ _ _ h => h) (Or.inl ⟨by rfl, ?_⟩) (by assumption) ?_; rotate_left; focus (intro w hSw; (try dsimp only at hSw); go_simp; all_goals (with_reducible rfl))); (try simp only [Act.put, List.setIfInBounds_toArray, List.set_cons_zero, List.set_cons_succ, List.getElem_toArray, List.getElem_cons_succ, List.getElem_cons_zero])
        (refine wpAnyH_take (i := 3) (v := ?_) rfl (by kernel_rfl) (by kernel_rfl) (by kernel_rfl) (fun _ _ _ h => h) (Or.inl ⟨by rfl, ?_⟩) (by assumption) ?_; rotate_left; focus (intro w hSw; (try dsimp only at hSw); go_simp; all_goals (with_reducible rfl))); (try simp only [Act.put, List.setIfInBounds_toArray, List.set_cons_zero, List.set_cons_succ, List.getElem_toArray, List.getElem_cons_succ, List.getElem_cons_zero])
        (refine wpAnyH_take (i := 4) rfl (by kernel_rfl) (by kernel_rfl) (by kernel_rfl) (fun _ _ _ h => h) ((yieldsIf_load1 (by rfl) 104 _ rfl _ _ (by rfl) _ Tryz.underlying104 rfl _ (fun w h => h.1))) (by assumption) ?_); (try simp only [Act.put, List.setIfInBounds_toArray, List.set_cons_zero, List.set_cons_succ, List.getElem_toArray, List.getElem_cons_succ, List.getElem_cons_zero])
        (refine wpAnyH_take (i := 5) (v := ?_) rfl (by kernel_rfl) (by kernel_rfl) (by kernel_rfl) (fun _ _ _ h => h) (Or.inl ⟨by rfl, ?_⟩) (by assumption) ?_; rotate_left; focus (intro w hSw; (try dsimp only at hSw); go_simp; all_goals (with_reducible rfl))); (try simp only [Act.put, List.setIfInBounds_toArray, List.set_cons_zero, List.set_cons_succ, List.getElem_toArray, List.getElem_cons_succ, List.getElem_cons_zero])
        clear w2
        (refine wpAnyH_take (i := 7) (v := ?_) rfl (by kernel_rfl) (by kernel_rfl) (by kernel_rfl) (fun _ _ _ h => h) (Or.inl ⟨by rfl, ?_⟩) (by assumption) ?_; rotate_left; focus (intro w hSw; (try dsimp only at hSw); go_simp; all_goals (with_reducible rfl))); (try simp only [Act.put, List.setIfInBounds_toArray, List.set_cons_zero, List.set_cons_succ, List.getElem_toArray, List.getElem_cons_succ, List.getElem_cons_zero])
        (refine wpAnyH_take (i := 8) rfl (by kernel_rfl) (by kernel_rfl) (by kernel_rfl) (fun _ _ _ h => h) ((yieldsIf_load1 (by rfl) 22 _ rfl _ _ (by rfl) _ Tryz.underlying22 rfl _ (fun w h => h.2))) (by assumption) ?_); (try simp only [Act.put, List.setIfInBounds_toArray, List.set_cons_zero, List.set_cons_succ, List.getElem_toArray, List.getElem_cons_succ, List.getElem_cons_zero])
        have HT2 := Lib.hid (show 2 * X.turn < 18446744073709551616 by have := HT.out; omega)
        (refine wpAnyH_ready (rs := [6]) (by kernel_rfl) (by simp) (AllReadyH.cons rfl (fun K hK => ?_) AllReadyH.nil)); (rw [if_pos (by rfl)]); (go_simp; go_at_call 111; (refine (put_at _ [] (2 * (X.turn : Int)) 8 (2 * X.turn) 8 8 _ (.inl ⟨rfl, rfl⟩) (by omega) rfl rfl (by simp) (by omega) (by omega) HT2.out).mono ?_); rintro e W1 ⟨g1, cap1, junk1, rfl, hl1, hc1, hj1, hm1, hg1, hb1, hbl⟩; replace H := H.add (Fix.of_below hbl _) (blk g1 _) hb1 (fun k hk => by rw [show k = g1 from hk]; exact hg1) (fun k hk => hk.elim); clear hb1 hbl; simp only [List.nil_append, List.cons_append] at H hl1 hj1; (try dsimp only); refine hK.out _ _ ⟨row_cell (H.at 0 rfl) (lRow4 _ _ _ _ _ _ _ _ _), row_cell (H.at 6 rfl) (pR1 _ _)⟩ (fun hHeld2 => ?_); clear hK K) ; (try simp only [Act.put, List.setIfInBounds_toArray, List.set_cons_zero, List.set_cons_succ, List.getElem_toArray, List.getElem_cons_succ, List.getElem_cons_zero])
        (refine wpAnyH_ready (rs := [9]) (by kernel_rfl) (by simp) (AllReadyH.cons rfl (fun K hK => ?_) AllReadyH.nil)); (rw [if_pos (by rfl)]); (refine wp_append_st H 7 _ _ 22 rfl _ Tryz.underlying22 _ _ info_u8 rfl g1 8 cap1 (by rfl) _ rfl hc1 hj1 hm1 _ 248 capv (by rfl) (byteV bs) (by rw [byteV_length]; exact HBL.out) (HNW.out _ (H.at 5 rfl)) (byteV_one _) (by simp only [maxLen]; omega) (by omega) ?_; clear H; intro W2 g2 cap2 junk2 H hj2 hc2 hm2; simp only [List.set_cons_zero, List.set_cons_succ] at H; rw [take_byteV _ _ _ hl1] at H hj2; rw [show byteV (Lib.leBytes 8 (2 * X.turn)) ++ byteV bs = byteV (Lib.leBytes 8 (2 * X.turn) ++ bs) by simp [byteV]] at H hj2; refine hK.out _ _ ⟨row_cell (H.at 0 rfl) (lRow4 _ _ _ _ _ _ _ _ _), row_cell (H.at 6 rfl) (pR1 _ _)⟩ (fun hHeld3 => ?_); clear hK K) ; (try simp only [Act.put, List.setIfInBounds_toArray, List.set_cons_zero, List.set_cons_succ, List.getElem_toArray, List.getElem_cons_succ, List.getElem_cons_zero])
        (refine wpAnyH_take (i := 10) (v := ?_) rfl (by kernel_rfl) (by kernel_rfl) (by kernel_rfl) (fun _ _ _ h => h) (Or.inl ⟨by rfl, ?_⟩) (by assumption) ?_; rotate_left; focus (intro w hSw; (try dsimp only at hSw); go_simp; all_goals (with_reducible rfl))); (try simp only [Act.put, List.setIfInBounds_toArray, List.set_cons_zero, List.set_cons_succ, List.getElem_toArray, List.getElem_cons_succ, List.getElem_cons_zero])
        (refine wpAnyH_done (by kernel_rfl) ?_ _)
        clear hHeld hHeld2 hHeld3
        have HL2 := Lib.hid (show (Lib.leBytes 8 (2 * X.turn) ++ bs).length = 256 by rw [List.length_append, Lib.leBytes_length, HBL.out])
        have HQ := Lib.hid (show (X.place + 1 + j) % X.ring < X.ring from Nat.mod_lt _ (by have := HF.out.r1; omega))
        obtain ⟨q, hq⟩ : ∃ q, (X.place + 1 + j) % X.ring = q := ⟨_, rfl⟩
        have HE := Lib.hid hq
        rw [hq] at HQ
        clear hq
        go_wp2_with (first
          | (refine wpList_load1_st rfl 3 _ rfl _ _ rfl _ _ _ (H.at 0 rfl) _ Tryz.underlying3 rfl _ (lRow5 _ _ _ _ _ _ _ _ _) ?_)
          | (go_at_call 144; go_loud ((refine (at_calls (g := g) (gd := gd) (gm := gm) (X := X) (M := M) (rm := rm) (n := n) (D := D1) (own := own2) (rd := rd2) (H.take 4).bundle _ (X.place + 1 + j) (by omega) (by have := HF.out.r1; omega) HF.out.r2).mono ?_); rintro e W' ⟨rfl, rfl⟩; rw [HE.out]))
          | (go_at_call 143; go_loud ((refine (lwrite_ok (g := g) (gd := gd) (gm := gm) (X := X) (M := M) (rm := rm) (n := n) (D := D1) (own := own2) (rd := rd2) (H.take 4).bundle HO.out.calm (by have := HU.out; have := HJ.out; omega) _ (2 + q) (by omega) (by have := HQ.out; have := HF.out.fits; omega) _ (Lib.leBytes 8 (2 * X.turn) ++ bs) (argB_front (H.at 7 rfl) (St.notownL (Ls := logL g gd gm X M rm n D1 own2 rd2) (R := [rdA _ _, putsA _ _, blk g9 _, blk g2 _]) H 3 rfl) HL2.out hc2 (by omega)) HL2.out).mono ?_); rintro e W3 ⟨rfl, own3, rd3, hto⟩; replace H := (hto.front (R := [rdA _ _, putsA _ _, blk g9 _, blk g2 _]) H).take 6; clear hto)))
        go_roundw
        case rel => exact ⟨j + 1, D1.put (2 + q) (Lib.leBytes 8 (2 * X.turn) ++ bs), own3, rd3, congrArg _ (by omega), HLT.out, by have := HO.out.put (2 + q) (by have := HQ.out; omega) (Lib.leBytes 8 (2 * X.turn) ++ bs); exact this, H⟩
        case measure => have := HLT.out; simp [intOf]; omega
      · obtain rfl : j = ps.length := by omega
        have hji : ¬ ((ps.length : Int) < (ps.length : Int)) := by omega
        have tok1 : True := trivial
        have tok2 : True := trivial
        have e1 := Lib.hid (show 2 + X.place % X.ring = 2 + X.place by rw [Nat.mod_eq_of_lt HF.out.place])
        go_upto_block 2 with (first
          | (go_at_call 145; have _t := tok1; clear _t; go_loud ((refine (lflush_ok (g := g) (gd := gd) (gm := gm) (X := X) (M := M) (rm := rm) (n := n) (D := D1) (own := own2) (rd := rd2) (H.take 4).bundle HO.out.calm).mono ?_); rintro e W3 ⟨rfl, own3, rd3, hto⟩; replace H := hto.front (R := [rdA p (putV ps), putsA rp ps]) H; clear hto tok1; have HO2 := Lib.hid HO.out.flushed; clear HO; obtain ⟨D2, hD2⟩ : ∃ D2, D1.flushed = D2 := ⟨_, rfl⟩; rw [hD2] at H HO2; clear hD2))
          | (refine wpList_load1_st rfl 3 _ rfl _ _ rfl _ _ _ (H.at 0 rfl) _ Tryz.underlying3 rfl _ (lRow5 _ _ _ _ _ _ _ _ _) ?_)
          | (go_at_call 144; go_loud ((refine (at_calls (g := g) (gd := gd) (gm := gm) (X := X) (M := M) (rm := rm) (n := n) (D := D2) (own := own3) (rd := rd3) (H.take 4).bundle _ X.place rfl (by have := HF.out.r1; omega) HF.out.r2).mono ?_); rintro e W' ⟨rfl, rfl⟩; rw [e1.out]))
          | (go_at_call 146; go_loud ((refine (markOf_ok (g := g) (gd := gd) (gm := gm) (X := X) (M := M) (rm := rm) (n := n) (D := D2) (own := own3) (rd := rd3) (p := p) (cap := cap) (ps := ps) (rp := rp) H.bundle (HF.out.off HO2.out) HG.out (by have := HT.out; omega)).mono ?_); rintro e W3 ⟨gk, capk, lk, junkk, rfl, hlk, hck, hto⟩; replace H := hto.front2 (R := []) H; clear hto; simp only [List.append_nil] at H))
          | (go_at_call 143; go_loud ((refine (lwrite_ok (g := g) (gd := gd) (gm := gm) (X := X) (M := M) (rm := rm) (n := n) (D := D2) (own := own3) (rd := rd3) (H.take 4).bundle HO2.out.calm (by have := HU.out; have := HG.out.most; omega) _ (2 + X.place) rfl HP.out.2 _ lk (argB_front (H.at 6 rfl) (St.notownL (Ls := logL g gd gm X M rm n D2 own3 rd3) (R := [rdA p (putV ps), putsA rp ps, blk gk _]) H 2 rfl) hlk hck (by omega)) hlk).mono ?_); rintro e W3 ⟨rfl, own4, rd4, hto⟩; replace H := (hto.front (R := [rdA p (putV ps), putsA rp ps, blk gk _]) H).take 6; clear hto; have HO3 := Lib.hid (HO2.out.put (2 + X.place) HP.out.1 lk); obtain ⟨D3, hD3⟩ : ∃ D3, D2.put (2 + X.place) lk = D3 := ⟨_, rfl⟩; rw [hD3] at H HO3; clear hD3; replace H : St O R w _ (logL g gd gm X M rm n D3 own4 rd4 ++ [rdA p (putV ps), putsA rp ps]) := H))
          | (go_at_call 145; have _t := tok2; clear _t; go_loud ((refine (lflush_ok (g := g) (gd := gd) (gm := gm) (X := X) (M := M) (rm := rm) (n := n) (D := D3) (own := own4) (rd := rd4) (H.take 4).bundle HO3.out.calm).mono ?_); rintro e W3 ⟨rfl, own5, rd5, hto⟩; replace H := hto.front (R := [rdA p (putV ps), putsA rp ps]) H; clear hto tok2; have HO4 := Lib.hid HO3.out.flushed; obtain ⟨D4, hD4⟩ : ∃ D4, D3.flushed = D4 := ⟨_, rfl⟩; rw [hD4] at H HO4; clear hD4)))
        go_wp2
        go_loopw [123, 16] (fun i _ wr => ∃ (j : Nat) (M1 : DataW Value) (rm1 : Nat → Prop), i = .int .i64 (j : Int) ∧ j ≤ ps.length ∧
            St O R w wr (logL g gd gm (X.took ps j) M1 rm1 n D4 own5 rd5 ++ [rdA p (putV ps), putsA rp ps])) (fun i _ _ => ps.length - (intOf i).toNat)
        case atStart => exact ⟨0, M, rm, rfl, Nat.zero_le _, H⟩
        case round =>
          clear H
          obtain ⟨j, M1, rm1, rfl, hj, H⟩ := hrel
          rcases Nat.lt_or_ge j ps.length with hlt | hge2
          · obtain ⟨ga, offa, rfl, hcell0⟩ := rdA_at (H.at 4 rfl) (putV_at ps j hlt).1
            obtain ⟨ga', offa', e2, hcell1⟩ := rdA_at (H.at 4 rfl) (putV_at ps j hlt).2
            simp only [Option.some.injEq, Addr.mk.injEq] at e2
            obtain ⟨rfl, rfl, _⟩ := e2
            have hbl := HG.out.len _ (List.getElem_mem hlt)
            have hhn := HG.out.home _ (List.getElem_mem hlt)
            obtain ⟨gv, offv, capv, hval, hcv, hrv, hbv⟩ := (H.at 5 rfl : PutsIs _ rp ps).val j hlt hbl
            have HNW := Lib.hid (fun (W : World) (h : PutsIs W rp ps) => h.at_ j hlt hbl hval)
            have HTK := Lib.hid (took_succ X ps j hlt)
            rw [hval, ← Nat.add_assoc] at hcell1
            obtain ⟨h, hh⟩ : ∃ h, ps[j].home = h := ⟨_, rfl⟩
            obtain ⟨bs, hbs⟩ : ∃ bs, ps[j].bs = bs := ⟨_, rfl⟩
            rw [hh] at hcell0 hhn HTK
            rw [hbs] at HNW hbl HTK
            have hji : (j : Int) < (ps.length : Int) := by omega
            have hj0 : 0 ≤ (j : Int) := by omega
            have HBL := Lib.hid hbl
            have HHN := Lib.hid hhn
            have HLT := Lib.hid hlt
            clear hbv hval hcv hbl hh hbs hhn
            obtain ⟨X1, hX1⟩ : ∃ X1, X.took ps j = X1 := ⟨_, rfl⟩
            rw [hX1] at H HTK
            clear hX1
            go_wp2_with (first
              | (refine wpList_alloc_st H rfl 127 rfl _ zero_put ?_; clear H; intro W g9 H; rw [cells_put] at H; simp only [logL, List.nil_append, List.cons_append] at H)
              | (refine wpList_storerow_st H 6 rfl 127 _ _ rfl _ (pR (h : Int) (.slice (some ⟨gv, offv, none⟩) 248 capv)).toArray rfl rfl _ _ rfl size_put rfl (pR_all _ _ _ _) ?_; clear H; intro W H; simp only [List.set_cons_zero, List.set_cons_succ] at H))
            replace H := H.drew
            have HMp := Lib.hid (H.at 1 rfl : World.ownsMap _ Tryz.prog 3 RV gm (Go.Maps.size M1) M1).isMap
            refine wp_region_held_drew (S := fun w' => w'.cell? ⟨g, 8, none⟩ = some (.map (some gm)) ∧ w'.cell? ⟨g9, 0, none⟩ = some (.int .i64 (h : Int)) ∧ w'.cell? ⟨g9, 1, none⟩ = some (.slice (some ⟨gv, offv, none⟩) 248 capv)) (by kernel_rfl) ⟨row_cell (H.at 0 rfl) (lRow8 _ _ _ _ _ _ _ _ _), row_cell (H.at 6 rfl) (pR0 _ _), row_cell (H.at 6 rfl) (pR1 _ _)⟩ (fun hHeld => ?_)
            (refine wpAnyH_take (i := 0) (v := ?_) rfl (by kernel_rfl) (by kernel_rfl) (by kernel_rfl) (fun _ _ _ h => h) (Or.inl ⟨by rfl, ?_⟩) (by assumption) ?_; rotate_left; focus (intro w hSw; (try dsimp only at hSw); go_simp; all_goals (with_reducible rfl))); (try simp only [Act.put, List.setIfInBounds_toArray, List.set_cons_zero, List.set_cons_succ, List.getElem_toArray, List.getElem_cons_succ, List.getElem_cons_zero])
            (refine wpAnyH_take (i := 1) (v := ?_) rfl (by kernel_rfl) (by kernel_rfl) (by kernel_rfl) (fun _ _ _ h => h) (Or.inl ⟨by rfl, ?_⟩) (by assumption) ?_; rotate_left; focus (intro w hSw; (try dsimp only at hSw); go_simp; all_goals (with_reducible rfl))); (try simp only [Act.put, List.setIfInBounds_toArray, List.set_cons_zero, List.set_cons_succ, List.getElem_toArray, List.getElem_cons_succ, List.getElem_cons_zero])
            (refine wpAnyH_take (i := 2) (v := ?_) rfl (by kernel_rfl) (by kernel_rfl) (by kernel_rfl) (fun _ _ _ h => h) (Or.inl ⟨by rfl, ?_⟩) (by assumption) ?_; rotate_left; focus (intro w hSw; (try dsimp only at hSw); go_simp; all_goals (with_reducible rfl))); (try simp only [Act.put, List.setIfInBounds_toArray, List.set_cons_zero, List.set_cons_succ, List.getElem_toArray, List.getElem_cons_succ, List.getElem_cons_zero])
            (refine wpAnyH_take (i := 3) rfl (by kernel_rfl) (by kernel_rfl) (by kernel_rfl) (fun _ _ _ h => h) ((yieldsIf_load1 (by rfl) 110 _ rfl _ _ (by rfl) _ Tryz.underlying110 rfl _ (fun w h => h.1))) (by assumption) ?_); (try simp only [Act.put, List.setIfInBounds_toArray, List.set_cons_zero, List.set_cons_succ, List.getElem_toArray, List.getElem_cons_succ, List.getElem_cons_zero])
            (refine wpAnyH_take (i := 4) (v := ?_) rfl (by kernel_rfl) (by kernel_rfl) (by kernel_rfl) (fun _ _ _ h => h) (Or.inl ⟨by rfl, ?_⟩) (by assumption) ?_; rotate_left; focus (intro w hSw; (try dsimp only at hSw); go_simp; all_goals (with_reducible rfl))); (try simp only [Act.put, List.setIfInBounds_toArray, List.set_cons_zero, List.set_cons_succ, List.getElem_toArray, List.getElem_cons_succ, List.getElem_cons_zero])
            (refine wpAnyH_take (i := 5) rfl (by kernel_rfl) (by kernel_rfl) (by kernel_rfl) (fun _ _ _ h => h) ((yieldsIf_load1 (by rfl) 3 _ rfl _ _ (by rfl) _ Tryz.underlying3 rfl _ (fun w h => h.2.1))) (by assumption) ?_); (try simp only [Act.put, List.setIfInBounds_toArray, List.set_cons_zero, List.set_cons_succ, List.getElem_toArray, List.getElem_cons_succ, List.getElem_cons_zero])
            (refine wpAnyH_take (i := 6) (v := ?_) rfl (by kernel_rfl) (by kernel_rfl) (by kernel_rfl) (fun _ _ _ h => h) (Or.inl ⟨by rfl, ?_⟩) (by assumption) ?_; rotate_left; focus (intro w hSw; (try dsimp only at hSw); go_simp; all_goals (with_reducible rfl))); (try simp only [Act.put, List.setIfInBounds_toArray, List.set_cons_zero, List.set_cons_succ, List.getElem_toArray, List.getElem_cons_succ, List.getElem_cons_zero])
            (refine wpAnyH_take (i := 7) rfl (by kernel_rfl) (by kernel_rfl) (by kernel_rfl) (fun _ _ _ h => h) ((yieldsIf_load1 (by rfl) 22 _ rfl _ _ (by rfl) _ Tryz.underlying22 rfl _ (fun w h => h.2.2))) (by assumption) ?_); (try simp only [Act.put, List.setIfInBounds_toArray, List.set_cons_zero, List.set_cons_succ, List.getElem_toArray, List.getElem_cons_succ, List.getElem_cons_zero])
            (refine wpAnyH_ready (rs := [8]) (by kernel_rfl) (by simp) (AllReadyH.cons rfl (fun K hK => ?_) AllReadyH.nil)); (rw [if_pos (by rfl)]); (go_simp; go_at_call 63; (refine (clone_n (HNW.out _ (H.at 5 rfl)).1 HBL.out (by omega) (HNW.out _ (H.at 5 rfl)).2).mono ?_); rintro e W1 ⟨gc, capc, junkc, rfl, hcc, hgc, hbc, hbl⟩; replace H := H.add (Fix.of_below hbl _) (blk gc _) hbc (fun k hk => by rw [show k = gc from hk]; exact hgc) (fun k hk => hk.elim); clear hbc hbl; simp only [List.nil_append, List.cons_append] at H; (try dsimp only); refine hK.out _ _ ⟨row_cell (H.at 0 rfl) (lRow8 _ _ _ _ _ _ _ _ _), row_cell (H.at 6 rfl) (pR0 _ _), row_cell (H.at 6 rfl) (pR1 _ _)⟩ (fun hHeld2 => ?_); clear hK K) ; (try simp only [Act.put, List.setIfInBounds_toArray, List.set_cons_zero, List.set_cons_succ, List.getElem_toArray, List.getElem_cons_succ, List.getElem_cons_zero])
            (refine wpAnyH_ready (rs := [9]) (by kernel_rfl) (by simp) (AllReadyH.cons rfl (fun K hK => ?_) AllReadyH.nil)); (rw [if_pos (by rfl)]); (obtain ⟨W3, hrun, H3⟩ := H.mapStore 1 rfl (by have := (H.at 2 rfl : MapIs _ rm1 M1 X1.m n 248).size_le (H.at 1 rfl); have := HF.out.fits; have := HF.out.top; omega) h (by have := HHN.out; have := HF.out.fits; have := HF.out.top; omega) (.slice (some ⟨gc, 0, none⟩) 248 capc); refine wp_mapupdate_run 110 _ _ _ rfl _ _ _ (by rfl) (by rfl) (by rfl) hrun ?_; simp only [List.set_cons_zero, List.set_cons_succ] at H3; refine hK.out _ _ ⟨row_cell (H3.at 0 rfl) (lRow8 _ _ _ _ _ _ _ _ _), row_cell (H3.at 6 rfl) (pR0 _ _), row_cell (H3.at 6 rfl) (pR1 _ _)⟩ (fun hHeld3 => ?_); clear hK K hrun) ; (try simp only [Act.put, List.setIfInBounds_toArray, List.set_cons_zero, List.set_cons_succ, List.getElem_toArray, List.getElem_cons_succ, List.getElem_cons_zero])
            (refine wpAnyH_done (by kernel_rfl) ?_ _)
            clear hHeld hHeld2 hHeld3 H
            have J := H3.join 7 2 (A' := mapIsA (fun k => rm1 k ∨ k = gc) (M1.put (keyI h) (.held (.slice (some ⟨gc, 0, none⟩) 248 capc))) (fun k => if k = h then some bs else X1.m k) n 248) rfl rfl
              ((H3.at 2 rfl : MapIs _ rm1 M1 X1.m n 248).put HMp.out (fun k hk => .inl hk) (fun k hk => by
                rcases hk with hk | rfl
                · exact (H3.at 2 rfl : MapIs _ rm1 M1 X1.m n 248).lt k hk
                · exact (Array.getElem?_eq_some_iff.1 (H3.at 7 rfl : _ = some _)).1) HBL.out (.inr ⟨gc, 0, capc, by rw [HBL.out], by rw [HBL.out]; exact hcc, .inr (.inr rfl), BytesAt.front (H3.at 7 rfl)⟩) h HHN.out) (fun k hk => hk.elim) (fun k hk => by
                rcases hk with hk | rfl
                · exact .inl (.inr hk)
                · exact .inr (.inl rfl))
            clear H3
            have H := J.take 6
            clear J
            replace H : St O R w _ (logL g gd gm { X1 with m := fun k => if k = h then some bs else X1.m k } (M1.put (keyI h) (.held (.slice (some ⟨gc, 0, none⟩) 248 capc))) (fun k => rm1 k ∨ k = gc) n D4 own5 rd5 ++ [rdA _ (putV ps), putsA rp ps]) := H
            rw [← HTK.out] at H
            go_wp2
            go_roundw
            case rel => exact ⟨j + 1, _, _, congrArg _ (by omega), HLT.out, H⟩
            case measure => have := HLT.out; simp [intOf]; omega
          · obtain rfl : j = ps.length := by omega
            have hji2 : ¬ ((ps.length : Int) < (ps.length : Int)) := by omega
            have et : X.took ps ps.length = { X with m := putM X.m ps } := by unfold LS.took; rw [List.take_length]
            rw [et] at H
            clear et
            replace H : St O R w _ [blk g (.cells (lRow (.pointer (some ⟨gd, 0, none⟩)) X.lives false X.s X.turn X.place X.ring X.free (.map (some gm))).toArray 132 (0, 0)), mapA gm (Go.Maps.size M1) M1, mapIsA rm1 M1 (putM X.m ps) n 248, dA gd D4 own5 rd5, rdA p (putV ps), putsA rp ps] := H
            go_upto_region 36 with (first
              | (refine wpList_load1_st rfl 104 _ rfl _ _ rfl _ _ _ (H.at 0 rfl) _ Tryz.underlying104 rfl _ (lRow4 _ _ _ _ _ _ _ _ _) ?_)
              | (refine wpList_store1_st H 0 rfl 104 _ _ rfl _ _ (.int .u64 ((X.turn : Int) + 1)) rfl rfl rfl _ _ rfl rfl (by simp [lRow]) ?_; clear H; intro W H; (try simp only [logL, List.set_cons_zero, List.set_cons_succ] at H); (try simp only [lSet2, lSet3, lSet4, lSet5, lSet6, lSet7, lSet8] at H)))
            obtain ⟨q, hq⟩ : ∃ q, (X.place + 1 + ps.length) % X.ring = q := ⟨_, rfl⟩
            have HQ := Lib.hid hq
            have hpl : X.place < 512 := by have := HF.out.place; have := HF.out.r2; omega
            have hr0 : ((X.ring : Int) == 0) = false := beq_eq_false_iff_ne.2 (by have := HF.out.r1; omega)
            have hr1 : ¬ ((X.ring : Int) = 0) := by have := HF.out.r1; omega
            have hr2 : X.ring ≠ 0 := by have := HF.out.r1; omega
            have hw1 : IntKind.i64.wrap ((X.place : Int) + 1) = (X.place : Int) + 1 := by rw [IntKind.wrap_i64]; omega
            have hw2 : IntKind.i64.wrap ((X.place : Int) + 1 + (ps.length : Int)) = (X.place : Int) + 1 + (ps.length : Int) := by rw [IntKind.wrap_i64]; omega
            have hqt : ((X.place : Int) + 1 + (ps.length : Int)).tmod (X.ring : Int) = (q : Int) := by rw [Int.tmod_eq_emod_of_nonneg (by omega), ← hq]; rfl
            clear hq
            (try simp only [Act.put])
            replace H := H.drew
            refine wp_region_held_drew (S := fun w' => w'.cell? ⟨g, 6, none⟩ = some (.int .i64 (X.ring : Int))) (by kernel_rfl) (row_cell (H.at 0 rfl) (lRow6 _ _ _ _ _ _ _ _ _)) (fun hHeld => ?_)
            (refine wpAnyH_take (i := 0) (v := ?_) rfl (by kernel_rfl) (by kernel_rfl) (by kernel_rfl) (fun _ _ _ h => h) (Or.inl ⟨by rfl, ?_⟩) (by assumption) ?_; rotate_left; focus (intro w hSw; (try dsimp only at hSw); go_simp; all_goals (with_reducible rfl))); (try simp only [Act.put, List.setIfInBounds_toArray, List.set_cons_zero, List.set_cons_succ, List.getElem_toArray, List.getElem_cons_succ, List.getElem_cons_zero])
            (refine wpAnyH_take (i := 1) (v := ?_) rfl (by kernel_rfl) (by kernel_rfl) (by kernel_rfl) (fun _ _ _ h => h) (Or.inl ⟨by rfl, ?_⟩) (by assumption) ?_; rotate_left; focus (intro w hSw; (try dsimp only at hSw); go_simp; all_goals (with_reducible rfl))); (try simp only [Act.put, List.setIfInBounds_toArray, List.set_cons_zero, List.set_cons_succ, List.getElem_toArray, List.getElem_cons_succ, List.getElem_cons_zero])
            (refine wpAnyH_take (i := 2) (v := ?_) rfl (by kernel_rfl) (by kernel_rfl) (by kernel_rfl) (fun _ _ _ h => h) (Or.inl ⟨by rfl, ?_⟩) (by assumption) ?_; rotate_left; focus (intro w hSw; (try dsimp only at hSw); go_simp; all_goals (with_reducible rfl))); (try simp only [Act.put, List.setIfInBounds_toArray, List.set_cons_zero, List.set_cons_succ, List.getElem_toArray, List.getElem_cons_succ, List.getElem_cons_zero])
            (refine wpAnyH_take (i := 3) (v := ?_) rfl (by kernel_rfl) (by kernel_rfl) (by kernel_rfl) (fun _ _ _ h => h) (Or.inl ⟨by rfl, ?_⟩) (by assumption) ?_; rotate_left; focus (intro w hSw; (try dsimp only at hSw); go_simp; all_goals (with_reducible rfl))); (try simp only [Act.put, List.setIfInBounds_toArray, List.set_cons_zero, List.set_cons_succ, List.getElem_toArray, List.getElem_cons_succ, List.getElem_cons_zero])
            (refine wpAnyH_take (i := 4) (v := ?_) rfl (by kernel_rfl) (by kernel_rfl) (by kernel_rfl) (fun _ _ _ h => h) (Or.inl ⟨by rfl, ?_⟩) (by assumption) ?_; rotate_left; focus (intro w hSw; (try dsimp only at hSw); go_simp; all_goals (with_reducible rfl))); (try simp only [Act.put, List.setIfInBounds_toArray, List.set_cons_zero, List.set_cons_succ, List.getElem_toArray, List.getElem_cons_succ, List.getElem_cons_zero])
            (refine wpAnyH_take (i := 7) (v := ?_) rfl (by kernel_rfl) (by kernel_rfl) (by kernel_rfl) (fun _ _ _ h => h) (Or.inl ⟨by rfl, ?_⟩) (by assumption) ?_; rotate_left; focus (intro w hSw; (try dsimp only at hSw); go_simp; all_goals (with_reducible rfl))); (try simp only [Act.put, List.setIfInBounds_toArray, List.set_cons_zero, List.set_cons_succ, List.getElem_toArray, List.getElem_cons_succ, List.getElem_cons_zero])
            (refine wpAnyH_take (i := 8) (v := ?_) rfl (by kernel_rfl) (by kernel_rfl) (by kernel_rfl) (fun _ _ _ h => h) (Or.inl ⟨by rfl, ?_⟩) (by assumption) ?_; rotate_left; focus (intro w hSw; (try dsimp only at hSw); go_simp; all_goals (with_reducible rfl))); (try simp only [Act.put, List.setIfInBounds_toArray, List.set_cons_zero, List.set_cons_succ, List.getElem_toArray, List.getElem_cons_succ, List.getElem_cons_zero])
            (refine wpAnyH_take (i := 10) (v := ?_) rfl (by kernel_rfl) (by kernel_rfl) (by kernel_rfl) (fun _ _ _ h => h) (Or.inl ⟨by rfl, ?_⟩) (by assumption) ?_; rotate_left; focus (intro w hSw; (try dsimp only at hSw); go_simp; all_goals (with_reducible rfl))); (try simp only [Act.put, List.setIfInBounds_toArray, List.set_cons_zero, List.set_cons_succ, List.getElem_toArray, List.getElem_cons_succ, List.getElem_cons_zero])
            (refine wpAnyH_take (i := 11) (v := ?_) rfl (by kernel_rfl) (by kernel_rfl) (by kernel_rfl) (fun _ _ _ h => h) (Or.inl ⟨by rfl, ?_⟩) (by assumption) ?_; rotate_left; focus (intro w hSw; (try dsimp only at hSw); go_simp; all_goals (with_reducible rfl))); (try simp only [Act.put, List.setIfInBounds_toArray, List.set_cons_zero, List.set_cons_succ, List.getElem_toArray, List.getElem_cons_succ, List.getElem_cons_zero])
            (refine wpAnyH_take (i := 12) (v := ?_) rfl (by kernel_rfl) (by kernel_rfl) (by kernel_rfl) (fun _ _ _ h => h) (Or.inl ⟨by rfl, ?_⟩) (by assumption) ?_; rotate_left; focus (intro w hSw; (try dsimp only at hSw); go_simp; all_goals (with_reducible rfl))); (try simp only [Act.put, List.setIfInBounds_toArray, List.set_cons_zero, List.set_cons_succ, List.getElem_toArray, List.getElem_cons_succ, List.getElem_cons_zero])
            (refine wpAnyH_take (i := 13) (v := ?_) rfl (by kernel_rfl) (by kernel_rfl) (by kernel_rfl) (fun _ _ _ h => h) (Or.inl ⟨by rfl, ?_⟩) (by assumption) ?_; rotate_left; focus (intro w hSw; (try dsimp only at hSw); go_simp; all_goals (with_reducible rfl))); (try simp only [Act.put, List.setIfInBounds_toArray, List.set_cons_zero, List.set_cons_succ, List.getElem_toArray, List.getElem_cons_succ, List.getElem_cons_zero])
            (refine wpAnyH_take (i := 14) rfl (by kernel_rfl) (by kernel_rfl) (by kernel_rfl) (fun _ _ _ h => h) ((yieldsIf_load1 (by rfl) 3 _ rfl _ _ (by rfl) _ Tryz.underlying3 rfl _ (fun w h => h))) (by assumption) ?_); (try simp only [Act.put, List.setIfInBounds_toArray, List.set_cons_zero, List.set_cons_succ, List.getElem_toArray, List.getElem_cons_succ, List.getElem_cons_zero])
            (refine wpAnyH_ready (rs := [5]) (by kernel_rfl) (by simp) (AllReadyH.cons rfl (fun K hK => ?_) AllReadyH.nil)); (rw [if_pos (by rfl)]); (refine wp_load1 3 _ rfl g 5 (by rfl) _ Tryz.underlying3 rfl _ (row_cell (H.at 0 rfl) (lRow5 _ _ _ _ _ _ _ _ _)) ?_; refine hK.out _ _ (row_cell (H.at 0 rfl) (lRow6 _ _ _ _ _ _ _ _ _)) (fun hHeld2 => ?_); clear hK K) ; (try simp only [Act.put, List.setIfInBounds_toArray, List.set_cons_zero, List.set_cons_succ, List.getElem_toArray, List.getElem_cons_succ, List.getElem_cons_zero])
            (refine wpAnyH_take (i := 6) (v := ?_) rfl (by kernel_rfl) (by kernel_rfl) (by kernel_rfl) (fun _ _ _ h => h) (Or.inl ⟨by rfl, ?_⟩) (by assumption) ?_; rotate_left; focus (intro w hSw; (try dsimp only at hSw); go_simp; all_goals (with_reducible rfl))); (try simp only [Act.put, List.setIfInBounds_toArray, List.set_cons_zero, List.set_cons_succ, List.getElem_toArray, List.getElem_cons_succ, List.getElem_cons_zero])
            (refine wpAnyH_take (i := 9) (v := ?_) rfl (by kernel_rfl) (by kernel_rfl) (by kernel_rfl) (fun _ _ _ h => h) (Or.inl ⟨by rfl, ?_⟩) (by assumption) ?_; rotate_left; focus (intro w hSw; (try dsimp only at hSw); go_simp; all_goals (with_reducible rfl))); (try simp only [Act.put, List.setIfInBounds_toArray, List.set_cons_zero, List.set_cons_succ, List.getElem_toArray, List.getElem_cons_succ, List.getElem_cons_zero])
            (refine wpAnyH_take (i := 15) (v := ?_) rfl (by kernel_rfl) (by kernel_rfl) (by kernel_rfl) (fun _ _ _ h => h) (Or.inl ⟨by rfl, ?_⟩) (by assumption) ?_; rotate_left; focus (intro w hSw; (try dsimp only at hSw); go_simp; all_goals (with_reducible rfl))); (try simp only [Act.put, List.setIfInBounds_toArray, List.set_cons_zero, List.set_cons_succ, List.getElem_toArray, List.getElem_cons_succ, List.getElem_cons_zero])
            (refine wpAnyH_take (i := 16) (v := ?_) rfl (by kernel_rfl) (by kernel_rfl) (by kernel_rfl) (fun _ _ _ h => h) (Or.inl ⟨by rfl, ?_⟩) (by assumption) ?_; rotate_left; focus (intro w hSw; (try dsimp only at hSw); go_simp; all_goals (with_reducible rfl))); (try simp only [Act.put, List.setIfInBounds_toArray, List.set_cons_zero, List.set_cons_succ, List.getElem_toArray, List.getElem_cons_succ, List.getElem_cons_zero])
            (refine wpAnyH_take (i := 17) (v := ?_) rfl (by kernel_rfl) (by kernel_rfl) (by kernel_rfl) (fun _ _ _ h => h) (Or.inl ⟨by rfl, ?_⟩) (by assumption) ?_; rotate_left; focus (intro w hSw; (try dsimp only at hSw); go_simp; all_goals (with_reducible rfl))); (try simp only [Act.put, List.setIfInBounds_toArray, List.set_cons_zero, List.set_cons_succ, List.getElem_toArray, List.getElem_cons_succ, List.getElem_cons_zero])
            (refine wpAnyH_take (i := 18) (v := ?_) rfl (by kernel_rfl) (by kernel_rfl) (by kernel_rfl) (fun _ _ _ h => h) (Or.inl ⟨by rfl, ?_⟩) (by assumption) ?_; rotate_left; focus (intro w hSw; (try dsimp only at hSw); go_simp; all_goals (with_reducible rfl))); (try simp only [Act.put, List.setIfInBounds_toArray, List.set_cons_zero, List.set_cons_succ, List.getElem_toArray, List.getElem_cons_succ, List.getElem_cons_zero])
            (refine wpAnyH_ready (rs := [19]) (by kernel_rfl) (by simp) (AllReadyH.cons rfl (fun K hK => ?_) AllReadyH.nil)); (rw [if_pos (by rfl)]); (refine wp_store1_st H 0 3 _ _ rfl g 5 (.int .i64 (q : Int)) (by rfl) (by rfl) rfl _ _ rfl rfl (by simp [lRow]) ?_; clear H; intro W H; simp only [List.set_cons_zero, lSet5] at H; refine hK.out _ _ (row_cell (H.at 0 rfl) (lRow6 _ _ _ _ _ _ _ _ _)) (fun hHeld3 => ?_); clear hK K) ; (try simp only [Act.put, List.setIfInBounds_toArray, List.set_cons_zero, List.set_cons_succ, List.getElem_toArray, List.getElem_cons_succ, List.getElem_cons_zero])
            (refine wpAnyH_done (by kernel_rfl) ?_ _)
            clear hHeld hHeld2 hHeld3 hw1 hw2 hqt hr0 hr1 hr2
            have hfr0 : 0 ≤ X.free := HF.out.free.1
            have hfr1 : X.free ≤ 512 := by have := HF.out.free.2; have := HF.out.r2; omega
            go_wp2_with (first
              | (refine wpList_load1_st rfl 3 _ rfl _ _ rfl _ _ _ (H.at 0 rfl) _ Tryz.underlying3 rfl _ (lRow7 _ _ _ _ _ _ _ _ _) ?_)
              | (refine wpList_store1_st H 0 rfl 3 _ _ rfl _ _ (.int .i64 (X.free - ((ps.length : Int) + 1))) rfl rfl rfl _ _ rfl rfl (by simp [lRow]) ?_; clear H; intro W H; (try simp only [logL, List.set_cons_zero, List.set_cons_succ] at H); (try simp only [lSet2, lSet3, lSet4, lSet5, lSet6, lSet7, lSet8] at H)))
            go_ret
            have HX : St O R w W (logL g gd gm (X.done ps) M1 rm1 n D4 own5 rd5 ++ [rdA p (putV ps), putsA rp ps]) := by
              have e1 : ((X.done ps).turn : Int) = (X.turn : Int) + 1 := by show ((X.turn + 1 : Nat) : Int) = _; omega
              have e2 : ((X.done ps).place : Int) = (q : Int) := by show (((X.place + 1 + ps.length) % X.ring : Nat) : Int) = _; rw [HQ.out]
              have e3 : (X.done ps).free = X.free - ((ps.length : Int) + 1) := by show X.free - ((ps.length + 1 : Nat) : Int) = _; omega
              unfold logL
              rw [e1, e2, e3]
              exact H
            rw [HXE.out, HDE.out]
            exact ⟨rfl, gm, M1, rm1, D4, own5, rd5, u + 1 + ps.length + 1, by have := HG.out.most; have := HU9.out; omega, by rw [← HR9.out]; exact HO4.out, HX.bunTo⟩

end Go.Proofs.YtlgciddnpinpbaaGreatDoor

namespace Go.Proofs.YtlgciddnpinpbaaGreatDoor
open Go.RowKit
set_option linter.unusedSimpArgs false
set_option linter.unusedVariables false
set_option maxRecDepth 4000

/-- A log in memory: all that its assertions name. -/
structure LogT where
  gd : Nat
  gm : Nat
  M : DataW Value
  rm : Nat → Prop
  own : Nat → Prop
  rd : Nat → Prop
  X : LS
  D : DS
  n : Nat
  N : Nat
  u : Nat
def LogT.L (t : LogT) (g : Nat) : List Asrt := logL g t.gd t.gm t.X t.M t.rm t.n t.D t.own t.rd

/-- What a home holds. -/
def homOf (X : LS) (D : DS) (k : Nat) : List UInt8 := (X.m k).getD ((D.sect (2 + X.ring + k)).drop 8)
def LogT.hom (t : LogT) (k : Nat) : List UInt8 := homOf t.X t.D k

/-- It is fine, behind c commits at most. -/
structure LogT.Ok (t : LogT) (c : Nat) : Prop where
  fine : LogFine t.X t.n t.D t.N t.u
  turn : t.X.turn ≤ c + 1
  s : t.X.s ≤ c + 1
  u : t.u ≤ 4000 + 2200 * c

theorem LogT.Ok.mono {t : LogT} {c c' : Nat} (h : t.Ok c) (hc : c ≤ c') : t.Ok c' := ⟨h.fine, by have := h.turn; omega, by have := h.s; omega, by have := h.u; omega⟩

/-- What the homes are behind a group. -/
def putH (f : Nat → List UInt8) : List PutS → Nat → List UInt8
  | [] => f
  | x :: ps => putH (fun k => if k = x.home then x.bs else f k) ps

theorem putH_of_putM (dd : Nat → List UInt8) : ∀ (ps : List PutS) (m : Nat → Option (List UInt8)) (f : Nat → List UInt8), (∀ k, (m k).getD (dd k) = f k) → ∀ k, (putM m ps k).getD (dd k) = putH f ps k
  | [], m, f, h, k => h k
  | x :: ps, m, f, h, k => putH_of_putM dd ps _ _ (fun j => by
      by_cases e : j = x.home
      · simp [e]
      · simp [e, h j]) k

theorem putH_congr {n : Nat} : ∀ (ps : List PutS) (f f' : Nat → List UInt8), (∀ k, k < n → f k = f' k) → ∀ k, k < n → putH f ps k = putH f' ps k
  | [], f, f', h, k, hk => h k hk
  | x :: ps, f, f', h, k, hk => putH_congr ps _ _ (fun j hj => by
      by_cases e : j = x.home
      · simp [e]
      · simp [e, h j hj]) k hk

theorem homOf_settled {X : LS} {n : Nat} {D : DS} {N u : Nat} (h : LogFine X n D N u) (k : Nat) (hk : k < n) : homOf X.settled (X.settleD n D) k = homOf X D k := by
  have h1 := settle_sect (X := X) (n := n) h.calm (2 + X.ring + k) (by have := h.fits; omega)
  show ((fun _ => none : Nat → Option (List UInt8)) k).getD (((X.settleD n D).sect (2 + X.ring + k)).drop 8) = _
  rw [h1, if_neg (by omega), Nat.add_sub_cancel_left]
  unfold homOf
  cases hm : X.m k with
  | none =>
    have hno : ¬ (2 + X.ring ≤ 2 + X.ring + k ∧ k ∈ X.keys n) := by
      rintro ⟨_, h2⟩
      have := (List.mem_filter.1 h2).2
      rw [hm] at this; cases this
    rw [if_neg hno]
  | some l =>
    rw [if_pos ⟨by omega, List.mem_filter.2 ⟨List.mem_range.2 hk, by rw [hm]; rfl⟩⟩]
    simp [homeB]

theorem homOf_roomy {X : LS} {n : Nat} {D : DS} {N u : Nat} (h : LogFine X n D N u) (c k : Nat) (hk : k < n) : homOf (X.roomy c) (X.roomD n D c) k = homOf X D k := by
  unfold LS.roomy LS.roomD
  split
  · exact homOf_settled h k hk
  · rfl

theorem homOf_off {X X' : LS} {D D' : DS} {N u n : Nat} (hr : X'.ring = X.ring) (hm : X'.m = X.m) (h : Off D D' N X.ring u) (hn : n + 2 + X.ring = N) (k : Nat) (hk : k < n) : homOf X' D' k = homOf X D k := by
  unfold homOf
  rw [hr, hm, h.sect _ (by omega) (by omega)]

theorem roomy_ring (X : LS) (c : Nat) : (X.roomy c).ring = X.ring := by unfold LS.roomy; split <;> rfl
theorem roomy_turn (X : LS) (c : Nat) : (X.roomy c).turn = X.turn := by unfold LS.roomy; split <;> rfl
theorem roomy_s (X : LS) (c : Nat) : (X.roomy c).s ≤ X.s + 1 := by unfold LS.roomy; split <;> simp [LS.settled]

theorem roomy_free {X : LS} {n : Nat} {D : DS} {N u : Nat} (h : LogFine X n D N u) (c : Nat) (hc : c < X.ring) : ((c + 1 : Nat) : Int) ≤ (X.roomy c).free ∧ (X.roomy c).free ≤ (X.ring : Int) := by
  unfold LS.roomy
  split
  · exact ⟨by show ((c + 1 : Nat) : Int) ≤ (X.ring : Int); omega, Int.le_refl _⟩
  · exact ⟨by omega, h.free.2⟩

theorem putM_ne {x : PutS} {ps : List PutS} (m : Nat → Option (List UInt8)) (h : (putM m (x :: ps)) x.home = none) : False := by
  have key : ∀ (ps : List PutS) (m : Nat → Option (List UInt8)) (k : Nat), (m k).isSome = true → (putM m ps k).isSome = true := by
    intro ps
    induction ps with
    | nil => intro m k h; exact h
    | cons y ps ih =>
      intro m k h
      refine ih _ k ?_
      by_cases e : k = y.home
      · simp [e]
      · simp [e, h]
  have := key ps (fun k => if k = x.home then some x.bs else m k) x.home (by simp)
  rw [putM] at h
  rw [h] at this; cases this

/-- A log that is fine is fine behind a group. -/
theorem LogFine.done {X : LS} {n : Nat} {D D' : DS} {N u u' : Nat} (h : LogFine X n D N u) (ho : Off D D' N X.ring u') {ps : List PutS} (hps : 0 < ps.length) (hr : ((ps.length + 1 : Nat) : Int) ≤ X.free) : LogFine (X.done ps) n D' N u' :=
  ⟨ho.calm, h.fits, h.top, h.r1, h.r2, h.n1, by show (X.place + 1 + ps.length) % X.ring < X.ring; exact Nat.mod_lt _ (by have := h.r1; omega), h.lives.trans ho.lives.symm,
    fun hm => by
      cases ps with
      | nil => simp at hps
      | cons x ps => exact (putM_ne X.m (hm x.home)).elim,
    ⟨by show (0 : Int) ≤ X.free - ((ps.length + 1 : Nat) : Int); omega, by show X.free - ((ps.length + 1 : Nat) : Int) ≤ (X.ring : Int); have := h.free.2; omega⟩, by show 1 ≤ X.turn + 1; omega, h.s⟩

/-- Commit, of a group that may be. -/
theorem Commit_ok {w : World} {g : Nat} {t : LogT} {c : Nat} {p : Option Addr} {cap : Nat} {ps : List PutS} {rp : Nat → Prop}
    (hb : Bundle w (t.L g ++ [rdA p (putV ps), putsA rp ps])) (ht : t.Ok c) (hc : c < 400) (hg : Good ps t.n t.X.ring) (hps : 0 < ps.length) {k0 : Nat} (hk0 : ps.length = k0) :
    Calls Tryz.prog 66 #[.pointer (some ⟨g, 0, none⟩), .slice p k0 cap] w fun e w' => e = .returned (.int .i64 0) ∧ ∃ t' : LogT, t'.Ok (c + 1) ∧ t'.gd = t.gd ∧ t'.n = t.n ∧ t'.X.ring = t.X.ring ∧ t'.X.turn = t.X.turn + 1 ∧
      t'.X.free = (t.X.roomy ps.length).free - ((ps.length + 1 : Nat) : Int) ∧ (∀ k, k < t.n → t'.hom k = putH t.hom ps k) ∧
      BunTo w (ownL (t.L g ++ [rdA p (putV ps), putsA rp ps])) (rdL (t.L g ++ [rdA p (putV ps), putsA rp ps])) (t'.L g ++ [rdA p (putV ps), putsA rp ps]) w' := by
  subst hk0
  obtain ⟨gd, gm, M, rm, own, rd, X, D, n, N, u⟩ := t
  have hf : LogFine X n D N u := ht.fine
  have hg' : Good ps n X.ring := hg
  have h1 : X.turn ≤ c + 1 := ht.turn
  have h2 : X.s ≤ c + 1 := ht.s
  have h3 : u ≤ 4000 + 2200 * c := ht.u
  have hfin : ∀ (gm' : Nat) (M' : DataW Value) (rm' : Nat → Prop) (D' : DS) (own' rd' : Nat → Prop) (u' : Nat), u' ≤ u + 2100 → Off (X.roomD n D ps.length) D' N X.ring u' →
      ∀ t' : LogT, t' = ⟨gd, gm', M', rm', own', rd', (X.roomy ps.length).done ps, D', n, N, u'⟩ →
      t'.Ok (c + 1) ∧ t'.gd = gd ∧ t'.n = n ∧ t'.X.ring = X.ring ∧ t'.X.turn = X.turn + 1 ∧ t'.X.free = (X.roomy ps.length).free - ((ps.length + 1 : Nat) : Int) ∧ (∀ k, k < n → t'.hom k = putH (homOf X D) ps k) := by
    rintro gm' M' rm' D' own' rd' u' hu' hoff _ rfl
    obtain ⟨u1, hu1, hf1⟩ := hf.roomy ps.length
    have hri := roomy_ring X ps.length
    have hfr := roomy_free hf ps.length hg'.fits
    have hoff' : Off (X.roomD n D ps.length) D' N (X.roomy ps.length).ring u' := by rw [hri]; exact hoff
    refine ⟨⟨hf1.done hoff' hps hfr.1, ?_, ?_, ?_⟩, rfl, rfl, hri, ?_, rfl, ?_⟩
    · show (X.roomy ps.length).turn + 1 ≤ c + 1 + 1; rw [roomy_turn]; exact Nat.succ_le_succ h1
    · show (X.roomy ps.length).s ≤ c + 1 + 1; exact Nat.le_trans (roomy_s X ps.length) (Nat.succ_le_succ h2)
    · show u' ≤ 4000 + 2200 * (c + 1); exact Nat.le_trans hu' (by rw [Nat.mul_add]; exact Nat.le_trans (Nat.add_le_add_right h3 2100) (by omega))
    · show (X.roomy ps.length).turn + 1 = X.turn + 1; rw [roomy_turn]
    · intro k hk
      show homOf ((X.roomy ps.length).done ps) D' k = _
      have e1 : homOf ((X.roomy ps.length).done ps) D' k = (putM (X.roomy ps.length).m ps k).getD (((X.roomD n D ps.length).sect (2 + X.ring + k)).drop 8) := by
        unfold homOf
        rw [show ((X.roomy ps.length).done ps).ring = X.ring from hri, hoff.sect _ (by omega) (by have := hf.fits; omega)]
        rfl
      rw [e1, putH_of_putM (fun k => ((X.roomD n D ps.length).sect (2 + X.ring + k)).drop 8) ps _ _ (fun j => rfl) k]
      exact putH_congr ps _ _ (fun j hj => by
        have := homOf_roomy hf ps.length j hj
        unfold homOf at this
        rw [hri] at this
        exact this) k hk
  have HFIN := Lib.hid hfin
  clear hfin
  have hb' : Bundle w (logL g gd gm X M rm n D own rd ++ [rdA p (putV ps), putsA rp ps]) := hb
  have H := hb'.open_
  have HF := Lib.hid hf
  have HG := Lib.hid hg'
  have HS := Lib.hid hps
  have H1 := Lib.hid (show X.turn < 1000000 by omega)
  have H2 := Lib.hid (show X.s < 1000000 by omega)
  have H3 := Lib.hid (show u + 3000 < 1000000 by omega)
  unfold LogT.L
  dsimp only
  clear hb hb' hf hg hg' hps ht h1 h2 h3
  go_enter Tryz.func66, Tryz.ntmps66
  go_wp2_with (first
    | (go_at_call 67; go_loud ((refine (may_ok (g := g) (gd := gd) (gm := gm) (X := X) (M := M) (rm := rm) (n := n) (D := D) (own := own) (rd := rd) (H.take 4).bundle HF.out.lives).mono ?_); rintro e W ⟨rfl, hto⟩; replace H := hto.front (R := [rdA p (putV ps), putsA rp ps]) H; clear hto))
    | (go_at_call 105; go_loud ((refine (commits_ok (g := g) (gd := gd) (gma := gm) (Xa := X) (Ma := M) (rma := rm) (n := n) (Da := D) (owna := own) (rda := rd) (p := p) (cap := cap) (ps := ps) (rp := rp) H.bundle HF.out HG.out HS.out H1.out H2.out H3.out).mono ?_); rintro e W2 ⟨rfl, gm', M', rm', D', own', rd', u', hu', hoff, hto⟩; replace H := hto.front (R := []) H; clear hto; simp only [List.append_nil] at H))
    | (go_at_call 101; go_loud ((refine (code_nil _).mono ?_); rintro e W3 ⟨rfl, hbl⟩; replace H := H.stay (Fix.of_below hbl _); clear hbl)))
  go_ret
  obtain ⟨a1, a2, a3, a4, a5, a6, a7⟩ := HFIN.out gm' M' rm' D' own' rd' u' hu' hoff _ rfl
  exact ⟨rfl, ⟨gd, gm', M', rm', own', rd', (X.roomy ps.length).done ps, D', n, N, u'⟩, a1, rfl, rfl, a4, a5, a6, a7, H.bunTo⟩

end Go.Proofs.YtlgciddnpinpbaaGreatDoor

namespace Go.Proofs.YtlgciddnpinpbaaGreatDoor
open Go.RowKit
set_option linter.unusedSimpArgs false
set_option linter.unusedVariables false
set_option maxRecDepth 4000

theorem commit_room {w : World} {g gd gm : Nat} {X : LS} {M : DataW Value} {rm : Nat → Prop} {n : Nat} {D : DS} {own rd : Nat → Prop} {p : Option Addr} {cap : Nat} {ps : List PutS} {rp : Nat → Prop}
    (hb : Bundle w (logL g gd gm X M rm n D own rd ++ [rdA p (putV ps), putsA rp ps])) {N u : Nat} (hf : LogFine X n D N u) (hg : Good ps n X.ring) (hps : 0 < ps.length) (ht : X.turn < 1000000) (hs : X.s < 1000000) (hu : u + 3000 < 1000000) (hroom : ((ps.length : Int) + 1) ≤ X.free) :
    Calls Tryz.prog 66 #[.pointer (some ⟨g, 0, none⟩), .slice p ps.length cap] w fun e w' => e = .returned (.int .i64 0) ∧ ∃ gm' M' rm' D' own' rd' u', u' ≤ u + 2100 ∧ Off D D' N X.ring u' ∧
      BunTo w (ownL (logL g gd gm X M rm n D own rd ++ [rdA p (putV ps), putsA rp ps])) (rdL (logL g gd gm X M rm n D own rd ++ [rdA p (putV ps), putsA rp ps]))
        (logL g gd gm' (X.done ps) M' rm' n D' own' rd' ++ [rdA p (putV ps), putsA rp ps]) w' := by
  have H := hb.open_
  have HF := Lib.hid hf
  have HG := Lib.hid hg
  have HS := Lib.hid hps
  have HT := Lib.hid ht
  have HU := Lib.hid hu
  have HX := Lib.hid (show X.roomy ps.length = X by unfold LS.roomy; exact if_neg (by omega))
  have HD := Lib.hid (show X.roomD n D ps.length = D by unfold LS.roomD; exact if_neg (by omega))
  have HQ := Lib.hid hs
  clear hb hf hg hps ht hu hroom hs
  go_enter Tryz.func66, Tryz.ntmps66
  go_wp2_with (first
    | (go_at_call 67; go_loud ((refine (may_ok (g := g) (gd := gd) (gm := gm) (X := X) (M := M) (rm := rm) (n := n) (D := D) (own := own) (rd := rd) (H.take 4).bundle HF.out.lives).mono ?_); rintro e W ⟨rfl, hto⟩; replace H := hto.front (R := [rdA p (putV ps), putsA rp ps]) H; clear hto))
    | (go_at_call 105; go_loud ((refine (commits_ok (g := g) (gd := gd) (gma := gm) (Xa := X) (Ma := M) (rma := rm) (n := n) (Da := D) (owna := own) (rda := rd) (p := p) (cap := cap) (ps := ps) (rp := rp) H.bundle HF.out HG.out HS.out HT.out HQ.out HU.out).mono ?_); rintro e W2 ⟨rfl, gm', M', rm', D', own', rd', u', hu', hoff, hto⟩; rw [HX.out] at hto; rw [HD.out] at hoff; replace H := hto.front (R := []) H; clear hto; simp only [List.append_nil] at H))
    | (go_at_call 101; go_loud ((refine (code_nil _).mono ?_); rintro e W3 ⟨rfl, hbl⟩; replace H := H.stay (Fix.of_below hbl _); clear hbl)))
  go_ret
  exact ⟨rfl, gm', M', rm', D', own', rd', u', hu', hoff, H.bunTo⟩

end Go.Proofs.YtlgciddnpinpbaaGreatDoor

namespace Go.Proofs.YtlgciddnpinpbaaGreatDoor
open Go.RowKit
set_option linter.unusedSimpArgs false
set_option linter.unusedVariables false
set_option maxRecDepth 4000

/-- A row of ours is read from now on. -/
theorem St.ro {M0 R0 : Nat → Prop} {w0 W : World} {L : List Asrt} (H : St M0 R0 w0 W L) (i : Nat) {g : Nat} {vs : List Value} {t : TypeId} (hi : L[i]? = some (blk g (.cells vs.toArray t (0, 0)))) :
    St M0 R0 w0 W (L.set i (rdA (some ⟨g, 0, none⟩) vs)) := by
  have hg : W.heap[g]? = some (.cells vs.toArray t (0, 0)) := H.at i hi
  refine H.step i hi (Fix.refl _ _) ?_ ⟨fun k hk => hk.elim, fun k hk => ?_⟩
  · refine .inr ⟨g, 0, rfl, (Array.getElem?_eq_some_iff.1 hg).1, fun j x hj => ?_⟩
    rw [Nat.zero_add, cell_of_row W g j _ _ _ hg]
    simpa using hj
  · obtain ⟨_, ad, e, rfl⟩ := hk
    cases e
    exact .inl rfl

theorem bytesAt_row {W : World} {g : Nat} {l : List UInt8} {junk : List Value} {t : TypeId} {fr : Nat × Nat} (hg : W.heap[g]? = some (.cells (byteV l ++ junk).toArray t fr)) : BytesAt W g 0 l := BytesAt.front hg

/-- Bytes of ours are a put's from now on. -/
theorem St.asPut {M0 R0 : Nat → Prop} {w0 W : World} {L : List Asrt} (H : St M0 R0 w0 W L) (i : Nat) {g : Nat} {l : List UInt8} {t : TypeId} (hi : L[i]? = some (blk g (.cells (byteV l).toArray t (0, 0)))) (k cap : Nat) (hl : l.length = 248) (hc : 248 ≤ cap) :
    St M0 R0 w0 W (L.set i (putsA (fun j => j = g) [⟨k, .slice (some ⟨g, 0, none⟩) 248 cap, l⟩])) := by
  have hg : W.heap[g]? = some (.cells (byteV l).toArray t (0, 0)) := H.at i hi
  refine H.step i hi (Fix.refl _ _) ?_ ⟨fun k hk => hk.elim, fun k hk => .inl hk⟩
  refine ⟨fun x hx => ?_, fun j hj => by rw [show j = g from hj]; exact (Array.getElem?_eq_some_iff.1 hg).1⟩
  obtain rfl := List.mem_singleton.1 hx
  refine .inr ⟨g, 0, cap, by rw [hl], by rw [hl]; exact hc, .inr rfl, ?_⟩
  exact BytesAt.front (junk := []) (by rw [List.append_nil]; exact hg)

theorem LS.start_fine {D : DS} {N ring u : Nat} (hc : Calm D N u) (h1 : 8 ≤ ring) (h2 : ring ≤ 512) (n : Nat) (hn : n + 2 + ring = N) (h8 : 8 ≤ n) (ht : N ≤ 1900) : LogFine (LS.start D.lives ring) n D N u :=
  ⟨hc, hn, ht, h1, h2, h8, by show 0 < ring; omega, rfl, fun _ => rfl, ⟨by show (0 : Int) ≤ (ring : Int); omega, by show (ring : Int) ≤ (ring : Int); omega⟩, Nat.le_refl _, Nat.le_refl _⟩

theorem noB_248 : (List.replicate 248 (0 : UInt8)).length = 248 := List.length_replicate
/-- What Open has made of a disk. -/
theorem BunTo.opened {M0 R0 : Nat → Prop} {w0 W W' : World} {gd : Nat} {D : DS} {own rd : Nat → Prop} {Ls : List Asrt} (h : BunTo W own rd Ls W') (H : St M0 R0 w0 W [dA gd D own rd]) : St M0 R0 w0 W' Ls :=
  St.unbun (L := []) (H.step 0 rfl (A' := bun Ls) h.fix h.holds ⟨h.owns, h.reads⟩)

theorem Turn_at {w : World} {g gd gm : Nat} {X : LS} {M : DataW Value} {rm : Nat → Prop} {n : Nat} {D : DS} {own rd : Nat → Prop} (hb : Bundle w (logL g gd gm X M rm n D own rd)) {z : Int} (hz : (X.turn : Int) = z) :
    Calls Tryz.prog 57 #[.pointer (some ⟨g, 0, none⟩)] w fun e w' => e = .returned (.int .u64 z) ∧ w = w' := by
  subst hz; exact Turn_ok hb

theorem Homes_at {w : World} {g gd gm : Nat} {X : LS} {M : DataW Value} {rm : Nat → Prop} {n : Nat} {D : DS} {own rd : Nat → Prop} (hb : Bundle w (logL g gd gm X M rm n D own rd)) {N : Nat} (hN : D.last.length = N) (hf : n + 2 + X.ring = N) (ht : N ≤ 1900) {z : Int} (hz : (n : Int) = z) :
    Calls Tryz.prog 23 #[.pointer (some ⟨g, 0, none⟩)] w fun e w' => e = .returned (.int .i64 z) ∧
      BunTo w (ownL (logL g gd gm X M rm n D own rd)) (rdL (logL g gd gm X M rm n D own rd)) (logL g gd gm X M rm n D own rd) w' := by
  subst hz; exact Homes_ok hb hN hf ht

end Go.Proofs.YtlgciddnpinpbaaGreatDoor

namespace Go.Proofs.YtlgciddnpinpbaaGreatDoor
open Go.RowKit
set_option linter.unusedSimpArgs false
set_option linter.unusedVariables false
set_option maxRecDepth 4000

set_option maxHeartbeats 1000000 in
theorem Commit_none {w : World} {g : Nat} {t : LogT} {c : Nat} {p : Option Addr} {cap : Nat} {rp : Nat → Prop}
    (hb : Bundle w (t.L g ++ [rdA p (putV []), putsA rp []])) (ht : t.Ok c) :
    Calls Tryz.prog 66 #[.pointer (some ⟨g, 0, none⟩), .slice p 0 cap] w fun e w' => e = .returned (.int .i64 0) ∧
      BunTo w (ownL (t.L g ++ [rdA p (putV []), putsA rp []])) (rdL (t.L g ++ [rdA p (putV []), putsA rp []])) (t.L g ++ [rdA p (putV []), putsA rp []]) w' := by
  obtain ⟨gd, gm, M, rm, own, rd, X, D, n, N, u⟩ := t
  have hf : LogFine X n D N u := ht.fine
  have hb' : Bundle w (logL g gd gm X M rm n D own rd ++ [rdA p (putV []), putsA rp []]) := hb
  have H := hb'.open_
  have HF := Lib.hid hf
  unfold LogT.L
  dsimp only
  clear hb hb' hf ht
  have key : ∀ w' (hb : Bundle w' (logL g gd gm X M rm n D own rd ++ [rdA p (putV []), putsA rp []])), Calls Tryz.prog 105 #[.pointer (some ⟨g, 0, none⟩), .slice p 0 cap] w' fun e w2 => e = .returned .nilIface ∧
      BunTo w' (ownL (logL g gd gm X M rm n D own rd ++ [rdA p (putV []), putsA rp []])) (rdL (logL g gd gm X M rm n D own rd ++ [rdA p (putV []), putsA rp []])) (logL g gd gm X M rm n D own rd ++ [rdA p (putV []), putsA rp []]) w2 := by
    intro w' hb
    have HK := Lib.hid (looks_any (ps := []) (cap := cap) hb HF.out ⟨by simp, by simp, by simp⟩ (by simp))
    have H := hb.open_
    have hr : 0 < X.ring := by have := HF.out.r1; omega
    clear hb
    go_enter Tryz.func105, Tryz.ntmps105
    go_wp2_with (first
      | (go_at_call 141; go_loud ((refine (HK.out).mono ?_); rintro e W ⟨h1, _, hto⟩; obtain rfl := h1 ⟨by simp, hr⟩; clear h1)))
    go_ret
    exact ⟨rfl, hto⟩
  have HKEY := Lib.hid key
  clear key
  go_enter Tryz.func66, Tryz.ntmps66
  go_wp2_with (first
    | (go_at_call 67; go_loud ((refine (may_ok (g := g) (gd := gd) (gm := gm) (X := X) (M := M) (rm := rm) (n := n) (D := D) (own := own) (rd := rd) (H.take 4).bundle HF.out.lives).mono ?_); rintro e W ⟨rfl, hto⟩; replace H := hto.front (R := [rdA p (putV []), putsA rp []]) H; clear hto))
    | (go_at_call 105; go_loud ((refine (HKEY.out _ H.bundle).mono ?_); rintro e W2 ⟨rfl, hto⟩; replace H := hto.front (R := []) H; clear hto; simp only [List.append_nil] at H))
    | (go_at_call 101; go_loud ((refine (code_nil _).mono ?_); rintro e W3 ⟨rfl, hbl⟩; replace H := H.stay (Fix.of_below hbl _); clear hbl)))
  go_ret
  exact ⟨rfl, H.bunTo⟩

set_option maxHeartbeats 1000000 in
theorem Commit_long {w : World} {g : Nat} {t : LogT} {c : Nat} {p : Option Addr} {cap : Nat} {ps : List PutS} {rp : Nat → Prop}
    (hb : Bundle w (t.L g ++ [rdA p (putV ps), putsA rp ps, errA])) (ht : t.Ok c) (hg : GoodP ps t.n) (hl : ps.length ≤ 1900) (hno : ¬ (ps.length ≤ 119 ∧ ps.length < t.X.ring)) {k0 : Nat} (hk0 : ps.length = k0) :
    Calls Tryz.prog 66 #[.pointer (some ⟨g, 0, none⟩), .slice p k0 cap] w fun e w' => e = .returned (.int .i64 4) ∧
      BunTo w (ownL (t.L g ++ [rdA p (putV ps), putsA rp ps, errA])) (rdL (t.L g ++ [rdA p (putV ps), putsA rp ps, errA])) (t.L g ++ [rdA p (putV ps), putsA rp ps, errA]) w' := by
  subst hk0
  obtain ⟨gd, gm, M, rm, own, rd, X, D, n, N, u⟩ := t
  have hf : LogFine X n D N u := ht.fine
  have hg' : GoodP ps n := hg
  have hno' : ¬ (ps.length ≤ 119 ∧ ps.length < X.ring) := hno
  have hb' : Bundle w (logL g gd gm X M rm n D own rd ++ [rdA p (putV ps), putsA rp ps, errA]) := hb
  have H := hb'.open_
  have HF := Lib.hid hf
  have HG := Lib.hid hg'
  have HN := Lib.hid hno'
  have HL := Lib.hid hl
  unfold LogT.L
  dsimp only
  clear hb hb' hf ht hg hg' hno hno' hl
  have key : ∀ w' (hb : Bundle w' (logL g gd gm X M rm n D own rd ++ [rdA p (putV ps), putsA rp ps])), Calls Tryz.prog 105 #[.pointer (some ⟨g, 0, none⟩), .slice p ps.length cap] w' fun e w2 => ∃ ge, e = .returned (faultV ge) ∧ w2.heap[ge]? = some (faultO 4 .nilIface) ∧
      BunTo w' (ownL (logL g gd gm X M rm n D own rd ++ [rdA p (putV ps), putsA rp ps])) (rdL (logL g gd gm X M rm n D own rd ++ [rdA p (putV ps), putsA rp ps])) (logL g gd gm X M rm n D own rd ++ [rdA p (putV ps), putsA rp ps]) w2 := by
    intro w' hb
    have HK := Lib.hid (looks_any (cap := cap) hb HF.out HG.out HL.out)
    have H := hb.open_
    clear hb
    go_enter Tryz.func105, Tryz.ntmps105
    go_wp2_with (first
      | (go_at_call 141; go_loud ((refine (HK.out).mono ?_); rintro e W ⟨_, h1, hto⟩; obtain ⟨ge, rfl, hgo⟩ := h1 HN.out; clear h1; unfold faultV)))
    go_ret
    exact ⟨ge, rfl, hgo, hto⟩
  have HKEY := Lib.hid key
  clear key
  go_enter Tryz.func66, Tryz.ntmps66
  go_wp2_with (first
    | (go_at_call 67; go_loud ((refine (may_ok (g := g) (gd := gd) (gm := gm) (X := X) (M := M) (rm := rm) (n := n) (D := D) (own := own) (rd := rd) (H.take 4).bundle HF.out.lives).mono ?_); rintro e W ⟨rfl, hto⟩; replace H := hto.front (R := [rdA p (putV ps), putsA rp ps, errA]) H; clear hto))
    | (go_at_call 105; go_loud ((refine (HKEY.out _ (H.take 6).bundle).mono ?_); rintro e W2 ⟨ge, rfl, hgo, hto⟩; replace H := hto.front (R := [errA]) H; clear hto; unfold faultV))
    | (go_at_call 101; go_loud ((refine (code_fault ge 4 .nilIface _ (H.at 6 rfl) hgo).mono ?_); rintro e W3 ⟨rfl, hbl⟩; replace H := H.stay (Fix.of_below hbl _); clear hbl)))
  go_ret
  exact ⟨rfl, H.bunTo⟩


end Go.Proofs.YtlgciddnpinpbaaGreatDoor

namespace Go.Proofs.YtlgciddnpinpbaaGreatDoor
open Go.RowKit
set_option linter.unusedSimpArgs false
set_option linter.unusedVariables false
set_option maxRecDepth 4000

/-- Block g is ours, and has the bytes l from place off on. -/
def ownB (g off : Nat) (l : List UInt8) : Asrt where
  own k := k = g
  rd _ := False
  prop W := ∃ pre junk : List Value, pre.length = off ∧ W.heap[g]? = some (.cells (pre ++ byteV l ++ junk).toArray 5 (0, 0))
  stable W W' h hp := by
    obtain ⟨pre, junk, h1, h2⟩ := hp
    exact ⟨pre, junk, h1, (h g (.inl rfl)).trans h2⟩
  bound W hp k hk := by
    obtain ⟨pre, junk, h1, h2⟩ := hp
    rcases hk with rfl | hk
    · exact (Array.getElem?_eq_some_iff.1 h2).1
    · exact hk.elim

theorem ownB_bytes {W : World} {g off : Nat} {l : List UInt8} (h : (ownB g off l).prop W) : BytesAt W g off l := by
  obtain ⟨pre, junk, h1, h2⟩ := h
  intro i hi
  refine row_cell h2 ?_
  rw [List.getElem?_toArray, List.append_assoc, List.getElem?_append_right (by omega), h1, Nat.add_sub_cancel_left, List.getElem?_append_left (by simpa using hi), byteV_get, List.getElem?_eq_getElem hi]
  rfl

theorem ownB_of_row {W : World} {g : Nat} {l : List UInt8} {junk : List Value} (h : W.heap[g]? = some (.cells (byteV l ++ junk).toArray 5 (0, 0))) : (ownB g 0 l).prop W := ⟨[], junk, rfl, h⟩
theorem ownB_of_drop {W : World} {g : Nat} {l : List UInt8} {junk : List Value} (k : Nat) (hk : k ≤ l.length) (h : W.heap[g]? = some (.cells (byteV l ++ junk).toArray 5 (0, 0))) : (ownB g k (l.drop k)).prop W :=
  ⟨byteV (l.take k), junk, by simp [byteV]; omega, by rw [h, ← List.take_append_drop k l]; simp [byteV]⟩
theorem ownB_lt {W : World} {g off : Nat} {l : List UInt8} (h : (ownB g off l).prop W) : g < W.heap.size := (ownB g off l).bound W h g (.inl rfl)

/-- A block's other name. -/
theorem St.recast {M0 R0 : Nat → Prop} {w0 W : World} {L : List Asrt} (H : St M0 R0 w0 W L) (i : Nat) {A A' : Asrt} (hi : L[i]? = some A) (hp : A.prop W → A'.prop W) (ho : ∀ k, A'.own k → A.own k) (hr : ∀ k, A'.rd k → A.own k ∨ A.rd k) : St M0 R0 w0 W (L.set i A') :=
  H.step i hi (Fix.refl _ _) (hp (H.at i hi)) ⟨fun k hk => .inl (ho k hk), fun k hk => by rcases hr k hk with h | h; exact .inl h; exact .inr (.inl h)⟩

theorem MapIs.look248 {W : World} {rd : Nat → Prop} {M : DataW Value} {f : Nat → Option (List UInt8)} {b : Nat} (h : MapIs W rd M f b 248) {gm n : Nat}
    (hm : W.ownsMap Tryz.prog 3 RV gm n M) (k : Nat) (hk : k < 1048576) {l : List UInt8} (hw : f k = some l) :
    ∃ gv off cap, (Instr.lookup 110 (.map (some gm)) (.int .i64 (k : Int)) true).run Tryz.prog W = .ok (.tuple #[.slice (some ⟨gv, off, none⟩) 248 cap, .bool true]) W ∧ 248 ≤ cap ∧ l.length = 248 ∧ BytesAt W gv off l ∧ gv < W.heap.size := by
  obtain ⟨v, hrun, _, hl, hby⟩ := h.look_yes hm k hk hw
  rcases hby with ⟨e, _⟩ | ⟨gv, off, cap, rfl, h2, h3, h4⟩
  · rw [e] at hl; simp at hl
  · rw [hl] at hrun h2
    refine ⟨gv, off, cap, hrun, h2, hl, h4, ?_⟩
    rcases h3 with h3 | h3
    · rw [h3] at hl; simp at hl
    · exact h.lt _ h3

theorem LogT.Ok.nn {t : LogT} {c : Nat} (h : t.Ok c) : t.n ≤ 1900 := by have := h.fine.fits; have := h.fine.top; omega

set_option maxHeartbeats 1000000 in
/-- Read, of a home that is there. -/
theorem Read_in {w : World} {g : Nat} {t : LogT} {c : Nat} (hb : Bundle w (t.L g)) (ht : t.Ok c) (z : Int) (k : Nat) (hz : (k : Int) = z) (hk : k < t.n) :
    Calls Tryz.prog 22 #[.pointer (some ⟨g, 0, none⟩), .int .i64 z] w fun e w' => ∃ gc off cap, e = .returned (.tuple #[.slice (some ⟨gc, off, none⟩) 248 cap, .int .i64 0]) ∧ (t.hom k).length = 248 ∧ 248 ≤ cap ∧ w.heap.size ≤ gc ∧
      BunTo w (ownL (t.L g)) (rdL (t.L g)) (t.L g ++ [ownB gc off (t.hom k)]) w' := by
  obtain ⟨gd, gm, M, rm, own, rd, X, D, n, N, u⟩ := t
  have hf : LogFine X n D N u := ht.fine
  have hk' : k < n := hk
  have hb' : Bundle w (logL g gd gm X M rm n D own rd) := hb
  have H := hb'.open_
  have HF := Lib.hid hf
  have HK := Lib.hid hk'
  subst hz
  have hki : (k : Int) < (n : Int) := by omega
  have hk0 : 0 ≤ (k : Int) := by omega
  have f0 : decide ((k : Int) < 0) = false := decide_eq_false (by omega)
  have f1 : decide ((n : Int) ≤ (k : Int)) = false := decide_eq_false (by omega)
  have f2 : ¬ n ≤ k := by omega
  unfold LogT.L LogT.hom homOf
  dsimp only
  clear hb hb' hf ht hk hk'
  cases hm : X.m k with
  | some l =>
    have HM := Lib.hid hm
    clear hm
    simp only [Option.getD_some]
    go_enter Tryz.func22, Tryz.ntmps22
    go_wp2_with (first
      | (go_at_call 67; go_loud ((refine (may_ok (g := g) (gd := gd) (gm := gm) (X := X) (M := M) (rm := rm) (n := n) (D := D) (own := own) (rd := rd) H.bundle HF.out.lives).mono ?_); rintro e W ⟨rfl, hto⟩; replace H := hto.front (R := []) H; clear hto; simp only [List.append_nil] at H))
      | (go_at_call 68; go_loud ((refine (homes_ok (g := g) (gd := gd) (gm := gm) (X := X) (M := M) (rm := rm) (n := n) (D := D) (own := own) (rd := rd) H.bundle HF.out.calm.len HF.out.fits HF.out.top).mono ?_); rintro e W ⟨rfl, hto⟩; replace H := hto.front (R := []) H; clear hto; simp only [List.append_nil] at H))
      | (refine wpList_load1_st rfl 110 _ rfl _ _ rfl _ _ _ (H.at 0 rfl) _ Tryz.underlying110 rfl _ (lRow8 _ _ _ _ _ _ _ _ _) ?_)
      | go_loud (obtain ⟨gv, offv, capv, hrun, hcv, hl, hbv, hlt⟩ := (H.at 2 rfl : MapIs _ rm M X.m n 248).look248 (H.at 1 rfl : World.ownsMap _ Tryz.prog 3 RV gm (Go.Maps.size M) M) k (by have := HF.out.fits; have := HF.out.top; have := HK.out; omega) HM.out; refine wpList_lookup_run rfl 110 _ _ _ rfl _ _ _ rfl rfl hrun ?_; clear hrun)
      | (go_at_call 63; go_loud ((refine (clone_n hbv hl (by omega) hlt).mono ?_); rintro e W2 ⟨gc, capc, junkc, rfl, hcc, hgc, hbc, hbl⟩)))
    refine bodyPost_ret (results_tmp2 rfl _ _ _) rfl ?_
    refine ⟨gc, 0, capc, rfl, hl, hcc, Nat.le_trans H.fix.size hgc, ?_⟩
    replace H := H.add (Fix.of_below hbl _) (ownB gc 0 l) (ownB_of_row hbc) (fun k hk => by rw [show k = gc from hk]; exact hgc) (fun k hk => hk.elim)
    exact H.bunTo
  | none =>
    have HM := Lib.hid hm
    have HKN := Lib.hid (show 2 + X.ring + k < D.last.length by have := HF.out.fits; have := HF.out.calm.len; have := HK.out; omega)
    clear hm
    obtain ⟨l, hl⟩ : ∃ l, D.sect (2 + X.ring + k) = l := ⟨_, rfl⟩
    rw [hl]
    have HS := Lib.hid hl
    clear hl
    simp only [Option.getD_none]
    go_enter Tryz.func22, Tryz.ntmps22
    go_wp2_with (first
      | (go_at_call 67; go_loud ((refine (may_ok (g := g) (gd := gd) (gm := gm) (X := X) (M := M) (rm := rm) (n := n) (D := D) (own := own) (rd := rd) H.bundle HF.out.lives).mono ?_); rintro e W ⟨rfl, hto⟩; replace H := hto.front (R := []) H; clear hto; simp only [List.append_nil] at H))
      | (go_at_call 68; go_loud ((refine (homes_ok (g := g) (gd := gd) (gm := gm) (X := X) (M := M) (rm := rm) (n := n) (D := D) (own := own) (rd := rd) H.bundle HF.out.calm.len HF.out.fits HF.out.top).mono ?_); rintro e W ⟨rfl, hto⟩; replace H := hto.front (R := []) H; clear hto; simp only [List.append_nil] at H))
      | (refine wpList_load1_st rfl 110 _ rfl _ _ rfl _ _ _ (H.at 0 rfl) _ Tryz.underlying110 rfl _ (lRow8 _ _ _ _ _ _ _ _ _) ?_)
      | go_loud (refine wpList_lookup_run rfl 110 _ _ _ rfl _ _ _ rfl rfl ((H.at 2 rfl : MapIs _ rm M X.m n 248).look_no (H.at 1 rfl : World.ownsMap _ Tryz.prog 3 RV gm (Go.Maps.size M) M) k (by have := HF.out.fits; have := HF.out.top; have := HK.out; omega) HM.out) ?_)
      | (go_at_call 70; go_loud ((refine (home_calls (g := g) (gd := gd) (gm := gm) (X := X) (M := M) (rm := rm) (n := n) (D := D) (own := own) (rd := rd) H.bundle _ k rfl (by have := HK.out; have := HF.out.fits; have := HF.out.top; omega) HF.out.r2).mono ?_); rintro e W' ⟨rfl, rfl⟩))
      | (go_at_call 69; go_loud ((refine (lread_ok (g := g) (gd := gd) (gm := gm) (X := X) (M := M) (rm := rm) (n := n) (D := D) (own := own) (rd := rd) H.bundle HF.out.calm.dead _ (2 + X.ring + k) (by omega) HKN.out).mono ?_); rintro e W2 ⟨gc, capc, junkc, rfl, hl, hcc, hgc, hto⟩; have hsz := H.fix.size; replace H := hto.front2 (R := []) (by rw [List.append_nil]; exact H); clear hto; rw [List.append_nil, HS.out] at H; rw [HS.out] at hl)))
    refine bodyPost_ret (results_tmp2 rfl _ _ _) rfl ?_
    refine ⟨gc, 8, capc - 8, rfl, by rw [List.length_drop, hl], by omega, Nat.le_trans hsz hgc, ?_⟩
    replace H := H.recast 4 (A' := ownB gc 8 (l.drop 8)) rfl (fun h => ownB_of_drop 8 (by omega) h) (fun k hk => hk) (fun k hk => hk.elim)
    exact H.bunTo

set_option maxHeartbeats 1000000 in
/-- Read, of a home that is not. -/
theorem Read_out {w : World} {g : Nat} {t : LogT} {c : Nat} (hb : Bundle w (t.L g)) (ht : t.Ok c) (z : Int) (hz : z < 0 ∨ (t.n : Int) ≤ z) :
    Calls Tryz.prog 22 #[.pointer (some ⟨g, 0, none⟩), .int .i64 z] w fun e w' => e = .returned (.tuple #[.slice none 0 0, .int .i64 1]) ∧
      BunTo w (ownL (t.L g)) (rdL (t.L g)) (t.L g) w' := by
  obtain ⟨gd, gm, M, rm, own, rd, X, D, n, N, u⟩ := t
  have hf : LogFine X n D N u := ht.fine
  have hz' : z < 0 ∨ (n : Int) ≤ z := hz
  have hb' : Bundle w (logL g gd gm X M rm n D own rd) := hb
  have H := hb'.open_
  have HF := Lib.hid hf
  unfold LogT.L
  dsimp only
  clear hb hb' hf ht hz
  by_cases h0 : z < 0
  · have f0 : decide (z < 0) = true := decide_eq_true h0
    clear hz'
    go_enter Tryz.func22, Tryz.ntmps22
    go_wp2_with (first
      | (go_at_call 67; go_loud ((refine (may_ok (g := g) (gd := gd) (gm := gm) (X := X) (M := M) (rm := rm) (n := n) (D := D) (own := own) (rd := rd) H.bundle HF.out.lives).mono ?_); rintro e W ⟨rfl, hto⟩; replace H := hto.front (R := []) H; clear hto; simp only [List.append_nil] at H)))
    refine bodyPost_ret (results_tmp2 rfl _ _ _) rfl ?_
    exact ⟨rfl, H.bunTo⟩
  · have f0 : decide (z < 0) = false := decide_eq_false h0
    have hz2 : (n : Int) ≤ z := hz'.resolve_left h0
    have f1 : decide ((n : Int) ≤ z) = true := decide_eq_true hz2
    clear hz'
    go_enter Tryz.func22, Tryz.ntmps22
    go_wp2_with (first
      | (go_at_call 67; go_loud ((refine (may_ok (g := g) (gd := gd) (gm := gm) (X := X) (M := M) (rm := rm) (n := n) (D := D) (own := own) (rd := rd) H.bundle HF.out.lives).mono ?_); rintro e W ⟨rfl, hto⟩; replace H := hto.front (R := []) H; clear hto; simp only [List.append_nil] at H))
      | (go_at_call 68; go_loud ((refine (homes_ok (g := g) (gd := gd) (gm := gm) (X := X) (M := M) (rm := rm) (n := n) (D := D) (own := own) (rd := rd) H.bundle HF.out.calm.len HF.out.fits HF.out.top).mono ?_); rintro e W ⟨rfl, hto⟩; replace H := hto.front (R := []) H; clear hto; simp only [List.append_nil] at H)))
    refine bodyPost_ret (results_tmp2 rfl _ _ _) rfl ?_
    exact ⟨rfl, H.bunTo⟩

end Go.Proofs.YtlgciddnpinpbaaGreatDoor
