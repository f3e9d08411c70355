/- Texts of this proof, packed: Bits of layer 20's law: made, copy, take, free and what follows it. -/
import Derived.Test.YtphpegnfcelagaaGreatDoorPkBase4
import Derived.Laws.ResultCell
import Derived.Laws.Rows
import Derived.BigQuiet
import Derived.Deep.QuietTactic
import Derived.Deep.Slices
import Derived.Deep.Strs

namespace Go.Proofs.YtphpegnfcelagaaGreatDoor
open Go.RowKit
set_option linter.unusedSimpArgs false
set_option linter.unusedVariables false
set_option maxRecDepth 40000

def bitsV (g n cap : Nat) (r v : Int) : Value := .agg #[.slice (some ⟨g, 0, none⟩) n cap, .int .u32 r, .int .u64 v]
def bitV (bs : List Bool) : List Value := bs.map Value.bool
theorem bitV_len (bs : List Bool) : (bitV bs).length = bs.length := List.length_map _
theorem bitV_get (bs : List Bool) (i : Nat) (hi : i < bs.length) {b : Bool} (h : bs.getD i false = b) : (bitV bs)[i]? = some (.bool b) := by
  have := bool_at bs i hi h
  simpa [bitV] using this
theorem bitV_set (bs : List Bool) (i : Nat) (b : Bool) : (bitV bs).set i (.bool b) = bitV (bs.set i b) := by simp [bitV]
theorem bitV_one (bs : List Bool) : ∀ u ∈ bitV bs, u.oneCell' = true := by
  intro u hu
  obtain ⟨b, _, rfl⟩ := List.mem_map.1 hu
  rfl

theorem size_bits : (Tryz.prog.info? 84).map (·.size) = some 3 := by kernel_rfl
theorem zero_bits : (Tryz.prog.info? 84).bind (·.zero) = some (.agg #[.slice none 0 0, .int .u32 0, .int .u64 0]) := by kernel_rfl

set_option maxHeartbeats 1000000 in
theorem bcopy_calls {w : World} {g cap : Nat} {bs : List Bool} (h : (ownV 4 g (bitV bs)).prop w) (hn : bs.length ≤ 1900) (r v : Int) :
    Calls Tryz.prog 50 #[bitsV g bs.length cap r v] w fun e w' => ∃ g' cap', e = .returned (bitsV g' bs.length cap' r v) ∧ w.heap.size ≤ g' ∧ (ownV 4 g' (bitV bs)).prop w' ∧ Below w.heap.size w w' := by
  have H := St.reads_only (w := w) [rdA (some ⟨g, 0, none⟩) (bitV bs)] (by
    intro B hB
    simp only [List.mem_cons, List.not_mem_nil, or_false] at hB
    subst hB
    exact ⟨ownV_rd h, fun _ h => h⟩)
  have HN := Lib.hid hn
  clear h hn
  unfold bitsV
  go_enter Tryz.func50, Tryz.ntmps50
  go_wp2_with (first
    | (refine wpList_box_st H rfl 84 _ rfl _ rfl ?_; clear H; intro W gb H; replace H : St NoBlk (fun _ => True) w _ [rdA (some ⟨g, 0, none⟩) (bitV bs), blk gb (.cells #[.slice (some ⟨g, 0, none⟩) bs.length cap, .int .u32 r, .int .u64 v] 84 (0, 0))] := H)
    | (refine wpList_alloc_st H rfl 84 rfl _ zero_bits ?_; clear H; intro W gr H)
    | (refine wpList_buildslice0_st H rfl 46 4 rfl Tryz.underlying46 1 size_bool ?_; clear H; intro W ge H)
    | (refine wpList_load1_st rfl 46 _ rfl _ _ rfl _ _ _ (H.at 1 rfl) _ Tryz.underlying46 rfl _ rfl ?_)
    | (refine wpList_append_st H 3 rfl _ _ 46 rfl _ Tryz.underlying46 (.bool false) 1 info_bool rfl ge 0 0 rfl [] rfl (by omega) rfl (by simp [maxLen]) ⟨g, 0, none⟩ bs.length cap rfl (bitV bs) (bitV_len bs) (fun j u hu => by rw [Addr.add_lit]; exact rdA_cell (H.at 0 rfl) hu) (bitV_one bs) (by have := HN.out; simp only [maxLen]; omega) (by have := HN.out; omega) ?_; clear H; intro W g' cap' junk H hj1 hj2 hj3; replace H := H.recast 3 (A' := ownV 4 g' (bitV bs)) rfl (fun h => ⟨junk, h⟩) (fun k hk => hk) (fun k hk => hk.elim))
    | (refine wpList_store1_st H 1 rfl 46 _ _ rfl _ _ _ rfl rfl rfl _ _ rfl rfl (by simp [Value.cells]) ?_; clear H; intro W H; replace H : St NoBlk (fun _ => True) w _ [rdA (some ⟨g, 0, none⟩) (bitV bs), blk gb (.cells #[.slice (some ⟨g', 0, none⟩) bs.length cap', .int .u32 r, .int .u64 v] 84 (0, 0)), blk gr (.cells #[.slice none 0 0, .int .u32 0, .int .u64 0] 84 (0, 0)), ownV 4 g' (bitV bs)] := H)
    | (refine wpList_loadrow_st rfl 84 _ rfl _ rfl _ _ _ (H.at 1 rfl) _ Tryz.underlying84 rfl size_bits ?_)
    | (refine wpList_storerow_st H 2 rfl 84 _ _ rfl _ _ rfl rfl _ _ rfl size_bits (by rfl) (by simp [Value.oneCell']) ?_; clear H; intro W H))
  refine bodyPost_ret (results_cell_row rfl _ _ gr _ _ _ _ rfl (H.at 2 rfl) Tryz.underlying84 rfl size_bits) rfl ?_
  refine ⟨g', cap', by simp [bitsV], ?_, H.at 3 rfl, H.fix.below⟩
  rcases H.mine 3 _ rfl g' rfl with h | h
  · exact h
  · exact h.elim

theorem two_bits : ((bitV (List.replicate 34 false)).set 0 (.bool true)).set 1 (.bool true) = bitV (true :: true :: List.replicate 32 false) := rfl

set_option maxHeartbeats 1000000 in
theorem made_calls (w : World) : Calls Tryz.prog 49 #[.int .i64 34] w fun e w' => ∃ g, e = .returned (bitsV g 34 34 0 1) ∧ w.heap.size ≤ g ∧ (ownV 4 g (bitV (true :: true :: List.replicate 32 false))).prop w' ∧ Below w.heap.size w w' := by
  have H := St.nil NoBlk NoBlk w
  have tok1 : True := trivial
  go_enter Tryz.func49, Tryz.ntmps49
  go_upto_region 2 with (first
    | (have _t := tok1; clear _t; refine wpList_alloc_st H rfl 84 rfl _ zero_bits ?_; clear H tok1; intro W gr H)
    | (refine wpList_make2_st H rfl 46 _ _ rfl _ Tryz.underlying46 _ _ info_bool rfl 34 34 rfl rfl (by omega) (by omega) (by simp only [maxLen]; omega) ?_; clear H; intro W gm H)
    | (refine wpList_alloc_st H rfl 84 rfl _ zero_bits ?_; clear H; intro W g3 H)
    | (refine wpList_storerow_st H 2 rfl 84 _ _ rfl _ _ rfl rfl _ _ rfl size_bits (by rfl) (by simp [Value.oneCell']) ?_; clear H; intro W H))
  replace H : St NoBlk NoBlk w W [blk gr (.cells #[.slice none 0 0, .int .u32 0, .int .u64 0] 84 (0, 0)), blk gm (.cells (bitV (List.replicate 34 false) ++ []).toArray 4 (0, 0)), blk g3 (.cells #[.slice (some ⟨gm, 0, none⟩) 34 34, .int .u32 0, .int .u64 1] 84 (0, 0))] := H
  replace H := H.recast 1 (A' := ownV 4 gm (bitV (List.replicate 34 false))) rfl (fun h => ⟨[], h⟩) (fun k hk => hk) (fun k hk => hk.elim)
  replace H := H.drew
  refine wp_region_held_drew (S := fun w' => w'.cell? ⟨g3, 0, none⟩ = some (.slice (some ⟨gm, 0, none⟩) 34 34)) (by kernel_rfl) (row_cell (H.at 2 rfl) rfl) (fun hHeld => ?_)
  (refine wpAnyH_take (i := 0) (v := ?_) rfl (by kernel_rfl) (by kernel_rfl) (by kernel_rfl) (fun _ _ _ h => h) (Or.inl ⟨by rfl, ?_⟩) (by assumption) ?_; rotate_left; focus (intro w hSw; (try dsimp only at hSw); go_simp; all_goals (with_reducible rfl))); (try simp only [Act.put, List.setIfInBounds_toArray, List.set_cons_zero, List.set_cons_succ, List.getElem_toArray, List.getElem_cons_succ, List.getElem_cons_zero])
  (refine wpAnyH_take (i := 1) rfl (by kernel_rfl) (by kernel_rfl) (by kernel_rfl) (fun _ _ _ h => h) ((yieldsIf_load1 (by rfl) 46 _ rfl _ _ (by rfl) _ Tryz.underlying46 rfl _ (fun w h => h))) (by assumption) ?_); (try simp only [Act.put, List.setIfInBounds_toArray, List.set_cons_zero, List.set_cons_succ, List.getElem_toArray, List.getElem_cons_succ, List.getElem_cons_zero])
  (refine wpAnyH_take (i := 2) (v := ?_) rfl (by kernel_rfl) (by kernel_rfl) (by kernel_rfl) (fun _ _ _ h => h) (Or.inl ⟨by rfl, ?_⟩) (by assumption) ?_; rotate_left; focus (intro w hSw; (try dsimp only at hSw); go_simp; all_goals (with_reducible rfl))); (try simp only [Act.put, List.setIfInBounds_toArray, List.set_cons_zero, List.set_cons_succ, List.getElem_toArray, List.getElem_cons_succ, List.getElem_cons_zero])
  (refine wpAnyH_take (i := 3) rfl (by kernel_rfl) (by kernel_rfl) (by kernel_rfl) (fun _ _ _ h => h) ((yieldsIf_load1 (by rfl) 46 _ rfl _ _ (by rfl) _ Tryz.underlying46 rfl _ (fun w h => h))) (by assumption) ?_); (try simp only [Act.put, List.setIfInBounds_toArray, List.set_cons_zero, List.set_cons_succ, List.getElem_toArray, List.getElem_cons_succ, List.getElem_cons_zero])
  (refine wpAnyH_take (i := 4) (v := ?_) rfl (by kernel_rfl) (by kernel_rfl) (by kernel_rfl) (fun _ _ _ h => h) (Or.inl ⟨by rfl, ?_⟩) (by assumption) ?_; rotate_left; focus (intro w hSw; (try dsimp only at hSw); go_simp; all_goals (with_reducible rfl))); (try simp only [Act.put, List.setIfInBounds_toArray, List.set_cons_zero, List.set_cons_succ, List.getElem_toArray, List.getElem_cons_succ, List.getElem_cons_zero])
  (refine wpAnyH_ready (rs := [5]) (by kernel_rfl) (by simp) (AllReadyH.cons rfl (fun K hK => ?_) AllReadyH.nil)); (rw [if_pos (by rfl)]); (refine wp_storeV H 1 4 _ _ rfl 4 gm 0 _ (by rfl) (.bool true) (by rfl) rfl rfl size_bool (by simp [bitV]) ?_; intro W2 H2; refine hK.out _ _ (row_cell (H2.at 2 rfl) rfl) (fun hHeld2 => ?_); clear hK K)
  (try simp only [Act.put, List.setIfInBounds_toArray, List.set_cons_zero, List.set_cons_succ, List.getElem_toArray, List.getElem_cons_succ, List.getElem_cons_zero])
  (refine wpAnyH_take (i := 6) (v := ?_) rfl (by kernel_rfl) (by kernel_rfl) (by kernel_rfl) (fun _ _ _ h => h) (Or.inl ⟨by rfl, ?_⟩) (by assumption) ?_; rotate_left; focus (intro w hSw; (try dsimp only at hSw); go_simp; all_goals (with_reducible rfl))); (try simp only [Act.put, List.setIfInBounds_toArray, List.set_cons_zero, List.set_cons_succ, List.getElem_toArray, List.getElem_cons_succ, List.getElem_cons_zero])
  (refine wpAnyH_ready (rs := [7]) (by kernel_rfl) (by simp) (AllReadyH.cons rfl (fun K hK => ?_) AllReadyH.nil)); (rw [if_pos (by rfl)]); (refine wp_storeV H2 1 4 _ _ rfl 4 gm 1 _ (by rfl) (.bool true) (by rfl) rfl rfl size_bool (by simp [bitV]) ?_; intro W3 H3; refine hK.out _ _ (row_cell (H3.at 2 rfl) rfl) (fun hHeld3 => ?_); clear hK K)
  (try simp only [Act.put, List.setIfInBounds_toArray, List.set_cons_zero, List.set_cons_succ, List.getElem_toArray, List.getElem_cons_succ, List.getElem_cons_zero])
  (refine wpAnyH_done (by kernel_rfl) ?_ _)
  clear hHeld hHeld2 hHeld3 H H2
  have H := H3
  clear H3
  go_wp2_with (first
    | (refine wpList_loadrow_st rfl 84 _ rfl _ rfl _ _ _ (H.at 2 rfl) _ Tryz.underlying84 rfl size_bits ?_)
    | (refine wpList_storerow_st H 0 rfl 84 _ _ rfl _ _ rfl rfl _ _ rfl size_bits (by rfl) (by simp [Value.oneCell']) ?_; clear H; intro W H))
  refine bodyPost_ret (results_cell_row rfl _ _ gr _ _ _ _ rfl (H.at 0 rfl) Tryz.underlying84 rfl size_bits) rfl ?_
  refine ⟨gm, by simp [bitsV], ?_, by rw [← two_bits]; exact H.at 1 rfl, H.fix.below⟩
  rcases H.mine 1 _ rfl gm rfl with h | h
  · exact h
  · exact h.elim

set_option maxHeartbeats 1000000 in
theorem btake_ok {w : World} {g cap : Nat} {bs : List Bool} (hb : Bundle w [ownV 4 g (bitV bs)]) (r v : Int) (i : Nat) (hi : i < bs.length) (hn : bs.length ≤ 1900) (hf : bs.getD i false = false) (ht : ∀ j, j < i → bs.getD j false = true) :
    Calls Tryz.prog 51 #[bitsV g bs.length cap r v] w fun e w' => e = .returned (.tuple #[.int .i64 (i : Int), .int .i64 0]) ∧
      BunTo w (ownL [ownV 4 g (bitV bs)]) (rdL [ownV 4 g (bitV bs)]) [ownV 4 g (bitV (bs.set i true))] w' := by
  have H := hb.open_
  have HI := Lib.hid hi
  have HN := Lib.hid hn
  have HF := Lib.hid hf
  have HT := Lib.hid ht
  clear hb hi hn hf ht
  unfold bitsV
  go_enter Tryz.func51, Tryz.ntmps51
  go_wp2_with (first
    | (refine wpList_box_st H rfl 84 _ rfl _ rfl ?_; clear H; intro W gb H; replace H : St (ownL [ownV 4 g (bitV bs)]) (rdL [ownV 4 g (bitV bs)]) w _ [ownV 4 g (bitV bs), blk gb (.cells #[.slice (some ⟨g, 0, none⟩) bs.length cap, .int .u32 r, .int .u64 v] 84 (0, 0))] := H))
  go_loopw [4] (fun u wr => ∃ j : Nat, u = .int .i64 (j : Int) ∧ j ≤ i ∧ St (ownL [ownV 4 g (bitV bs)]) (rdL [ownV 4 g (bitV bs)]) w wr [ownV 4 g (bitV bs), blk gb (.cells #[.slice (some ⟨g, 0, none⟩) bs.length cap, .int .u32 r, .int .u64 v] 84 (0, 0))]) (fun u _ => i + 1 - (intOf u).toNat)
  case atStart => exact ⟨0, rfl, Nat.zero_le _, H⟩
  case round =>
    clear H
    obtain ⟨j, rfl, hj, H⟩ := hrel
    have hj0 : 0 ≤ (j : Int) := by omega
    have hj1 : (j : Int) < (bs.length : Int) := by have := HI.out; omega
    have hj2 : (j : Int) < 1900 := by have := HN.out; omega
    have HJL := Lib.hid (show j < bs.length by omega)
    rcases Nat.lt_or_ge j i with hlt | hge
    · have HB := Lib.hid (HT.out j hlt)
      have HJ := Lib.hid hlt
      clear hlt hj
      go_wp2_with (first
        | (refine wpList_load1_st rfl 46 _ rfl _ _ rfl _ _ _ (H.at 1 rfl) _ Tryz.underlying46 rfl _ rfl ?_)
        | (refine wpList_load1c rfl 4 _ rfl _ _ rfl _ Tryz.underlying4 rfl (.bool true) (ownV_cell (H.at 0 rfl) (bitV_get bs j HJL.out HB.out)) ?_))
      go_roundw
      case rel => exact ⟨j + 1, congrArg _ (by omega), HJ.out, H⟩
      case measure => have := HJ.out; simp [intOf]; omega
    · obtain rfl : j = i := by omega
      go_wp2_with (first
        | (refine wpList_load1_st rfl 46 _ rfl _ _ rfl _ _ _ (H.at 1 rfl) _ Tryz.underlying46 rfl _ rfl ?_)
        | (refine wpList_load1c rfl 4 _ rfl _ _ rfl _ Tryz.underlying4 rfl (.bool false) (ownV_cell (H.at 0 rfl) (bitV_get bs j HJL.out HF.out)) ?_)
        | (refine wpList_storeV H 0 rfl 4 _ _ rfl 4 g j (bitV bs) rfl (.bool true) rfl rfl rfl size_bool (by rw [bitV_len]; exact HJL.out) ?_; clear H; intro W H))
      refine bodyPost_ret (results_tmp2 rfl _ _ _) rfl ?_
      refine ⟨rfl, ?_⟩
      rw [← bitV_set]
      exact St.bunTo (H.take 1)

set_option maxHeartbeats 1000000 in
theorem btake_full {w : World} {g cap : Nat} {bs : List Bool} (hb : Bundle w [ownV 4 g (bitV bs)]) (r v : Int) (hn : bs.length ≤ 1900) (ht : ∀ j, j < bs.length → bs.getD j false = true) :
    Calls Tryz.prog 51 #[bitsV g bs.length cap r v] w fun e w' => e = .returned (.tuple #[.int .i64 0, .int .i64 9]) ∧
      BunTo w (ownL [ownV 4 g (bitV bs)]) (rdL [ownV 4 g (bitV bs)]) [ownV 4 g (bitV bs)] w' := by
  have H := hb.open_
  have HN := Lib.hid hn
  have HT := Lib.hid ht
  clear hb hn ht
  unfold bitsV
  go_enter Tryz.func51, Tryz.ntmps51
  go_wp2_with (first
    | (refine wpList_box_st H rfl 84 _ rfl _ rfl ?_; clear H; intro W gb H; replace H : St (ownL [ownV 4 g (bitV bs)]) (rdL [ownV 4 g (bitV bs)]) w _ [ownV 4 g (bitV bs), blk gb (.cells #[.slice (some ⟨g, 0, none⟩) bs.length cap, .int .u32 r, .int .u64 v] 84 (0, 0))] := H))
  go_loopw [4] (fun u wr => ∃ j : Nat, u = .int .i64 (j : Int) ∧ j ≤ bs.length ∧ St (ownL [ownV 4 g (bitV bs)]) (rdL [ownV 4 g (bitV bs)]) w wr [ownV 4 g (bitV bs), blk gb (.cells #[.slice (some ⟨g, 0, none⟩) bs.length cap, .int .u32 r, .int .u64 v] 84 (0, 0))]) (fun u _ => bs.length - (intOf u).toNat)
  case atStart => exact ⟨0, rfl, Nat.zero_le _, H⟩
  case round =>
    clear H
    obtain ⟨j, rfl, hj, H⟩ := hrel
    have hj0 : 0 ≤ (j : Int) := by omega
    have hj2 : (j : Int) ≤ 1900 := by have := HN.out; omega
    rcases Nat.lt_or_ge j bs.length with hlt | hge
    · have hj1 : (j : Int) < (bs.length : Int) := by omega
      have HB := Lib.hid (HT.out j hlt)
      have HJ := Lib.hid hlt
      clear hlt hj
      go_wp2_with (first
        | (refine wpList_load1_st rfl 46 _ rfl _ _ rfl _ _ _ (H.at 1 rfl) _ Tryz.underlying46 rfl _ rfl ?_)
        | (refine wpList_load1c rfl 4 _ rfl _ _ rfl _ Tryz.underlying4 rfl (.bool true) (ownV_cell (H.at 0 rfl) (bitV_get bs j HJ.out HB.out)) ?_))
      go_roundw
      case rel => exact ⟨j + 1, congrArg _ (by omega), HJ.out, H⟩
      case measure => have := HJ.out; simp [intOf]; omega
    · obtain rfl : j = bs.length := by omega
      have hj1 : ¬ ((bs.length : Int) < (bs.length : Int)) := by omega
      go_wp2_with (first
        | (refine wpList_load1_st rfl 46 _ rfl _ _ rfl _ _ _ (H.at 1 rfl) _ Tryz.underlying46 rfl _ rfl ?_))
      refine bodyPost_ret (results_tmp2 rfl _ _ _) rfl ?_
      exact ⟨rfl, St.bunTo (H.take 1)⟩

set_option maxHeartbeats 1000000 in
theorem bfree_ok {w : World} {g cap : Nat} {bs : List Bool} (hb : Bundle w [ownV 4 g (bitV bs)]) (r v z : Int) (i : Nat) (hz : (i : Int) = z) (h2 : 2 ≤ i) (hi : i < bs.length) (hn : bs.length ≤ 1900) (hf : bs.getD i false = true) :
    Calls Tryz.prog 52 #[bitsV g bs.length cap r v, .int .i64 z] w fun e w' => e = .returned (.int .i64 0) ∧
      BunTo w (ownL [ownV 4 g (bitV bs)]) (rdL [ownV 4 g (bitV bs)]) [ownV 4 g (bitV (bs.set i false))] w' := by
  subst hz
  have H := hb.open_
  have HI := Lib.hid hi
  have HF := Lib.hid hf
  have f1 : decide ((i : Int) < 2) = false := decide_eq_false (by omega)
  have f2 : ¬ ((bs.length : Int) ≤ (i : Int)) := by omega
  have f3 : ¬ (bs.length ≤ i) := by omega
  have f4 : ¬ ((i : Int) < 2) := by omega
  have f5 : (i : Int) < (bs.length : Int) := by omega
  have f6 : 0 ≤ (i : Int) := by omega
  clear hb hi hn hf h2
  unfold bitsV
  go_enter Tryz.func52, Tryz.ntmps52
  go_wp2_with (first
    | (refine wpList_box_st H rfl 84 _ rfl _ rfl ?_; clear H; intro W gb H; replace H : St (ownL [ownV 4 g (bitV bs)]) (rdL [ownV 4 g (bitV bs)]) w _ [ownV 4 g (bitV bs), blk gb (.cells #[.slice (some ⟨g, 0, none⟩) bs.length cap, .int .u32 r, .int .u64 v] 84 (0, 0))] := H)
    | (refine wpList_load1_st rfl 46 _ rfl _ _ rfl _ _ _ (H.at 1 rfl) _ Tryz.underlying46 rfl _ rfl ?_)
    | (refine wpList_load1c rfl 4 _ rfl _ _ rfl _ Tryz.underlying4 rfl (.bool true) (ownV_cell (H.at 0 rfl) (bitV_get bs i HI.out HF.out)) ?_)
    | (refine wpList_storeV H 0 rfl 4 _ _ rfl 4 g i (bitV bs) rfl (.bool false) rfl rfl rfl size_bool (by rw [bitV_len]; exact HI.out) ?_; clear H; intro W H))
  go_ret
  refine ⟨rfl, ?_⟩
  rw [← bitV_set]
  exact St.bunTo (H.take 1)

set_option maxHeartbeats 1000000 in
theorem bfree_no {w : World} {g cap : Nat} {bs : List Bool} (hb : Bundle w [ownV 4 g (bitV bs)]) (r v z : Int) (hn : bs.length ≤ 1900) (hz : z < 2 ∨ (bs.length : Int) ≤ z ∨ (0 ≤ z ∧ bs.getD z.toNat false = false)) :
    Calls Tryz.prog 52 #[bitsV g bs.length cap r v, .int .i64 z] w fun e w' => e = .returned (.int .i64 1) ∧
      BunTo w (ownL [ownV 4 g (bitV bs)]) (rdL [ownV 4 g (bitV bs)]) [ownV 4 g (bitV bs)] w' := by
  have H := hb.open_
  unfold bitsV
  by_cases h2 : z < 2
  · have f1 : decide (z < 2) = true := decide_eq_true h2
    clear hb hn hz
    go_enter Tryz.func52, Tryz.ntmps52
    go_wp2_with (first
      | (refine wpList_box_st H rfl 84 _ rfl _ rfl ?_; clear H; intro W gb H; replace H : St (ownL [ownV 4 g (bitV bs)]) (rdL [ownV 4 g (bitV bs)]) w _ [ownV 4 g (bitV bs), blk gb (.cells #[.slice (some ⟨g, 0, none⟩) bs.length cap, .int .u32 r, .int .u64 v] 84 (0, 0))] := H))
    go_ret
    exact ⟨rfl, St.bunTo (H.take 1)⟩
  · have f1 : decide (z < 2) = false := decide_eq_false h2
    by_cases h3 : (bs.length : Int) ≤ z
    · have f2 : decide ((bs.length : Int) ≤ z) = true := decide_eq_true h3
      clear hb hn hz
      go_enter Tryz.func52, Tryz.ntmps52
      go_wp2_with (first
        | (refine wpList_box_st H rfl 84 _ rfl _ rfl ?_; clear H; intro W gb H; replace H : St (ownL [ownV 4 g (bitV bs)]) (rdL [ownV 4 g (bitV bs)]) w _ [ownV 4 g (bitV bs), blk gb (.cells #[.slice (some ⟨g, 0, none⟩) bs.length cap, .int .u32 r, .int .u64 v] 84 (0, 0))] := H)
        | (refine wpList_load1_st rfl 46 _ rfl _ _ rfl _ _ _ (H.at 1 rfl) _ Tryz.underlying46 rfl _ rfl ?_))
      go_ret
      exact ⟨rfl, St.bunTo (H.take 1)⟩
    · have f2 : decide ((bs.length : Int) ≤ z) = false := decide_eq_false h3
      obtain ⟨i, rfl⟩ : ∃ i : Nat, z = (i : Int) := ⟨z.toNat, by omega⟩
      have hf : bs.getD i false = false := by
        rcases hz with h | h | ⟨_, h⟩
        · omega
        · omega
        · simpa using h
      have HF := Lib.hid hf
      have HI := Lib.hid (show i < bs.length by omega)
      have f3 : ¬ (bs.length ≤ i) := by omega
      have f5 : (i : Int) < (bs.length : Int) := by omega
      have f6 : 0 ≤ (i : Int) := by omega
      clear hb hn hz hf
      go_enter Tryz.func52, Tryz.ntmps52
      go_wp2_with (first
        | (refine wpList_box_st H rfl 84 _ rfl _ rfl ?_; clear H; intro W gb H; replace H : St (ownL [ownV 4 g (bitV bs)]) (rdL [ownV 4 g (bitV bs)]) w _ [ownV 4 g (bitV bs), blk gb (.cells #[.slice (some ⟨g, 0, none⟩) bs.length cap, .int .u32 r, .int .u64 v] 84 (0, 0))] := H)
        | (refine wpList_load1_st rfl 46 _ rfl _ _ rfl _ _ _ (H.at 1 rfl) _ Tryz.underlying46 rfl _ rfl ?_)
        | (refine wpList_load1c rfl 4 _ rfl _ _ rfl _ Tryz.underlying4 rfl (.bool false) (ownV_cell (H.at 0 rfl) (bitV_get bs i HI.out HF.out)) ?_))
      go_ret
      exact ⟨rfl, St.bunTo (H.take 1)⟩

end Go.Proofs.YtphpegnfcelagaaGreatDoor

namespace Go.Proofs.YtphpegnfcelagaaGreatDoor
open Go.RowKit
set_option linter.unusedSimpArgs false
set_option linter.unusedVariables false
set_option maxRecDepth 40000

set_option maxHeartbeats 2000000 in
theorem Taken_ok {w : World} {s : TX} {c : Nat} (hb : Bundle w s.L) (h : s.Ok c) (z : Int) (i : Nat) (hz : (i : Int) = z) (hi : i < s.n) :
    Calls Tryz.prog 44 #[.pointer (some ⟨s.g, 0, none⟩), .int .i64 z] w fun e w' => e = .returned (.tuple #[.bool (hasB (s.v 1) i), .int .i64 0]) ∧ BunTo w (ownL s.L) (rdL s.L) s.L w' := by
  subst hz
  have H := hb.open_
  obtain ⟨O, hO⟩ : ∃ O, ownL s.L = O := ⟨_, rfl⟩
  obtain ⟨R, hR⟩ : ∃ R, rdL s.L = R := ⟨_, rfl⟩
  rw [hO, hR] at H ⊢
  have HO := Lib.hid h
  have H1 := Lib.hid (show 1 < s.n by have := h.nn; omega)
  obtain ⟨l, hl⟩ : ∃ l, s.v 1 = l := ⟨_, rfl⟩
  rw [hl]
  have HL := Lib.hid hl
  have HLL := Lib.hid (show l.length = 248 by rw [← hl]; exact h.lens 1 (by have := h.nn; omega))
  have HN := Lib.hid h.nn.2
  have HI := Lib.hid hi
  obtain ⟨b, hbb⟩ : ∃ b, hasB l i = b := ⟨_, rfl⟩
  rw [hbb]
  have HB := Lib.hid hbb
  have hi2 : ¬ ((i : Int) < 0) := by omega
  have hi5 : decide ((i : Int) < 0) = false := decide_eq_false hi2
  have hi3 : ¬ ((s.n : Int) ≤ (i : Int)) := by omega
  have hi4 : decide ((s.n : Int) ≤ (i : Int)) = false := decide_eq_false hi3
  have hi6 : ¬ (s.n ≤ i) := by omega
  clear hb h hO hR hl hi hbb
  go_enter Tryz.func44, Tryz.ntmps44
  go_wp2_with (first
    | (go_at_call 23; go_loud ((refine (rd_TX (s := s) H.bundle HO.out _ 1 rfl H1.out).mono ?_); rintro e W ⟨gc, off, cap, rfl, _, hcap, hgc, hto⟩; replace H := hto.front (R := []) (by rw [List.append_nil]; exact H); clear hto; rw [List.append_nil, HL.out] at H))
    | (go_at_call 24; go_loud ((refine (homes_TX (s := s) (H.take 7).bundle HO.out rfl).mono ?_); rintro e W ⟨rfl, hto⟩; replace H := hto.front (R := [ownB gc off l]) H; clear hto))
    | (go_at_call 65; go_loud ((refine (has_calls gc off cap l _ i rfl (by have := HI.out; have := HN.out; omega) _ (ownB_bytes (H.at 7 rfl)) HLL.out hcap).mono ?_); rintro e W' ⟨rfl, rfl⟩; rw [HB.out])))
  refine bodyPost_ret (results_tmp2 rfl _ _ _) rfl ?_
  exact ⟨rfl, St.bunTo (H.take 7)⟩

set_option maxHeartbeats 2000000 in
theorem Taken_no {w : World} {s : TX} {c : Nat} (hb : Bundle w s.L) (h : s.Ok c) (z : Int) (hz : z < 0 ∨ (s.n : Int) ≤ z) :
    Calls Tryz.prog 44 #[.pointer (some ⟨s.g, 0, none⟩), .int .i64 z] w fun e w' => e = .returned (.tuple #[.bool false, .int .i64 1]) ∧ BunTo w (ownL s.L) (rdL s.L) s.L w' := by
  have H := hb.open_
  obtain ⟨O, hO⟩ : ∃ O, ownL s.L = O := ⟨_, rfl⟩
  obtain ⟨R, hR⟩ : ∃ R, rdL s.L = R := ⟨_, rfl⟩
  rw [hO, hR] at H ⊢
  have HO := Lib.hid h
  have H1 := Lib.hid (show 1 < s.n by have := h.nn; omega)
  obtain ⟨l, hl⟩ : ∃ l, s.v 1 = l := ⟨_, rfl⟩
  have HL := Lib.hid hl
  clear hb h hO hR hl
  by_cases h0 : z < 0
  · have f0 : decide (z < 0) = true := decide_eq_true h0
    clear hz
    go_enter Tryz.func44, Tryz.ntmps44
    go_wp2_with (first
      | (go_at_call 23; go_loud ((refine (rd_TX (s := s) H.bundle HO.out _ 1 rfl H1.out).mono ?_); rintro e W ⟨gc, off, cap, rfl, _, hcap, hgc, hto⟩; replace H := hto.front (R := []) (by rw [List.append_nil]; exact H); clear hto; rw [List.append_nil, HL.out] at H)))
    refine bodyPost_ret (results_tmp2 rfl _ _ _) rfl ?_
    exact ⟨rfl, St.bunTo (H.take 7)⟩
  · have f0 : decide (z < 0) = false := decide_eq_false h0
    have h1 : (s.n : Int) ≤ z := by omega
    have f1 : decide ((s.n : Int) ≤ z) = true := decide_eq_true h1
    clear hz
    go_enter Tryz.func44, Tryz.ntmps44
    go_wp2_with (first
      | (go_at_call 23; go_loud ((refine (rd_TX (s := s) H.bundle HO.out _ 1 rfl H1.out).mono ?_); rintro e W ⟨gc, off, cap, rfl, _, hcap, hgc, hto⟩; replace H := hto.front (R := []) (by rw [List.append_nil]; exact H); clear hto; rw [List.append_nil, HL.out] at H))
      | (go_at_call 24; go_loud ((refine (homes_TX (s := s) (H.take 7).bundle HO.out rfl).mono ?_); rintro e W ⟨rfl, hto⟩; replace H := hto.front (R := [ownB gc off l]) H; clear hto)))
    refine bodyPost_ret (results_tmp2 rfl _ _ _) rfl ?_
    exact ⟨rfl, St.bunTo (H.take 7)⟩

/-- What the homes say, as bits. -/
structure BitsOf (f : Nat → List UInt8) (bs : List Bool) (r v : Nat) : Prop where
  len : bs.length = 34
  has : ∀ k, k < 34 → hasB (f 1) k = bs.getD k false
  root : le (f 0) 0 4 = r
  ver : le (f 0) 4 8 = v
  rlt : r < 4294967296
  vlt : v < 18446744073709551616

theorem bit_mod (b s : Nat) : (b / 2 ^ s % 2 == 1) = b.testBit s := by
  rw [Nat.testBit_eq_decide_div_mod_eq]
  by_cases h : b / 2 ^ s % 2 = 1
  · rw [h]; rfl
  · have h0 : b / 2 ^ s % 2 = 0 := by omega
    rw [h0]; rfl

end Go.Proofs.YtphpegnfcelagaaGreatDoor

namespace Go.Proofs.YtphpegnfcelagaaGreatDoor
open Go.RowKit
set_option linter.unusedSimpArgs false
set_option linter.unusedVariables false
set_option maxRecDepth 40000

theorem takes_over {w : World} {s : TX} {c : Nat} (hb : Bundle w (s.L ++ [errA])) (h : s.t.Ok c) (ho : s.x.over = true) :
    Calls Tryz.prog 57 #[.pointer (some ⟨s.g, 0, none⟩)] w fun e w' => ∃ ge, e = .returned (.tuple #[.int .i64 0, partVS ge]) ∧ ErrS w' ge 15 ∧ BunTo w (ownL (s.L ++ [errA])) (rdL (s.L ++ [errA])) (s.L ++ [errA]) w' := by
  have H := hb.open_
  obtain ⟨O, hO⟩ : ∃ O, ownL (s.L ++ [errA]) = O := ⟨_, rfl⟩
  obtain ⟨R, hR⟩ : ∃ R, rdL (s.L ++ [errA]) = R := ⟨_, rfl⟩
  rw [hO, hR] at H ⊢
  have HT := Lib.hid h
  have HX := Lib.hid ho
  clear hb h ho hO hR
  go_enter Tryz.func57, Tryz.ntmps57
  go_wp2_with (first
    | (go_at_call 23; go_loud ((refine (tread_over (t := s.t) (x := s.x) H.bundle HT.out HX.out _).mono ?_); rintro e W ⟨rfl, hto⟩; replace H := hto.front (R := []) (by rw [List.append_nil]; exact H); clear hto; rw [List.append_nil] at H))
    | (go_at_call 90; go_loud ((refine (bad_noS 15 rfl _).mono ?_); rintro e W ⟨ge, rfl, hge, hbl⟩; replace H := (H.stay (Fix.of_below hbl _)); unfold partVS)))
  refine bodyPost_ret (results_tmp2 rfl _ _ _) rfl ?_
  exact ⟨ge, rfl, hge, H.bunTo⟩

theorem Take_over {w : World} {s : TX} {c : Nat} (hb : Bundle w (s.L ++ [errA])) (h : s.t.Ok c) (ho : s.x.over = true) :
    Calls Tryz.prog 20 #[.pointer (some ⟨s.g, 0, none⟩)] w fun e w' => e = .returned (.tuple #[.int .i64 0, .int .i64 15]) ∧ BunTo w (ownL (s.L ++ [errA])) (rdL (s.L ++ [errA])) (s.L ++ [errA]) w' := by
  have H := hb.open_
  have HT := Lib.hid h
  have HX := Lib.hid ho
  clear hb h ho
  go_enter Tryz.func20, Tryz.ntmps20
  go_wp2_with (first
    | (go_at_call 57; go_loud ((refine (takes_over (s := s) H.bundle HT.out HX.out).mono ?_); rintro e W ⟨ge, rfl, hge, hto⟩; replace H := hto.front (R := []) (by rw [List.append_nil]; exact H); rw [List.append_nil] at H; clear hto; unfold partVS))
    | (go_at_call 58; go_loud ((refine (code_errS ge 15 _ (H.at 7 rfl) hge).mono ?_); rintro e W2 ⟨rfl, hbl⟩; replace H := H.stay (Fix.of_below hbl _); clear hbl)))
  refine bodyPost_ret (results_tmp2 rfl _ _ _) rfl ?_
  exact ⟨rfl, H.bunTo⟩

set_option maxHeartbeats 2000000 in
theorem SetRoot_over {w : World} {s : TX} {c : Nat} (hb : Bundle w (s.L ++ [errA])) (h : s.t.Ok c) (ho : s.x.over = true) (zr zv : Int) (r v : Nat) (hzr : (r : Int) = zr) (hzv : (v : Int) = zv) (hr : r < 4294967296) (hv : v < 18446744073709551616) :
    Calls Tryz.prog 21 #[.pointer (some ⟨s.g, 0, none⟩), .int .u32 zr, .int .u64 zv] w fun e w' => e = .returned (.int .i64 15) ∧ BunTo w (ownL (s.L ++ [errA])) (rdL (s.L ++ [errA])) (s.L ++ [errA]) w' := by
  subst hzr hzv
  have H := hb.open_
  obtain ⟨O, hO⟩ : ∃ O, ownL (s.L ++ [errA]) = O := ⟨_, rfl⟩
  obtain ⟨R, hR⟩ : ∃ R, rdL (s.L ++ [errA]) = R := ⟨_, rfl⟩
  rw [hO, hR] at H ⊢
  have HT := Lib.hid h
  have HX := Lib.hid ho
  have HR := Lib.hid hr
  have HV := Lib.hid hv
  have hri : (r : Int) < 4294967296 := by omega
  have hr0 : 0 ≤ (r : Int) := by omega
  have tok1 : True := trivial
  clear hb h ho hO hR hr hv
  go_enter Tryz.func21, Tryz.ntmps21
  go_wp2_with (first
    | (go_at_call 59; have _t := tok1; clear _t; go_loud ((refine (put_at _ [] _ _ r 4 4 _ (.inl ⟨rfl, rfl⟩) rfl rfl (by simp) (by simp) (by omega) (by omega) (by have := HR.out; omega)).mono ?_); rintro e W1 ⟨g1, cap1, junk1, rfl, hl1, hc1, hj1, hm1, hg1, hb1, hbl⟩; replace H := H.add (Fix.of_below hbl _) (blk g1 _) hb1 (fun k hk => by rw [show k = g1 from hk]; exact hg1) (fun k hk => hk.elim); clear hb1 hbl tok1; simp only [List.nil_append] at H hl1 hj1))
    | (go_at_call 59; go_loud ((refine (put_at _ (Lib.leBytes 4 r) _ _ v 8 12 _ (argS_front (H.at 8 rfl) hl1 hc1) rfl rfl (by rw [hl1]) (by rw [hl1]; omega) (by omega) (by omega) HV.out).mono ?_); rintro e W2 ⟨g2, cap2, junk2, rfl, hl2, hc2, hj2, hm2, hg2, hb2, hbl⟩; replace H := (H.take 8).add (Fix.of_below hbl _) (blk g2 _) hb2 (fun k hk => by rw [show k = g2 from hk]; exact hg2) (fun k hk => hk.elim); clear hb2 hbl))
    | (refine wpList_appz_st H 8 rfl _ _ 40 3 rfl _ Tryz.underlying40 _ Tryz.underlying3 _ _ info_u8 rfl rfl g2 12 cap2 rfl _ rfl hc2 hj2 hm2 _ 236 rfl (by omega) (by simp only [maxLen]; omega) (by omega) ?_; clear H; intro W g5 cap5 junk5 H hj5 hc5 hm5; replace H := H.take 8; replace H : St O R w _ (s.L ++ [errA]) := H)
    | (go_at_call 28; go_loud ((refine (twrite_over (t := s.t) (x := s.x) H.bundle HT.out HX.out _ _).mono ?_); rintro e W ⟨rfl, hto⟩; replace H := (hto.front (R := []) (by rw [List.append_nil]; exact H)).take 8; clear hto)))
  go_ret
  exact ⟨rfl, H.bunTo⟩

theorem Format_over {w : World} {s : TX} {c : Nat} (hb : Bundle w (s.L ++ [errA])) (h : s.t.Ok c) (ho : s.x.over = true) :
    Calls Tryz.prog 19 #[.pointer (some ⟨s.g, 0, none⟩)] w fun e w' => e = .returned (.int .i64 15) ∧ BunTo w (ownL (s.L ++ [errA])) (rdL (s.L ++ [errA])) (s.L ++ [errA]) w' := by
  have H := hb.open_
  have HT := Lib.hid h
  have HX := Lib.hid ho
  clear hb h ho
  go_enter Tryz.func19, Tryz.ntmps19
  go_wp2_with (first
    | (go_at_call 21; go_loud ((refine (SetRoot_over (s := s) H.bundle HT.out HX.out _ _ 0 1 rfl rfl (by omega) (by omega)).mono ?_); rintro e W ⟨rfl, hto⟩; replace H := hto.front (R := []) (by rw [List.append_nil]; exact H); clear hto; rw [List.append_nil] at H)))
  go_ret
  exact ⟨rfl, H.bunTo⟩

theorem Free_over {w : World} {s : TX} {c : Nat} (hb : Bundle w (s.L ++ [errA])) (h : s.t.Ok c) (ho : s.x.over = true) (z : Int) :
    Calls Tryz.prog 25 #[.pointer (some ⟨s.g, 0, none⟩), .int .i64 z] w fun e w' => e = .returned (.int .i64 15) ∧ BunTo w (ownL (s.L ++ [errA])) (rdL (s.L ++ [errA])) (s.L ++ [errA]) w' := by
  have H := hb.open_
  have HT := Lib.hid h
  have HX := Lib.hid ho
  clear hb h ho
  go_enter Tryz.func25, Tryz.ntmps25
  go_wp2_with (first
    | (go_at_call 23; go_loud ((refine (tread_over (t := s.t) (x := s.x) H.bundle HT.out HX.out _).mono ?_); rintro e W ⟨rfl, hto⟩; replace H := hto.front (R := []) (by rw [List.append_nil]; exact H); clear hto; rw [List.append_nil] at H)))
  go_ret
  exact ⟨rfl, H.bunTo⟩

/-- It wrote the first two homes at most. -/
def TX.Few (s : TX) : Prop := ∀ k, 2 ≤ k → k < s.n → (s.V k).2 = false

theorem filter_few (p : Nat → Bool) : ∀ n, (∀ k, 2 ≤ k → k < n → p k = false) → ((List.range n).filter p).length ≤ min n 2
  | 0, _ => by simp
  | n + 1, h => by
    have ih := filter_few p n (fun k a b => h k a (by omega))
    rw [List.range_succ, List.filter_append, List.length_append]
    rcases Nat.lt_or_ge n 2 with h2 | h2
    · have : ([n].filter p).length ≤ 1 := List.length_filter_le p [n]
      omega
    · have : [n].filter p = [] := by simp [h n h2 (by omega)]
      rw [this]; simp only [List.length_nil]; omega

theorem TX.Few.keys {s : TX} {c : Nat} (h : s.Few) (hc : s.Ok c) : (keysOf s.x.f s.x.n).length ≤ 2 := by
  have := filter_few (fun k => (s.x.f k).isSome) s.x.n (fun k a b => h k a (by rw [hc.n] at b; exact b))
  unfold keysOf
  omega

theorem TX.Few.to {s s' : TX} {c : Nat} {v' : Nat → List UInt8 × Bool} (h : s.Few) (hs : s.To s' c v') (hv : ∀ k, 2 ≤ k → v' k = s.V k) : s'.Few := fun k a b => by
  rw [hs.n] at b
  rw [hs.V k b, hv k a]
  exact h k a b

theorem updV_up (v : Nat → List UInt8 × Bool) (i : Nat) (l : List UInt8) (hi : i < 2) (k : Nat) (hk : 2 ≤ k) : updV v i l k = v k := by
  unfold updV
  rw [if_neg (by omega)]

theorem commit_TX {w : World} {s : TX} {c : Nat} (hb : Bundle w (s.L ++ [errA])) (h : s.Ok c) (hc : c < 400) (hk : (keysOf s.x.f s.x.n).length < 24) (hr : s.t.X.ring = 24) :
    Calls Tryz.prog 31 #[.pointer (some ⟨s.g, 0, none⟩)] w fun e w' => e = .returned (.int .i64 0) ∧ ∃ t' : LogT, t'.Ok (c + 1) ∧ t'.n = s.n ∧ t'.X.ring = 24 ∧ (∀ k, k < s.n → t'.hom k = s.v k) ∧
      BunTo w (ownL (s.L ++ [errA])) (rdL (s.L ++ [errA])) (t'.L s.x.gl ++ s.x.done.L s.g ++ [errA]) w' := by
  refine (tcommit_calls (t := s.t) (x := s.x) hb h.ok hc h.over h.n).mono ?_
  rintro e w' ⟨rfl, t', hco, hto⟩
  have hcond : (keysOf s.x.f s.x.n).length ≤ 119 ∧ (keysOf s.x.f s.x.n).length < s.t.X.ring := by rw [hr]; omega
  refine ⟨?_, t', hco.ok, hco.n, hco.ring.trans hr, fun k hk => ?_, hto⟩
  · unfold commitC; rw [if_pos hcond]
  · rw [hco.hom k hk, if_pos hcond]; rfl

theorem abort_TX {w : World} {s : TX} (hb : Bundle w s.L) :
    Calls Tryz.prog 33 #[.pointer (some ⟨s.g, 0, none⟩)] w fun e w' => e = .returned (.tuple #[]) ∧ BunTo w (ownL s.L) (rdL s.L) (s.t.L s.x.gl ++ s.x.done.L s.g) w' := by
  have H := hb.open_
  obtain ⟨O, hO⟩ : ∃ O, ownL s.L = O := ⟨_, rfl⟩
  obtain ⟨R, hR⟩ : ∃ R, rdL s.L = R := ⟨_, rfl⟩
  rw [hO, hR] at H ⊢
  have H1 := St.rotate (A := s.t.L s.x.gl) (B := s.x.L s.g) H
  refine (tabort_calls (x := s.x) (g := s.g) (H1.take 3).bundle).mono ?_
  rintro e w' ⟨rfl, hto⟩
  exact ⟨rfl, St.bunTo (St.rotate (hto.front (R := s.t.L s.x.gl) H1))⟩

/-- A transaction that is new, on a log that is fine. -/
theorem TX.begun_ok {t : LogT} {c n : Nat} (ht : t.Ok c) (hn : t.n = n) (hl : ∀ k, k < n → (t.hom k).length = 248) (gl gm g : Nat) : TX.Ok ⟨t, TxT.new gl gm n, g⟩ c ∧ (∀ k, TX.V ⟨t, TxT.new gl gm n, g⟩ k = (t.hom k, false)) :=
  ⟨⟨ht, rfl, hn.symm, fun k hk => hl k (by rw [← hn]; exact hk)⟩, fun k => rfl⟩

/-- The last one goes to i's place. -/
theorem St.moveTo {M0 R0 : Nat → Prop} {w0 W : World} {L : List Asrt} {A : Asrt} (H : St M0 R0 w0 W (L ++ [A])) (i : Nat) (hi : i < L.length) : St M0 R0 w0 W (L.set i A) := by
  refine H.pick (fun m => if m = i then L.length else m) ?_ ?_
  · intro m C hm
    show (L ++ [A])[if m = i then L.length else m]? = some C
    rw [List.getElem?_set] at hm
    by_cases e : i = m
    · subst e
      rw [if_pos rfl, if_pos hi] at hm
      rw [if_pos rfl]
      simp only [List.getElem?_append_right (Nat.le_refl _), Nat.sub_self]
      exact hm
    · rw [if_neg e] at hm
      rw [if_neg (fun x => e x.symm), List.getElem?_append_left (List.getElem?_eq_some_iff.1 hm).1]
      exact hm
  · intro m l hm hl
    rw [List.length_set] at hm hl
    show (if m = i then L.length else m) = (if l = i then L.length else l) → m = l
    split <;> split <;> omega

end Go.Proofs.YtphpegnfcelagaaGreatDoor

namespace Go.Proofs.YtphpegnfcelagaaGreatDoor
open Go.RowKit
set_option linter.unusedSimpArgs false
set_option linter.unusedVariables false
set_option maxRecDepth 100000

theorem bcopy34 {w : World} {g cap n : Nat} {bs : List Bool} (h : (ownV 4 g (bitV bs)).prop w) (hl : bs.length = n) (hn : n ≤ 1900) (r v : Int) :
    Calls Tryz.prog 50 #[bitsV g n cap r v] w fun e w' => ∃ g' cap', e = .returned (bitsV g' n cap' r v) ∧ w.heap.size ≤ g' ∧ (ownV 4 g' (bitV bs)).prop w' ∧ Below w.heap.size w w' := by
  subst hl; exact bcopy_calls h hn r v

theorem bit_tmod (b : UInt8) (m : Nat) : (((b.toNat : Int) / 2 ^ m).tmod 2 == 1) = b.toNat.testBit m := by
  have e1 : ((b.toNat : Int) / 2 ^ m) = ((b.toNat / 2 ^ m : Nat) : Int) := by push_cast; rfl
  rw [e1, ← bit_mod]
  have e2 : ((b.toNat / 2 ^ m : Nat) : Int).tmod 2 = ((b.toNat / 2 ^ m % 2 : Nat) : Int) := by rw [Int.tmod_eq_emod_of_nonneg (Int.natCast_nonneg _)]; rfl
  rw [e2]
  rcases Nat.mod_two_eq_zero_or_one (b.toNat / 2 ^ m) with h | h <;> rw [h] <;> rfl

set_option maxHeartbeats 8000000 in
theorem is_calls {w : World} {s : TX} {c : Nat} {g cap : Nat} {bs : List Bool} {r v : Nat} (hb : Bundle w (s.L ++ [ownV 4 g (bitV bs)])) (h : s.Ok c) (hn : s.n = 34) (hB : BitsOf s.v bs r v) (z : Int) :
    Calls Tryz.prog 53 #[bitsV g 34 cap r v, .pointer (some ⟨s.g, 0, none⟩), .int .i64 z] w fun e w' => e = .returned (.bool true) ∧
      BunTo w (ownL (s.L ++ [ownV 4 g (bitV bs)])) (rdL (s.L ++ [ownV 4 g (bitV bs)])) (s.L ++ [ownV 4 g (bitV bs)]) w' := by
  have H := hb.open_
  obtain ⟨O, hO⟩ : ∃ O, ownL (s.L ++ [ownV 4 g (bitV bs)]) = O := ⟨_, rfl⟩
  obtain ⟨R, hR⟩ : ∃ R, rdL (s.L ++ [ownV 4 g (bitV bs)]) = R := ⟨_, rfl⟩
  rw [hO, hR] at H ⊢
  have HO := Lib.hid h
  have HN := Lib.hid hn
  have HBS := Lib.hid hB
  have HLEN := Lib.hid hB.len
  obtain ⟨l, hl⟩ : ∃ l, s.v 1 = l := ⟨_, rfl⟩
  have HL := Lib.hid hl
  have HLL := Lib.hid (show l.length = 248 by rw [← hl]; exact h.lens 1 (by omega))
  have HHAS := Lib.hid (show ∀ k, k < 34 → hasB l k = bs.getD k false by rw [← hl]; exact hB.has)
  have hr0 : 0 ≤ (r : Int) := by omega
  have hv0 : 0 ≤ (v : Int) := by omega
  clear hb h hn hB hO hR hl
  unfold bitsV
  go_enter Tryz.func53, Tryz.ntmps53
  go_wp2_with (first
    | (refine wpList_box_st H rfl 84 _ rfl _ rfl ?_; clear H; intro W gb H; replace H : St O R w _ (s.L ++ [ownV 4 g (bitV bs), blk gb (.cells #[.slice (some ⟨g, 0, none⟩) 34 cap, .int .u32 (r : Int), .int .u64 (v : Int)] 84 (0, 0))]) := H))
  go_loopw [7, 8] (fun lv u wr => ∃ j : Nat, u = .int .i64 (j : Int) ∧ lv = .int .i64 (leftOf l j : Int) ∧ j ≤ 34 ∧ St O R w wr (s.L ++ [ownV 4 g (bitV bs), blk gb (.cells #[.slice (some ⟨g, 0, none⟩) 34 cap, .int .u32 (r : Int), .int .u64 (v : Int)] 84 (0, 0))])) (fun _ u _ => 34 - (intOf u).toNat)
  case atStart => exact ⟨0, rfl, rfl, Nat.zero_le _, H⟩
  case round =>
    clear H
    obtain ⟨j, rfl, rfl, hj, H⟩ := hrel
    have hj0 : 0 ≤ (j : Int) := by omega
    rcases Nat.lt_or_ge j 34 with hlt | hge
    · have hji : (j : Int) < 34 := by omega
      have HJ := Lib.hid hlt
      have HJL := Lib.hid (show j < bs.length by rw [HLEN.out]; exact hlt)
      have HLS := Lib.hid (leftOf_succ l j)
      obtain ⟨q, hq⟩ : ∃ q, leftOf l j = q := ⟨_, rfl⟩
      have hq9 : (q : Int) ≤ 34 := by have := leftOf_le l j; omega
      have hq0 : 0 ≤ (q : Int) := by omega
      rw [hq] at HLS ⊢
      have HH := Lib.hid (HHAS.out j hlt)
      clear hq hlt hj
      cases hbb : bs.getD j false with
      | true =>
        have HB := Lib.hid hbb
        clear hbb
        go_wp2_with (first
          | (go_at_call 44; go_loud ((refine (Taken_ok (s := s) (H.take 7).bundle HO.out _ j rfl (by rw [HN.out]; exact HJ.out)).mono ?_); rintro e W ⟨rfl, hto⟩; replace H := hto.front (R := [ownV 4 g (bitV bs), blk gb _]) H; clear hto; rw [HL.out, HH.out, HB.out]))
          | (refine wpList_load1_st rfl 46 _ rfl _ _ rfl _ _ _ (H.at 8 rfl) _ Tryz.underlying46 rfl _ rfl ?_)
          | (refine wpList_load1c rfl 4 _ rfl _ _ rfl _ Tryz.underlying4 rfl (.bool true) (ownV_cell (H.at 7 rfl) (bitV_get bs j HJL.out HB.out)) ?_))
        go_roundw
        case rel => exact ⟨j + 1, congrArg _ (by omega), by rw [HLS.out, HH.out, HB.out]; rfl, HJ.out, H⟩
        case measure => have := HJ.out; simp [intOf]; omega
      | false =>
        have HB := Lib.hid hbb
        clear hbb
        go_wp2_with (first
          | (go_at_call 44; go_loud ((refine (Taken_ok (s := s) (H.take 7).bundle HO.out _ j rfl (by rw [HN.out]; exact HJ.out)).mono ?_); rintro e W ⟨rfl, hto⟩; replace H := hto.front (R := [ownV 4 g (bitV bs), blk gb _]) H; clear hto; rw [HL.out, HH.out, HB.out]))
          | (refine wpList_load1_st rfl 46 _ rfl _ _ rfl _ _ _ (H.at 8 rfl) _ Tryz.underlying46 rfl _ rfl ?_)
          | (refine wpList_load1c rfl 4 _ rfl _ _ rfl _ Tryz.underlying4 rfl (.bool false) (ownV_cell (H.at 7 rfl) (bitV_get bs j HJL.out HB.out)) ?_))
        go_roundw
        case rel => exact ⟨j + 1, congrArg _ (by omega), by rw [HLS.out, HH.out, HB.out]; rfl, HJ.out, H⟩
        case measure => have := HJ.out; simp [intOf]; omega
    · obtain rfl : j = 34 := by omega
      obtain ⟨lf, hlf⟩ : ∃ lf : Nat, leftOf l 34 = lf := ⟨_, rfl⟩
      rw [hlf]
      have HLF := Lib.hid (show leftOf (s.v 1) s.n = lf by rw [HL.out, HN.out]; exact hlf)
      clear hlf hge hj
      have hzz : (z < 0 ∧ decide (0 ≤ z) = false) ∨ (0 ≤ z ∧ 34 ≤ z ∧ decide (0 ≤ z) = true ∧ decide (z < 34) = false) ∨ (0 ≤ z ∧ z < 34 ∧ decide (0 ≤ z) = true ∧ decide (z < 34) = true) := by
        by_cases h0 : 0 ≤ z
        · by_cases h1 : z < 34
          · exact .inr (.inr ⟨h0, h1, decide_eq_true h0, decide_eq_true h1⟩)
          · exact .inr (.inl ⟨h0, by omega, decide_eq_true h0, decide_eq_false h1⟩)
        · exact .inl ⟨by omega, decide_eq_false h0⟩
      rcases hzz with ⟨z1, z2⟩ | ⟨z0, z1, z2, z3⟩ | ⟨z0, z1, z2, z3⟩
      all_goals
        have HZ1 := Lib.hid z1
        go_wp2_with (first
          | (go_at_call 44; ((refine (Taken_no (s := s) (H.take 7).bundle HO.out z (by have := HZ1.out; have := HN.out; omega)).mono ?_); rintro e W ⟨rfl, hto⟩; replace H := hto.front (R := [ownV 4 g (bitV bs), blk gb _]) H; clear hto))
          | (go_at_call 44; ((refine (Taken_ok (s := s) (H.take 7).bundle HO.out z z.toNat (by omega) (by have := HZ1.out; have := HN.out; omega)).mono ?_); rintro e W ⟨rfl, hto⟩; replace H := hto.front (R := [ownV 4 g (bitV bs), blk gb _]) H; clear hto))
          | (refine wpList_load1_st rfl 46 _ rfl _ _ rfl _ _ _ (H.at 8 rfl) _ Tryz.underlying46 rfl _ rfl ?_)
          | (go_at_call 26; go_loud ((refine (Left_ok (s := s) (H.take 7).bundle HO.out).mono ?_); rintro e W ⟨rfl, hto⟩; replace H := hto.front (R := [ownV 4 g (bitV bs), blk gb _]) H; clear hto; rw [HLF.out]))
          | (go_at_call 22; go_loud ((refine (Root_ok (s := s) (H.take 7).bundle HO.out).mono ?_); rintro e W ⟨rfl, hto⟩; replace H := hto.front (R := [ownV 4 g (bitV bs), blk gb _]) H; clear hto; rw [HBS.out.root, HBS.out.ver]))
          | (go_at_call 23; go_loud ((refine (rd_TX (s := s) (H.take 7).bundle HO.out _ 1 rfl (by rw [HN.out]; omega)).mono ?_); rintro e W ⟨gc, off, capc, rfl, _, hcap, hgc, hto⟩; replace H := hto.front2 (R := [ownV 4 g (bitV bs), blk gb _]) H; clear hto; rw [HL.out] at H)))
        replace H : St O R w W (s.L ++ [ownV 4 g (bitV bs), blk gb (.cells #[.slice (some ⟨g, 0, none⟩) 34 cap, .int .u32 (r : Int), .int .u64 (v : Int)] 84 (0, 0)), ownB gc off l]) := H
        go_loopw [21] (fun u wr => ∃ q : Nat, u = .int .i64 (q : Int) ∧ 2 ≤ q ∧ q ≤ 34 ∧ St O R w wr (s.L ++ [ownV 4 g (bitV bs), blk gb (.cells #[.slice (some ⟨g, 0, none⟩) 34 cap, .int .u32 (r : Int), .int .u64 (v : Int)] 84 (0, 0)), ownB gc off l])) (fun u _ => 34 - (intOf u).toNat)
        case atStart => exact ⟨2, rfl, Nat.le_refl _, by omega, H⟩
        case round =>
          clear H
          obtain ⟨q, rfl, hq2, hq34, H⟩ := hrel
          have hq0 : 0 ≤ (q : Int) := by omega
          rcases Nat.lt_or_ge q 34 with hlt | hge
          · have hqi : (q : Int) < 34 := by omega
            have HQ := Lib.hid hlt
            have HQL := Lib.hid (show q < bs.length by rw [HLEN.out]; exact hlt)
            obtain ⟨d, hd⟩ : ∃ d, q / 8 = d := ⟨_, rfl⟩
            obtain ⟨m, hm⟩ : ∃ m, q % 8 = m := ⟨_, rfl⟩
            have hqt : ((q : Int)).tdiv 8 = (d : Int) := by rw [Int.tdiv_eq_ediv_of_nonneg (by omega)]; omega
            have hst : ((q : Int)).tmod 8 = (m : Int) := by rw [Int.tmod_eq_emod_of_nonneg (by omega)]; omega
            have hd2 : (d : Int) < 248 := by omega
            have hd0 : 0 ≤ (d : Int) := by omega
            have hm2 : (m : Int) < 8 := by omega
            have hm0 : 0 ≤ (m : Int) := by omega
            obtain ⟨b, hb⟩ : ∃ b, l[d]'(by rw [HLL.out]; omega) = b := ⟨_, rfl⟩
            have HCL := Lib.hid (show l[d]? = some b by rw [← hb, List.getElem?_eq_getElem])
            obtain ⟨bb, hbb⟩ : ∃ bb, bs.getD q false = bb := ⟨_, rfl⟩
            have HBB := Lib.hid hbb
            have HKEY := Lib.hid (show b.toNat.testBit m = bb by
              rw [← hbb, ← HHAS.out q hlt]
              unfold hasB bitB
              rw [hd, hm, decide_eq_false (by omega), Bool.false_or, List.getD_eq_getElem?_getD, HCL.out]; rfl)
            have hblt : (b.toNat : Int) < 256 := by have := b.toNat_lt; omega
            have hb0 : 0 ≤ (b.toNat : Int) := by omega
            clear hb hbb hd hm hlt hq34
            go_upto_region 20 with (first
              | (refine wpList_load1_st rfl 46 _ rfl _ _ rfl _ _ _ (H.at 8 rfl) _ Tryz.underlying46 rfl _ rfl ?_))
            have hwd : IntKind.i64.wrap (d : Int) = (d : Int) := by rw [IntKind.wrap_i64]; omega
            have hwm : IntKind.i64.wrap (m : Int) = (m : Int) := by rw [IntKind.wrap_i64]; omega
            replace H := H.drew
            refine wp_region_held_drew (S := fun w' => w'.cell? ⟨gc, off + d, none⟩ = some (.int .u8 (b.toNat : Int)) ∧ w'.cell? ⟨gb, 0, none⟩ = some (.slice (some ⟨g, 0, none⟩) 34 cap) ∧ w'.cell? ⟨g, q, none⟩ = some (.bool bb)) (by kernel_rfl) ⟨(ownB_bytes (H.at 9 rfl)).cellv HCL.out, row_cell (H.at 8 rfl) rfl, ownV_cell (H.at 7 rfl) (bitV_get bs q HQL.out HBB.out)⟩ (fun hHeld => ?_)
            (refine wpAnyH_take (i := 0) (v := ?_) rfl (by kernel_rfl) (by kernel_rfl) (by kernel_rfl) (fun _ _ _ h => h) (Or.inl ⟨by rfl, ?_⟩) (by assumption) ?_; rotate_left; focus (intro w hSw; (try dsimp only at hSw); go_simp; all_goals (with_reducible rfl))); (try simp only [Act.put, List.setIfInBounds_toArray, List.set_cons_zero, List.set_cons_succ, List.getElem_toArray, List.getElem_cons_succ, List.getElem_cons_zero])
            (refine wpAnyH_take (i := 1) (v := ?_) rfl (by kernel_rfl) (by kernel_rfl) (by kernel_rfl) (fun _ _ _ h => h) (Or.inl ⟨by rfl, ?_⟩) (by assumption) ?_; rotate_left; focus (intro w hSw; (try dsimp only at hSw); go_simp; all_goals (with_reducible rfl))); (try simp only [Act.put, List.setIfInBounds_toArray, List.set_cons_zero, List.set_cons_succ, List.getElem_toArray, List.getElem_cons_succ, List.getElem_cons_zero])
            (refine wpAnyH_take (i := 2) (v := ?_) rfl (by kernel_rfl) (by kernel_rfl) (by kernel_rfl) (fun _ _ _ h => h) (Or.inl ⟨by rfl, ?_⟩) (by assumption) ?_; rotate_left; focus (intro w hSw; (try dsimp only at hSw); go_simp; all_goals (with_reducible rfl))); (try simp only [Act.put, List.setIfInBounds_toArray, List.set_cons_zero, List.set_cons_succ, List.getElem_toArray, List.getElem_cons_succ, List.getElem_cons_zero])
            (refine wpAnyH_take (i := 3) (v := ?_) rfl (by kernel_rfl) (by kernel_rfl) (by kernel_rfl) (fun _ _ _ h => h) (Or.inl ⟨by rfl, ?_⟩) (by assumption) ?_; rotate_left; focus (intro w hSw; (try dsimp only at hSw); go_simp; all_goals (with_reducible rfl))); (try simp only [Act.put, List.setIfInBounds_toArray, List.set_cons_zero, List.set_cons_succ, List.getElem_toArray, List.getElem_cons_succ, List.getElem_cons_zero])
            (refine wpAnyH_take (i := 4) rfl (by kernel_rfl) (by kernel_rfl) (by kernel_rfl) (fun _ _ _ h => h) ((yieldsIf_load1 (by rfl) 5 _ rfl _ _ (by rfl) _ Tryz.underlying5 rfl _ (fun w h => h.1))) (by assumption) ?_); (try simp only [Act.put, List.setIfInBounds_toArray, List.set_cons_zero, List.set_cons_succ, List.getElem_toArray, List.getElem_cons_succ, List.getElem_cons_zero])
            (refine wpAnyH_take (i := 5) (v := ?_) rfl (by kernel_rfl) (by kernel_rfl) (by kernel_rfl) (fun _ _ _ h => h) (Or.inl ⟨by rfl, ?_⟩) (by assumption) ?_; rotate_left; focus (intro w hSw; (try dsimp only at hSw); go_simp; all_goals (with_reducible rfl))); (try simp only [Act.put, List.setIfInBounds_toArray, List.set_cons_zero, List.set_cons_succ, List.getElem_toArray, List.getElem_cons_succ, List.getElem_cons_zero])
            (refine wpAnyH_take (i := 6) (v := ?_) rfl (by kernel_rfl) (by kernel_rfl) (by kernel_rfl) (fun _ _ _ h => h) (Or.inl ⟨by rfl, ?_⟩) (by assumption) ?_; rotate_left; focus (intro w hSw; (try dsimp only at hSw); go_simp; all_goals (with_reducible rfl))); (try simp only [Act.put, List.setIfInBounds_toArray, List.set_cons_zero, List.set_cons_succ, List.getElem_toArray, List.getElem_cons_succ, List.getElem_cons_zero])
            (refine wpAnyH_take (i := 7) (v := ?_) rfl (by kernel_rfl) (by kernel_rfl) (by kernel_rfl) (fun _ _ _ h => h) (Or.inl ⟨by rfl, ?_⟩) (by assumption) ?_; rotate_left; focus (intro w hSw; (try dsimp only at hSw); go_simp; all_goals (with_reducible rfl))); (try simp only [Act.put, List.setIfInBounds_toArray, List.set_cons_zero, List.set_cons_succ, List.getElem_toArray, List.getElem_cons_succ, List.getElem_cons_zero])
            (refine wpAnyH_take (i := 8) (v := ?_) rfl (by kernel_rfl) (by kernel_rfl) (by kernel_rfl) (fun _ _ _ h => h) (Or.inl ⟨by rfl, ?_⟩) (by assumption) ?_; rotate_left; focus (intro w hSw; (try dsimp only at hSw); go_simp; all_goals (with_reducible rfl))); (try simp only [Act.put, List.setIfInBounds_toArray, List.set_cons_zero, List.set_cons_succ, List.getElem_toArray, List.getElem_cons_succ, List.getElem_cons_zero])
            (refine wpAnyH_take (i := 9) (v := ?_) rfl (by kernel_rfl) (by kernel_rfl) (by kernel_rfl) (fun _ _ _ h => h) (Or.inl ⟨by rfl, ?_⟩) (by assumption) ?_; rotate_left; focus (intro w hSw; (try dsimp only at hSw); go_simp; all_goals (with_reducible rfl))); (try simp only [Act.put, List.setIfInBounds_toArray, List.set_cons_zero, List.set_cons_succ, List.getElem_toArray, List.getElem_cons_succ, List.getElem_cons_zero])
            (refine wpAnyH_take (i := 10) (v := ?_) rfl (by kernel_rfl) (by kernel_rfl) (by kernel_rfl) (fun _ _ _ h => h) (Or.inl ⟨by rfl, ?_⟩) (by assumption) ?_; rotate_left; focus (intro w hSw; (try dsimp only at hSw); go_simp; all_goals (with_reducible rfl))); (try simp only [Act.put, List.setIfInBounds_toArray, List.set_cons_zero, List.set_cons_succ, List.getElem_toArray, List.getElem_cons_succ, List.getElem_cons_zero])
            (refine wpAnyH_take (i := 11) rfl (by kernel_rfl) (by kernel_rfl) (by kernel_rfl) (fun _ _ _ h => h) ((yieldsIf_load1 (by rfl) 46 _ rfl _ _ (by rfl) _ Tryz.underlying46 rfl _ (fun w h => h.2.1))) (by assumption) ?_); (try simp only [Act.put, List.setIfInBounds_toArray, List.set_cons_zero, List.set_cons_succ, List.getElem_toArray, List.getElem_cons_succ, List.getElem_cons_zero])
            (refine wpAnyH_take (i := 12) (v := ?_) rfl (by kernel_rfl) (by kernel_rfl) (by kernel_rfl) (fun _ _ _ h => h) (Or.inl ⟨by rfl, ?_⟩) (by assumption) ?_; rotate_left; focus (intro w hSw; (try dsimp only at hSw); go_simp; all_goals (with_reducible rfl))); (try simp only [Act.put, List.setIfInBounds_toArray, List.set_cons_zero, List.set_cons_succ, List.getElem_toArray, List.getElem_cons_succ, List.getElem_cons_zero])
            (refine wpAnyH_take (i := 13) (v := ?_) rfl (by kernel_rfl) (by kernel_rfl) (by kernel_rfl) (fun _ _ _ h => h) (Or.inl ⟨by rfl, ?_⟩) (by assumption) ?_; rotate_left; focus (intro w hSw; (try dsimp only at hSw); go_simp; all_goals (with_reducible rfl))); (try simp only [Act.put, List.setIfInBounds_toArray, List.set_cons_zero, List.set_cons_succ, List.getElem_toArray, List.getElem_cons_succ, List.getElem_cons_zero])
            (refine wpAnyH_take (i := 14) rfl (by kernel_rfl) (by kernel_rfl) (by kernel_rfl) (fun _ _ _ h => h) ((yieldsIf_load1 (by rfl) 4 _ rfl _ _ (by rfl) _ Tryz.underlying4 rfl _ (fun w h => h.2.2))) (by assumption) ?_); (try simp only [Act.put, List.setIfInBounds_toArray, List.set_cons_zero, List.set_cons_succ, List.getElem_toArray, List.getElem_cons_succ, List.getElem_cons_zero])
            refine wpAnyH_take (i := 15) (v := .bool false) rfl (by kernel_rfl) (by kernel_rfl) (by kernel_rfl) (fun _ _ _ h => h) (Or.inl ⟨by rfl, fun w hSw => by dsimp only at hSw; go_simp; exact (bit_tmod b m).trans HKEY.out⟩) (by assumption) ?_
            (try simp only [Act.put, List.setIfInBounds_toArray, List.set_cons_zero, List.set_cons_succ, List.getElem_toArray, List.getElem_cons_succ, List.getElem_cons_zero])
            (refine wpAnyH_done (by kernel_rfl) ?_ _)
            clear hHeld hwd hwm
            go_wp2
            go_roundw
            case rel => exact ⟨q + 1, congrArg _ (by omega), by omega, HQ.out, H⟩
            case measure => have := HQ.out; simp [intOf]; omega
          · obtain rfl : q = 34 := by omega
            go_wp2_with (first
              | (refine wpList_load1_st rfl 46 _ rfl _ _ rfl _ _ _ (H.at 8 rfl) _ Tryz.underlying46 rfl _ rfl ?_)
              | (refine wpList_load1_st rfl 37 _ rfl _ _ rfl _ _ _ (H.at 8 rfl) _ Tryz.underlying37 rfl _ rfl ?_)
              | (refine wpList_load1_st rfl 33 _ rfl _ _ rfl _ _ _ (H.at 8 rfl) _ Tryz.underlying33 rfl _ rfl ?_))
            go_ret
            exact ⟨rfl, St.bunTo (H.take 8)⟩

end Go.Proofs.YtphpegnfcelagaaGreatDoor

namespace Go.Proofs.YtphpegnfcelagaaGreatDoor
open Go.RowKit
set_option linter.unusedSimpArgs false
set_option linter.unusedVariables false
set_option maxRecDepth 40000

theorem Bundle.single {W : World} {A : Asrt} (h : A.prop W) : Bundle W [A] :=
  ⟨fun i B hi => by
    rcases i with _ | i
    · cases hi; exact h
    · simp at hi, fun i j B C hi hj hne => by
    rcases i with _ | i <;> rcases j with _ | j <;> first | omega | simp at hi hj⟩

/-- A call on one assertion amid others. -/
theorem BunTo.one {M0 R0 : Nat → Prop} {w0 W W' : World} {L : List Asrt} {A A' : Asrt} (h : BunTo W (ownL [A]) (rdL [A]) [A'] W') (H : St M0 R0 w0 W L) (i : Nat) (hi : L[i]? = some A) : St M0 R0 w0 W' (L.set i A') := by
  have e1 : ∀ k, ownL [A] k → A.own k := fun k ⟨B, hB, hk⟩ => by rw [List.mem_singleton] at hB; subst hB; exact hk
  have e2 : ∀ k, rdL [A] k → A.rd k := fun k ⟨B, hB, hk⟩ => by rw [List.mem_singleton] at hB; subst hB; exact hk
  refine H.step i hi (h.fix.mono fun k _ hk => e1 k hk) (h.holds.all 0 A' rfl) ⟨fun k hk => ?_, fun k hk => ?_⟩
  · rcases h.owns k ⟨A', List.mem_singleton.2 rfl, hk⟩ with h | h
    · exact .inl (e1 k h)
    · exact .inr h
  · rcases h.reads k ⟨A', List.mem_singleton.2 rfl, hk⟩ with h | h | h
    · exact .inl (e1 k h)
    · exact .inr (.inl (e2 k h))
    · exact .inr (.inr h)

theorem St.left {M0 R0 : Nat → Prop} {w0 W : World} {A B : List Asrt} (H : St M0 R0 w0 W (A ++ B)) : St M0 R0 w0 W A := by
  have := H.take A.length
  rwa [List.take_left] at this

theorem begin_TX {M0 R0 : Nat → Prop} {w0 W : World} {t : LogT} {gl c n : Nat} {R : List Asrt} (H : St M0 R0 w0 W (t.L gl ++ R)) (ht : t.Ok c) (hn : t.n = n) (hl : ∀ k, k < n → (t.hom k).length = 248) :
    Calls Tryz.prog 18 #[.pointer (some ⟨gl, 0, none⟩)] W fun e W' => ∃ s : TX, e = .returned (.pointer (some ⟨s.g, 0, none⟩)) ∧ s.t = t ∧ s.x.gl = gl ∧ s.Ok c ∧ s.n = n ∧ s.Few ∧ (∀ k, s.V k = (t.hom k, false)) ∧ St M0 R0 w0 W' (s.L ++ R) := by
  refine (begin_calls _).mono ?_
  rintro e W' ⟨g, gm, rfl, h1, h2, h3, hb, hg, hm⟩
  obtain ⟨hok, hV⟩ := TX.begun_ok ht hn hl gl gm g
  have H2 := St.swap (A := t.L gl) (E := R) (R := (TxT.new gl gm n).L g) (H.begun n hb h1 h2 h3 hg hm)
  exact ⟨⟨t, TxT.new gl gm n, g⟩, rfl, rfl, rfl, hok, hn, fun k a b => by rw [hV k], hV, H2⟩

theorem commit_St {M0 R0 : Nat → Prop} {w0 W : World} {s : TX} {c : Nat} {R : List Asrt} (H : St M0 R0 w0 W (s.L ++ errA :: R)) (h : s.Ok c) (hc : c < 400) (hk : (keysOf s.x.f s.x.n).length < 24) (hr : s.t.X.ring = 24) :
    Calls Tryz.prog 31 #[.pointer (some ⟨s.g, 0, none⟩)] W fun e W' => e = .returned (.int .i64 0) ∧ ∃ t' : LogT, t'.Ok (c + 1) ∧ t'.n = s.n ∧ t'.X.ring = 24 ∧ (∀ k, k < s.n → t'.hom k = s.v k) ∧ St M0 R0 w0 W' (t'.L s.x.gl ++ errA :: R) := by
  rw [List.append_cons] at H
  refine (commit_TX (s := s) H.left.bundle h hc hk hr).mono ?_
  rintro e W' ⟨rfl, t', a1, a2, a3, a4, hto⟩
  refine ⟨rfl, t', a1, a2, a3, a4, ?_⟩
  have H2 := hto.front (R := R) H
  rw [List.append_assoc (t'.L s.x.gl ++ s.x.done.L s.g)] at H2
  exact (St.swap (A := t'.L s.x.gl) (E := s.x.done.L s.g) (R := [errA] ++ R) H2).left

theorem abort_St {M0 R0 : Nat → Prop} {w0 W : World} {s : TX} {R : List Asrt} (H : St M0 R0 w0 W (s.L ++ R)) :
    Calls Tryz.prog 33 #[.pointer (some ⟨s.g, 0, none⟩)] W fun e W' => e = .returned (.tuple #[]) ∧ St M0 R0 w0 W' ((⟨s.t, s.x.done, s.g⟩ : TX).L ++ R) := by
  refine (abort_TX (s := s) H.left.bundle).mono ?_
  rintro e W' ⟨rfl, hto⟩
  exact ⟨rfl, hto.front (R := R) H⟩

/-- The transaction goes, the log stays. -/
theorem St.logOnly {M0 R0 : Nat → Prop} {w0 W : World} {s : TX} {R : List Asrt} (H : St M0 R0 w0 W (s.L ++ R)) : St M0 R0 w0 W (s.t.L s.x.gl ++ R) :=
  (St.swap (A := s.t.L s.x.gl) (E := s.x.L s.g) (R := R) H).left

theorem least_free (bs : List Bool) : ∀ n, (∃ i, i < n ∧ bs.getD i false = false ∧ ∀ j, j < i → bs.getD j false = true) ∨ (∀ j, j < n → bs.getD j false = true)
  | 0 => .inr fun j h => by omega
  | n + 1 => by
    rcases least_free bs n with ⟨i, h1, h2⟩ | h
    · exact .inl ⟨i, by omega, h2⟩
    · cases hb : bs.getD n false with
      | false => exact .inl ⟨n, by omega, hb, h⟩
      | true =>
        refine .inr fun j hj => ?_
        rcases Nat.lt_or_ge j n with h2 | h2
        · exact h j h2
        · rw [show j = n by omega]; exact hb

theorem BitsOf.turn {s s2 : TX} {c : Nat} {bs : List Bool} {r v : Nat} (h : BitsOf s.v bs r v) (hc : s.Ok c) (hn : s.n = 34) (i : Nat) (h2 : 2 ≤ i) (hi : i < 34) (b : Bool) (hb : bs.getD i false = !b) (hs : s.To s2 c (updV s.V 1 (turnB (s.v 1) i))) : BitsOf s2.v (bs.set i b) r v := by
  have e1 : s2.v 1 = turnB (s.v 1) i := hs.v 1 (by omega)
  have e0 : s2.v 0 = s.v 0 := hs.v 0 (by omega)
  refine ⟨by rw [List.length_set]; exact h.len, fun k hk => ?_, by rw [e0]; exact h.root, by rw [e0]; exact h.ver, h.rlt, h.vlt⟩
  rw [e1, getDb_set bs i k b (by rw [h.len]; exact hi)]
  rcases Nat.lt_or_ge k 2 with hk2 | hk2
  · rw [if_neg (by omega), ← h.has k hk]
    simp [hasB, hk2]
  · rw [hasB_turn (hc.lens 1 (by omega)) (by omega) hk2, h.has k hk]
    by_cases e : k = i
    · subst e; rw [if_pos rfl, if_pos rfl, hb]; simp
    · rw [if_neg e, if_neg e]

theorem BitsOf.rooted {s s2 : TX} {c : Nat} {bs : List Bool} {r v : Nat} (h : BitsOf s.v bs r v) (hn : s.n = 34) (r' v' : Nat) (hr : r' < 4294967296) (hv : v' < 18446744073709551616) (hs : s.To s2 c (updV s.V 0 (rootB r' v'))) : BitsOf s2.v bs r' v' := by
  have e1 : s2.v 1 = s.v 1 := hs.v 1 (by omega)
  have e0 : s2.v 0 = rootB r' v' := hs.v 0 (by omega)
  have := le_root r' v' hr hv
  exact ⟨h.len, by rw [e1]; exact h.has, by rw [e0]; exact this.1, by rw [e0]; exact this.2, hr, hv⟩

theorem BitsOf.congr {f f' : Nat → List UInt8} {bs : List Bool} {r v : Nat} (h : BitsOf f bs r v) (e : ∀ k, k < 2 → f' k = f k) : BitsOf f' bs r v :=
  ⟨h.len, by rw [e 1 (by omega)]; exact h.has, by rw [e 0 (by omega)]; exact h.root, by rw [e 0 (by omega)]; exact h.ver, h.rlt, h.vlt⟩

theorem BitsOf.fresh {s s2 : TX} {c : Nat} (hn : s.n = 34) (hs : s.To s2 c (updV (updV s.V 0 (rootB 0 1)) 1 newB)) : BitsOf s2.v (true :: true :: List.replicate 32 false) 0 1 := by
  have e1 : s2.v 1 = newB := hs.v 1 (by omega)
  have e0 : s2.v 0 = rootB 0 1 := hs.v 0 (by omega)
  have := le_root 0 1 (by omega) (by omega)
  refine ⟨rfl, fun k hk => ?_, by rw [e0]; exact this.1, by rw [e0]; exact this.2, by omega, by omega⟩
  rw [e1, hasB_new]
  rcases k with _ | _ | k
  · rfl
  · rfl
  · rw [decide_eq_false (by omega), List.getD_cons_succ, List.getD_cons_succ, List.getD_eq_getElem?_getD, List.getElem?_replicate]
    split <;> rfl

theorem BitsOf.low {s : TX} {bs : List Bool} {r v : Nat} (h : BitsOf s.v bs r v) {i : Nat} (hf : bs.getD i false = false) (hi : i < 34) : 2 ≤ i := by
  rcases Nat.lt_or_ge i 2 with h2 | h2
  · rw [← h.has i hi] at hf
    simp [hasB, h2] at hf
  · exact h2

/-- The operations of the law, as cells. -/
def opsV (l : List (Int × Int × Nat)) : List Value := l.flatMap fun x => [.int .i64 x.1, .int .i64 x.2.1, .int .u64 (x.2.2 : Int)]
theorem opsV_get : ∀ (l : List (Int × Int × Nat)) (i : Nat) (x : Int × Int × Nat), l[i]? = some x → (opsV l)[i * 3]? = some (.int .i64 x.1) ∧ (opsV l)[i * 3 + 1]? = some (.int .i64 x.2.1) ∧ (opsV l)[i * 3 + 2]? = some (.int .u64 (x.2.2 : Int))
  | [], i, x, h => by simp at h
  | y :: l, 0, x, h => by
    cases h
    exact ⟨rfl, rfl, rfl⟩
  | y :: l, i + 1, x, h => by
    have ih := opsV_get l i x h
    have e : opsV (y :: l) = [.int .i64 y.1, .int .i64 y.2.1, .int .u64 (y.2.2 : Int)] ++ opsV l := rfl
    rw [e, show (i + 1) * 3 = 3 + i * 3 by omega, show 3 + i * 3 + 1 = 3 + (i * 3 + 1) by omega, show 3 + i * 3 + 2 = 3 + (i * 3 + 2) by omega]
    refine ⟨?_, ?_, ?_⟩
    · rw [List.getElem?_append_right (by simp)]; simpa using ih.1
    · rw [List.getElem?_append_right (by simp)]; simpa using ih.2.1
    · rw [List.getElem?_append_right (by simp)]; simpa using ih.2.2

theorem size_take : (Tryz.prog.info? 88).map (·.size) = some 3 := by kernel_rfl
theorem zero_take : (Tryz.prog.info? 88).bind (·.zero) = some (.agg #[.int .i64 0, .int .i64 0, .int .u64 0]) := by kernel_rfl

theorem bcopy_n {w : World} {g cap n : Nat} {bs : List Bool} (h : (ownV 4 g (bitV bs)).prop w) (hl : bs.length = n) (hn : n ≤ 1900) (r v : Int) :
    Calls Tryz.prog 50 #[.agg #[.slice (some ⟨g, 0, none⟩) n cap, .int .u32 r, .int .u64 v]] w fun e w' => ∃ g' cap', e = .returned (.agg #[.slice (some ⟨g', 0, none⟩) n cap', .int .u32 r, .int .u64 v]) ∧ w.heap.size ≤ g' ∧ (ownV 4 g' (bitV bs)).prop w' ∧ Below w.heap.size w w' := by
  subst hl; exact bcopy_calls h hn r v

theorem btake_n {w : World} {g cap n : Nat} {bs : List Bool} (h : (ownV 4 g (bitV bs)).prop w) (hl : bs.length = n) (r v : Int) (i : Nat) (hi : i < n) (hn : n ≤ 1900) (hf : bs.getD i false = false) (ht : ∀ j, j < i → bs.getD j false = true) :
    Calls Tryz.prog 51 #[.agg #[.slice (some ⟨g, 0, none⟩) n cap, .int .u32 r, .int .u64 v]] w fun e w' => e = .returned (.tuple #[.int .i64 (i : Int), .int .i64 0]) ∧
      BunTo w (ownL [ownV 4 g (bitV bs)]) (rdL [ownV 4 g (bitV bs)]) [ownV 4 g (bitV (bs.set i true))] w' := by
  subst hl; exact btake_ok (Bundle.single h) r v i hi hn hf ht

theorem btake_fulln {w : World} {g cap n : Nat} {bs : List Bool} (h : (ownV 4 g (bitV bs)).prop w) (hl : bs.length = n) (r v : Int) (hn : n ≤ 1900) (ht : ∀ j, j < n → bs.getD j false = true) :
    Calls Tryz.prog 51 #[.agg #[.slice (some ⟨g, 0, none⟩) n cap, .int .u32 r, .int .u64 v]] w fun e w' => e = .returned (.tuple #[.int .i64 0, .int .i64 9]) ∧
      BunTo w (ownL [ownV 4 g (bitV bs)]) (rdL [ownV 4 g (bitV bs)]) [ownV 4 g (bitV bs)] w' := by
  subst hl; exact btake_full (Bundle.single h) r v hn ht

theorem bfree_n {w : World} {g cap n : Nat} {bs : List Bool} (h : (ownV 4 g (bitV bs)).prop w) (hl : bs.length = n) (r v z : Int) (i : Nat) (hz : (i : Int) = z) (h2 : 2 ≤ i) (hi : i < n) (hn : n ≤ 1900) (hf : bs.getD i false = true) :
    Calls Tryz.prog 52 #[.agg #[.slice (some ⟨g, 0, none⟩) n cap, .int .u32 r, .int .u64 v], .int .i64 z] w fun e w' => e = .returned (.int .i64 0) ∧
      BunTo w (ownL [ownV 4 g (bitV bs)]) (rdL [ownV 4 g (bitV bs)]) [ownV 4 g (bitV (bs.set i false))] w' := by
  subst hl; exact bfree_ok (Bundle.single h) r v z i hz h2 hi hn hf

theorem bfree_non {w : World} {g cap n : Nat} {bs : List Bool} (h : (ownV 4 g (bitV bs)).prop w) (hl : bs.length = n) (r v z : Int) (hn : n ≤ 1900) (hz : z < 2 ∨ (n : Int) ≤ z ∨ (0 ≤ z ∧ bs.getD z.toNat false = false)) :
    Calls Tryz.prog 52 #[.agg #[.slice (some ⟨g, 0, none⟩) n cap, .int .u32 r, .int .u64 v], .int .i64 z] w fun e w' => e = .returned (.int .i64 1) ∧
      BunTo w (ownL [ownV 4 g (bitV bs)]) (rdL [ownV 4 g (bitV bs)]) [ownV 4 g (bitV bs)] w' := by
  subst hl; exact bfree_no (Bundle.single h) r v z hn hz

theorem is_n {w : World} {s : TX} {c : Nat} {g cap : Nat} {bs : List Bool} {r v : Nat} (hb : Bundle w (s.L ++ [ownV 4 g (bitV bs)])) (h : s.Ok c) (hn : s.n = 34) (hB : BitsOf s.v bs r v) (z : Int) :
    Calls Tryz.prog 53 #[.agg #[.slice (some ⟨g, 0, none⟩) 34 cap, .int .u32 (r : Int), .int .u64 (v : Int)], .pointer (some ⟨s.g, 0, none⟩), .int .i64 z] w fun e w' => e = .returned (.bool true) ∧
      BunTo w (ownL (s.L ++ [ownV 4 g (bitV bs)])) (rdL (s.L ++ [ownV 4 g (bitV bs)])) (s.L ++ [ownV 4 g (bitV bs)]) w' :=
  is_calls hb h hn hB z

end Go.Proofs.YtphpegnfcelagaaGreatDoor

namespace Go.Proofs.YtphpegnfcelagaaGreatDoor
open Go.RowKit
set_option linter.unusedSimpArgs false
set_option linter.unusedVariables false
set_option maxRecDepth 40000

/-- What holds between the operations. -/
structure Inv (s : TX) (c gl : Nat) (bw : List Bool) (ra va : Nat) (bn : List Bool) (rn vn : Nat) : Prop where
  ok : s.Ok c
  n : s.n = 34
  gl : s.x.gl = gl
  ring : s.t.X.ring = 24
  few : s.Few
  now : BitsOf s.v bn rn vn
  was : BitsOf s.t.hom bw ra va
  lens : ∀ k, k < 34 → (s.t.hom k).length = 248

theorem Inv.begun {t : LogT} {s : TX} {c gl : Nat} {bs : List Bool} {r v : Nat} (h1 : s.Ok c) (h2 : s.n = 34) (h3 : s.x.gl = gl) (h4 : t.X.ring = 24) (h5 : s.Few) (h6 : s.t = t) (h7 : ∀ k, s.V k = (t.hom k, false)) (h8 : BitsOf t.hom bs r v) (h9 : ∀ k, k < 34 → (t.hom k).length = 248) : Inv s c gl bs r v bs r v := by
  subst h6
  exact ⟨h1, h2, h3, h4, h5, h8.congr (fun k _ => congrArg Prod.fst (h7 k)), h8, h9⟩

theorem Inv.keys {s : TX} {c gl : Nat} {bw bn : List Bool} {ra va rn vn : Nat} (h : Inv s c gl bw ra va bn rn vn) : (keysOf s.x.f s.x.n).length < 24 := by have := h.few.keys h.ok; omega

theorem Inv.turn {s s2 : TX} {c gl : Nat} {bw bn : List Bool} {ra va rn vn : Nat} (h : Inv s c gl bw ra va bn rn vn) (i : Nat) (h2 : 2 ≤ i) (hi : i < 34) (b : Bool) (hb : bn.getD i false = !b) (hs : s.To s2 c (updV s.V 1 (turnB (s.v 1) i))) : Inv s2 c gl bw ra va (bn.set i b) rn vn :=
  ⟨hs.ok, hs.n.trans h.n, hs.gl.trans h.gl, by rw [hs.t]; exact h.ring, h.few.to hs (updV_up _ _ _ (by omega)), h.now.turn h.ok h.n i h2 hi b hb hs, by rw [hs.t]; exact h.was, by rw [hs.t]; exact h.lens⟩

theorem Inv.rooted {s s2 : TX} {c gl : Nat} {bw bn : List Bool} {ra va rn vn : Nat} (h : Inv s c gl bw ra va bn rn vn) (r' v' : Nat) (hr : r' < 4294967296) (hv : v' < 18446744073709551616) (hs : s.To s2 c (updV s.V 0 (rootB r' v'))) : Inv s2 c gl bw ra va bn r' v' :=
  ⟨hs.ok, hs.n.trans h.n, hs.gl.trans h.gl, by rw [hs.t]; exact h.ring, h.few.to hs (updV_up _ _ _ (by omega)), h.now.rooted h.n r' v' hr hv hs, by rw [hs.t]; exact h.was, by rw [hs.t]; exact h.lens⟩

/-- The state between the operations. -/
def SpP (w : World) (p0 : Option Addr) (l : List (Int × Int × Nat)) (g9 g10 gl m G : Nat) (wr : World) : Prop :=
  ∃ (s : TX) (c : Nat) (bw bn : List Bool) (ra va rn vn gbw cw gbn cn : Nat), G = s.g ∧ c ≤ m ∧ Inv s c gl bw ra va bn rn vn ∧
    St NoBlk (fun _ => True) w wr (s.L ++ [errA, rdA p0 (opsV l), ownV 4 gbw (bitV bw), blk g9 (.cells #[.slice (some ⟨gbw, 0, none⟩) 34 cw, .int .u32 (ra : Int), .int .u64 (va : Int)] 84 (0, 0)), ownV 4 gbn (bitV bn), blk g10 (.cells #[.slice (some ⟨gbn, 0, none⟩) 34 cn, .int .u32 (rn : Int), .int .u64 (vn : Int)] 84 (0, 0))])

theorem rdA_mid {W : World} {g off : Nat} {xs : List Value} (h : (rdA (some ⟨g, off, none⟩) xs).prop W) (k : Nat) (vs : List Value) (hv : ∀ j v, vs[j]? = some v → xs[k + j]? = some v) : ∀ j v, vs[j]? = some v → W.cell? ⟨g, off + k + j, none⟩ = some v := fun j v hj => by
  rw [Nat.add_assoc]; exact rdA_cell h (hv j v hj)

theorem tmod7 (K : Int) : -6 ≤ K.tmod 7 ∧ K.tmod 7 ≤ 6 := by
  rcases Int.le_total 0 K with h | h
  · rw [Int.tmod_eq_emod_of_nonneg h]; omega
  · have : K.tmod 7 = -((-K).tmod 7) := by rw [Int.neg_tmod, Int.neg_neg]
    rw [this, Int.tmod_eq_emod_of_nonneg (by omega)]; omega

theorem kinds7 (k : Int) (h1 : -6 ≤ k) (h2 : k ≤ 6) : (k + 7).tmod 7 = 0 ∨ (k + 7).tmod 7 = 1 ∨ (k + 7).tmod 7 = 2 ∨ (k + 7).tmod 7 = 3 ∨ (k + 7).tmod 7 = 4 ∨ (k + 7).tmod 7 = 5 ∨ (k + 7).tmod 7 = 6 := by
  rw [Int.tmod_eq_emod_of_nonneg (by omega)]; omega

set_option maxRecDepth 400000 in
set_option maxHeartbeats 32000000 in
theorem spaceAll_short (p0 : Option Addr) (c0 : Nat) (l : List (Int × Int × Nat)) (at_ : Int) (w : World) (hl : l.length ≤ 60) (hr : ∀ x ∈ l, x.2.2 < 18446744073709551616) (hg : errA.prop w) (ha : (rdA p0 (opsV l)).prop w) :
    Calls Tryz.prog 15 #[.slice p0 l.length c0, .int .i64 at_] w fun e w' => e = .returned (.bool true) ∧ Below w.heap.size w w' := by
  have H := St.reads_only (w := w) [errA, rdA p0 (opsV l)] (by
    intro B hB
    simp only [List.mem_cons, List.not_mem_nil, or_false] at hB
    rcases hB with rfl | rfl
    · exact ⟨hg, fun _ h => h⟩
    · exact ⟨ha, fun _ h => h⟩)
  have HR := Lib.hid hr
  have HLL := Lib.hid hl
  have hli : (l.length : Int) ≤ 60 := by omega
  have hli2 : ¬ (60 < (l.length : Int)) := by omega
  have tok1 : True := trivial
  have tok2 : True := trivial
  clear hg ha hr hl
  go_enter Tryz.func15, Tryz.ntmps15
  go_upto_region 14 with (first
    | (go_at_call 16; go_loud ((refine (begun20_calls _ (H.at 0 rfl)).mono ?_); rintro e W ⟨rfl, hb⟩; replace H := H.stay (Fix.of_below hb _); clear hb))
    | (go_at_call 17; go_loud ((refine (new19_calls _ 60 34 rfl rfl (by omega) (by omega) _).mono ?_); rintro e W ⟨gd, gl, t, rfl, hnew, hto⟩; replace H := (hto.fresh H).rotate; clear hto))
    | (go_at_call 18; have _t := tok1; clear _t; go_loud ((refine (begin_TX (gl := gl) (R := [errA, rdA p0 (opsV l)]) H hnew.ok hnew.n (fun k hk => by rw [hnew.hom k hk]; exact noHome_len)).mono ?_); clear H tok1; rintro e W ⟨s, rfl, hst, hsg, hso, hsn, hsf, hsv, H⟩))
    | (go_at_call 19; go_loud ((refine (Format_ok (s := s) (H.take 7).bundle hso).mono ?_); rintro e W ⟨rfl, s1, hs1, hto⟩; replace H := hto.front (R := [errA, rdA p0 (opsV l)]) H; clear hto; rw [← hs1.g]; have HB1 := Lib.hid (BitsOf.fresh hsn hs1); have HF1 := Lib.hid (hsf.to hs1 (fun k hk => by rw [updV_up _ _ _ (by omega) k hk, updV_up _ _ _ (by omega) k hk])); have HO1 := Lib.hid hs1.ok; have HN1 := Lib.hid (hs1.n.trans hsn); have HG1 := Lib.hid (hs1.gl.trans hsg); have HR1 := Lib.hid (show s1.t.X.ring = 24 by rw [hs1.t, hst]; exact hnew.ring); clear hs1 hst hsg hso hsn hsf hsv))
    | (go_at_call 31; go_loud ((refine (commit_St (s := s1) (R := [rdA p0 (opsV l)]) H HO1.out (by omega) (by have := HF1.out.keys HO1.out; omega) HR1.out).mono ?_); clear H; rintro e W ⟨rfl, t2, ht2, hn2, hr2, hh2, H⟩; rw [HG1.out] at H; have HT2 := Lib.hid ht2; have HN2 := Lib.hid (hn2.trans HN1.out); have HR2 := Lib.hid hr2; have HB2 := Lib.hid (HB1.out.congr (f' := t2.hom) (fun k hk => hh2 k (by rw [HN1.out]; omega))); have HL2 := Lib.hid (show ∀ k, k < 34 → (t2.hom k).length = 248 from fun k hk => by rw [hh2 k (by rw [HN1.out]; exact hk)]; exact HO1.out.lens k (by rw [HN1.out]; exact hk)); clear ht2 hn2 hr2 hh2))
    | (go_at_call 18; go_loud ((refine (begin_TX (gl := gl) (R := [errA, rdA p0 (opsV l)]) H HT2.out HN2.out HL2.out).mono ?_); clear H; rintro e W ⟨s2, rfl, hst, hsg, hso, hsn, hsf, hsv, H⟩; have HI := Lib.hid (Inv.begun hso hsn hsg HR2.out hsf hst hsv HB2.out HL2.out); have HSL := Lib.hid (show s2.L = t2.L gl ++ s2.x.L s2.g by unfold TX.L; rw [hst, hsg]); clear hst hsg hso hsn hsf hsv))
    | (go_at_call 34; go_loud ((refine (Homes_T (g := gl) (t := t2) (by have := (H.take 7); rw [show List.take 7 (s2.L ++ [errA, rdA p0 (opsV l)]) = s2.L from rfl, HSL.out] at this; exact this.left.bundle) HT2.out (z := 34) (by rw [HN2.out]; rfl)).mono ?_); rintro e W ⟨rfl, hto⟩; rw [HSL.out, List.append_assoc] at H; replace H := hto.front (R := s2.x.L s2.g ++ [errA, rdA p0 (opsV l)]) H; rw [← List.append_assoc, ← HSL.out] at H; clear hto))
    | (go_at_call 49; go_loud ((refine (made_calls _).mono ?_); rintro e W ⟨gbw, rfl, hgb, hpb, hb⟩; unfold bitsV; replace H := H.add (Fix.of_below hb _) (ownV 4 gbw (bitV (true :: true :: List.replicate 32 false))) hpb (fun k hk => by rw [show k = gbw from hk]; exact hgb) (fun k hk => hk.elim); clear hgb hpb hb))
    | (have _t := tok2; clear _t; refine wpList_alloc_st H rfl 84 rfl _ zero_bits ?_; clear H tok2; intro W g9 H)
    | (refine wpList_storerow_st H 10 rfl 84 _ _ rfl _ _ rfl rfl _ _ rfl size_bits (by rfl) (by simp [Value.oneCell']) ?_; clear H; intro W H)
    | (refine wpList_loadrow_st rfl 84 _ rfl _ rfl _ _ _ (H.at 10 rfl) _ Tryz.underlying84 rfl size_bits ?_)
    | (go_at_call 50; go_loud ((refine (bcopy_n (n := 34) (H.at 9 rfl : (ownV 4 gbw (bitV (true :: true :: List.replicate 32 false))).prop _) rfl (by omega) _ _).mono ?_); rintro e W ⟨gbn, cn, rfl, hgb, hpb, hb⟩; replace H := H.add (Fix.of_below hb _) (ownV 4 gbn (bitV (true :: true :: List.replicate 32 false))) hpb (fun k hk => by rw [show k = gbn from hk]; exact hgb) (fun k hk => hk.elim); clear hgb hpb hb))
    | (refine wpList_alloc_st H rfl 84 rfl _ zero_bits ?_; clear H; intro W g10 H)
    | (refine wpList_storerow_st H 12 rfl 84 _ _ rfl _ _ rfl rfl _ _ rfl size_bits (by rfl) (by simp [Value.oneCell']) ?_; clear H; intro W H))
  have HP : SpP w p0 l g9 g10 gl 1 s2.g W := ⟨s2, 1, _, _, 0, 1, 0, 1, gbw, 34, gbn, cn, rfl, Nat.le_refl _, HI.out, H⟩
  clear H HI HSL HT2 HN2 HR2 HB2 HL2 HB1 HF1 HO1 HN1 HG1 HR1 hnew
  obtain ⟨G, hG⟩ : ∃ G, s2.g = G := ⟨_, rfl⟩
  rw [hG] at HP ⊢
  clear hG

  go_loopw [7, 11] (fun tv u wr => ∃ (i G : Nat), u = .int .i64 (i : Int) ∧ tv = .pointer (some ⟨G, 0, none⟩) ∧ i ≤ l.length ∧ SpP w p0 l g9 g10 gl (i + 1) G wr) (fun _ u _ => l.length - (intOf u).toNat)
  case atStart => exact ⟨0, G, rfl, rfl, Nat.zero_le _, HP⟩
  case round =>
    clear HP
    obtain ⟨i, G, rfl, rfl, hi, s, c, bw, bn, ra, va, rn, vn, gbw, cw, gbn, cn, rfl, hc, hinv, H⟩ := hrel
    have HC := Lib.hid hc
    have HI := Lib.hid hinv
    clear hc hinv
    have hi0 : 0 ≤ (i : Int) := by omega
    rcases Nat.lt_or_ge i l.length with hlt | hge
    · have hii : (i : Int) < (l.length : Int) := by omega
      have hi60 : (i : Int) < 60 := by omega
      have HLT := Lib.hid hlt

      obtain ⟨⟨Kd, A, V⟩, hx⟩ : ∃ x, l[i]? = some x := ⟨_, List.getElem?_eq_getElem hlt⟩
      have HV := Lib.hid (HR.out _ (List.mem_of_getElem? hx))
      have hop := opsV_get l i _ hx
      obtain ⟨ga, offa, rfl, _⟩ := rdA_at (H.at 8 rfl) hop.1
      have HOP := Lib.hid hop
      have hk1 := tmod7 Kd
      obtain ⟨k1, hk⟩ : ∃ k1, Kd.tmod 7 = k1 := ⟨_, rfl⟩
      rw [hk] at hk1
      have hkl := hk1.1
      have hku := hk1.2
      have hkk := kinds7 k1 hk1.1 hk1.2
      have hv0 : 0 ≤ (V : Int) := by omega
      have HLEN := Lib.hid HI.out.now.len
      have HLENW := Lib.hid HI.out.was.len
      have HN := Lib.hid HI.out.n
      have HO := Lib.hid HI.out.ok
      clear hx hop hk1 hlt hi
      go_upto_region 17 with (first
        | (refine wpList_loadmid rfl 88 _ rfl ga (offa + i * 3) rfl [.int .i64 Kd, .int .i64 A, .int .u64 (V : Int)] _ Tryz.underlying88 rfl size_take (rdA_mid (H.at 8 rfl) (i * 3) _ (fun j v hj => by rcases j with _ | _ | _ | j; exact (HOP.out.1).trans hj; exact (HOP.out.2.1).trans hj; exact (HOP.out.2.2).trans hj; simp at hj)) ?_)
        | (refine wpList_alloc_st H rfl 88 rfl _ zero_take ?_; clear H; intro W go H)
        | (refine wpList_storerow_st H 13 rfl 88 _ _ rfl _ _ rfl rfl _ _ rfl size_take (by rfl) (by simp [Value.oneCell']) ?_; clear H; intro W H))
      replace H : St NoBlk (fun _ => True) w W (s.L ++ [errA, rdA (some ⟨ga, offa, none⟩) (opsV l), ownV 4 gbw (bitV bw), blk g9 (.cells #[.slice (some ⟨gbw, 0, none⟩) 34 cw, .int .u32 (ra : Int), .int .u64 (va : Int)] 84 (0, 0)), ownV 4 gbn (bitV bn), blk g10 (.cells #[.slice (some ⟨gbn, 0, none⟩) 34 cn, .int .u32 (rn : Int), .int .u64 (vn : Int)] 84 (0, 0)), blk go (.cells #[.int .i64 Kd, .int .i64 A, .int .u64 (V : Int)] 88 (0, 0))]) := H
      rcases hkk with hkk | hkk | hkk | hkk | hkk | hkk | hkk
      · rcases least_free bn 34 with ⟨q, hq, hqf, hqt⟩ | hfull
        · have HQF := Lib.hid hqf
          have HQT := Lib.hid hqt
          have HQ := Lib.hid hq
          have HQ2 := Lib.hid (HI.out.now.low hqf hq)
          have hq0 : 0 ≤ (q : Int) := by omega
          clear hqf hqt hq
          go_upto_region 38 with (first
            | (refine wpList_load1_st rfl 3 _ rfl _ _ rfl _ _ _ (H.at 13 rfl) _ Tryz.underlying3 rfl _ rfl ?_)
            | (go_at_call 20; go_loud ((refine (Take_ok (s := s) (H.take 7).bundle HO.out q HQ2.out (by rw [HN.out]; exact HQ.out) (by rw [HI.out.now.has q HQ.out]; exact HQF.out) (fun j a b => by rw [HI.out.now.has j (by have := HQ.out; omega)]; exact HQT.out j b)).mono ?_); rintro e W ⟨rfl, s2, hs2, hto⟩; replace H := hto.front (R := [errA, rdA (some ⟨ga, offa, none⟩) (opsV l), ownV 4 gbw (bitV bw), blk g9 (.cells #[.slice (some ⟨gbw, 0, none⟩) 34 cw, .int .u32 (ra : Int), .int .u64 (va : Int)] 84 (0, 0)), ownV 4 gbn (bitV bn), blk g10 (.cells #[.slice (some ⟨gbn, 0, none⟩) 34 cn, .int .u32 (rn : Int), .int .u64 (vn : Int)] 84 (0, 0)), blk go (.cells #[.int .i64 Kd, .int .i64 A, .int .u64 (V : Int)] 88 (0, 0))]) H; clear hto; have HI2 := Lib.hid (HI.out.turn q HQ2.out HQ.out true HQF.out hs2); have HG2 := Lib.hid hs2.g; clear hs2))
            | (refine wpList_loadrow_st rfl 84 _ rfl _ rfl _ _ _ (H.at 12 rfl) _ Tryz.underlying84 rfl size_bits ?_)
            | (go_at_call 51; go_loud ((refine (btake_n (n := 34) (H.at 11 rfl : (ownV 4 gbn (bitV bn)).prop _) HLEN.out _ _ q HQ.out (by omega) HQF.out HQT.out).mono ?_); rintro e W ⟨rfl, hto⟩; replace H := BunTo.one hto H 11 rfl; clear hto)))
          have HP : SpP w (some ⟨ga, offa, none⟩) l g9 g10 gl (i + 2) s2.g W := ⟨s2, c, _, _, _, _, _, _, _, _, _, _, rfl, by have := HC.out; omega, HI2.out, H.take 13⟩
          rw [← HG2.out]
          clear H
          obtain ⟨s3, c3, bw3, bn3, ra3, va3, rn3, vn3, gbw3, cw3, gbn3, cn3, hG3, hc3, hi3, H⟩ := HP
          rw [hG3]
          have HC3 := Lib.hid hc3
          have HI3 := Lib.hid hi3
          have HO3 := Lib.hid hi3.ok
          have HN3 := Lib.hid hi3.n
          clear hG3 hc3 hi3
          replace H : St NoBlk (fun _ => True) w _ ((s3.L ++ [ownV 4 gbn3 (bitV bn3), blk g10 (.cells #[.slice (some ⟨gbn3, 0, none⟩) 34 cn3, .int .u32 (rn3 : Int), .int .u64 (vn3 : Int)] 84 (0, 0))]) ++ [errA, rdA (some ⟨ga, offa, none⟩) (opsV l), ownV 4 gbw3 (bitV bw3), blk g9 (.cells #[.slice (some ⟨gbw3, 0, none⟩) 34 cw3, .int .u32 (ra3 : Int), .int .u64 (va3 : Int)] 84 (0, 0))]) := St.swap (A := s3.L) (E := [errA, rdA (some ⟨ga, offa, none⟩) (opsV l), ownV 4 gbw3 (bitV bw3), blk g9 (.cells #[.slice (some ⟨gbw3, 0, none⟩) 34 cw3, .int .u32 (ra3 : Int), .int .u64 (va3 : Int)] 84 (0, 0))]) (R := [ownV 4 gbn3 (bitV bn3), blk g10 (.cells #[.slice (some ⟨gbn3, 0, none⟩) 34 cn3, .int .u32 (rn3 : Int), .int .u64 (vn3 : Int)] 84 (0, 0))]) H
          go_wp2_with (first
            | (refine wpList_loadrow_st rfl 84 _ rfl _ rfl _ _ _ (H.at 8 rfl) _ Tryz.underlying84 rfl size_bits ?_)
            | (go_at_call 53; go_loud ((refine (is_n (s := s3) (bs := bn3) (H.take 8).bundle HO3.out HN3.out HI3.out.now at_).mono ?_); rintro e W ⟨rfl, hto⟩; replace H := hto.front (R := [blk g10 (.cells #[.slice (some ⟨gbn3, 0, none⟩) 34 cn3, .int .u32 (rn3 : Int), .int .u64 (vn3 : Int)] 84 (0, 0))] ++ [errA, rdA (some ⟨ga, offa, none⟩) (opsV l), ownV 4 gbw3 (bitV bw3), blk g9 (.cells #[.slice (some ⟨gbw3, 0, none⟩) 34 cw3, .int .u32 (ra3 : Int), .int .u64 (va3 : Int)] 84 (0, 0))]) H; clear hto)))
          replace H : St NoBlk (fun _ => True) w _ ((s3.L ++ [errA, rdA (some ⟨ga, offa, none⟩) (opsV l), ownV 4 gbw3 (bitV bw3), blk g9 (.cells #[.slice (some ⟨gbw3, 0, none⟩) 34 cw3, .int .u32 (ra3 : Int), .int .u64 (va3 : Int)] 84 (0, 0))]) ++ [ownV 4 gbn3 (bitV bn3), blk g10 (.cells #[.slice (some ⟨gbn3, 0, none⟩) 34 cn3, .int .u32 (rn3 : Int), .int .u64 (vn3 : Int)] 84 (0, 0))]) := St.swap (A := s3.L) (E := [ownV 4 gbn3 (bitV bn3), blk g10 (.cells #[.slice (some ⟨gbn3, 0, none⟩) 34 cn3, .int .u32 (rn3 : Int), .int .u64 (vn3 : Int)] 84 (0, 0))]) (R := [errA, rdA (some ⟨ga, offa, none⟩) (opsV l), ownV 4 gbw3 (bitV bw3), blk g9 (.cells #[.slice (some ⟨gbw3, 0, none⟩) 34 cw3, .int .u32 (ra3 : Int), .int .u64 (va3 : Int)] 84 (0, 0))]) H
          go_roundw
          case rel => exact ⟨i + 1, s3.g, congrArg _ (by omega), rfl, HLT.out, s3, c3, bw3, bn3, ra3, va3, rn3, vn3, gbw3, cw3, gbn3, cn3, rfl, HC3.out, HI3.out, H⟩
          case measure => have := HLT.out; simp [intOf]; omega
        · have HFU := Lib.hid hfull
          clear hfull
          go_upto_region 38 with (first
            | (refine wpList_load1_st rfl 3 _ rfl _ _ rfl _ _ _ (H.at 13 rfl) _ Tryz.underlying3 rfl _ rfl ?_)
            | (go_at_call 20; go_loud ((refine (Take_full (s := s) (H.take 8).bundle HO.out (fun j a b => by rw [HN.out] at b; rw [HI.out.now.has j b]; exact HFU.out j b)).mono ?_); rintro e W ⟨rfl, hto⟩; replace H := hto.front (R := [rdA (some ⟨ga, offa, none⟩) (opsV l), ownV 4 gbw (bitV bw), blk g9 (.cells #[.slice (some ⟨gbw, 0, none⟩) 34 cw, .int .u32 (ra : Int), .int .u64 (va : Int)] 84 (0, 0)), ownV 4 gbn (bitV bn), blk g10 (.cells #[.slice (some ⟨gbn, 0, none⟩) 34 cn, .int .u32 (rn : Int), .int .u64 (vn : Int)] 84 (0, 0)), blk go (.cells #[.int .i64 Kd, .int .i64 A, .int .u64 (V : Int)] 88 (0, 0))]) H; clear hto))
            | (refine wpList_loadrow_st rfl 84 _ rfl _ rfl _ _ _ (H.at 12 rfl) _ Tryz.underlying84 rfl size_bits ?_)
            | (go_at_call 51; go_loud ((refine (btake_fulln (n := 34) (H.at 11 rfl : (ownV 4 gbn (bitV bn)).prop _) HLEN.out _ _ (by omega) HFU.out).mono ?_); rintro e W ⟨rfl, hto⟩; replace H := BunTo.one hto H 11 rfl; clear hto)))
          have HP : SpP w (some ⟨ga, offa, none⟩) l g9 g10 gl (i + 2) s.g W := ⟨s, c, _, _, _, _, _, _, _, _, _, _, rfl, by have := HC.out; omega, HI.out, H.take 13⟩
          clear H
          obtain ⟨s3, c3, bw3, bn3, ra3, va3, rn3, vn3, gbw3, cw3, gbn3, cn3, hG3, hc3, hi3, H⟩ := HP
          rw [hG3]
          have HC3 := Lib.hid hc3
          have HI3 := Lib.hid hi3
          have HO3 := Lib.hid hi3.ok
          have HN3 := Lib.hid hi3.n
          clear hG3 hc3 hi3
          replace H : St NoBlk (fun _ => True) w _ ((s3.L ++ [ownV 4 gbn3 (bitV bn3), blk g10 (.cells #[.slice (some ⟨gbn3, 0, none⟩) 34 cn3, .int .u32 (rn3 : Int), .int .u64 (vn3 : Int)] 84 (0, 0))]) ++ [errA, rdA (some ⟨ga, offa, none⟩) (opsV l), ownV 4 gbw3 (bitV bw3), blk g9 (.cells #[.slice (some ⟨gbw3, 0, none⟩) 34 cw3, .int .u32 (ra3 : Int), .int .u64 (va3 : Int)] 84 (0, 0))]) := St.swap (A := s3.L) (E := [errA, rdA (some ⟨ga, offa, none⟩) (opsV l), ownV 4 gbw3 (bitV bw3), blk g9 (.cells #[.slice (some ⟨gbw3, 0, none⟩) 34 cw3, .int .u32 (ra3 : Int), .int .u64 (va3 : Int)] 84 (0, 0))]) (R := [ownV 4 gbn3 (bitV bn3), blk g10 (.cells #[.slice (some ⟨gbn3, 0, none⟩) 34 cn3, .int .u32 (rn3 : Int), .int .u64 (vn3 : Int)] 84 (0, 0))]) H
          go_wp2_with (first
            | (refine wpList_loadrow_st rfl 84 _ rfl _ rfl _ _ _ (H.at 8 rfl) _ Tryz.underlying84 rfl size_bits ?_)
            | (go_at_call 53; go_loud ((refine (is_n (s := s3) (bs := bn3) (H.take 8).bundle HO3.out HN3.out HI3.out.now at_).mono ?_); rintro e W ⟨rfl, hto⟩; replace H := hto.front (R := [blk g10 (.cells #[.slice (some ⟨gbn3, 0, none⟩) 34 cn3, .int .u32 (rn3 : Int), .int .u64 (vn3 : Int)] 84 (0, 0))] ++ [errA, rdA (some ⟨ga, offa, none⟩) (opsV l), ownV 4 gbw3 (bitV bw3), blk g9 (.cells #[.slice (some ⟨gbw3, 0, none⟩) 34 cw3, .int .u32 (ra3 : Int), .int .u64 (va3 : Int)] 84 (0, 0))]) H; clear hto)))
          replace H : St NoBlk (fun _ => True) w _ ((s3.L ++ [errA, rdA (some ⟨ga, offa, none⟩) (opsV l), ownV 4 gbw3 (bitV bw3), blk g9 (.cells #[.slice (some ⟨gbw3, 0, none⟩) 34 cw3, .int .u32 (ra3 : Int), .int .u64 (va3 : Int)] 84 (0, 0))]) ++ [ownV 4 gbn3 (bitV bn3), blk g10 (.cells #[.slice (some ⟨gbn3, 0, none⟩) 34 cn3, .int .u32 (rn3 : Int), .int .u64 (vn3 : Int)] 84 (0, 0))]) := St.swap (A := s3.L) (E := [ownV 4 gbn3 (bitV bn3), blk g10 (.cells #[.slice (some ⟨gbn3, 0, none⟩) 34 cn3, .int .u32 (rn3 : Int), .int .u64 (vn3 : Int)] 84 (0, 0))]) (R := [errA, rdA (some ⟨ga, offa, none⟩) (opsV l), ownV 4 gbw3 (bitV bw3), blk g9 (.cells #[.slice (some ⟨gbw3, 0, none⟩) 34 cw3, .int .u32 (ra3 : Int), .int .u64 (va3 : Int)] 84 (0, 0))]) H
          go_roundw
          case rel => exact ⟨i + 1, s3.g, congrArg _ (by omega), rfl, HLT.out, s3, c3, bw3, bn3, ra3, va3, rn3, vn3, gbw3, cw3, gbn3, cn3, rfl, HC3.out, HI3.out, H⟩
          case measure => have := HLT.out; simp [intOf]; omega
      · rcases least_free bn 34 with ⟨q, hq, hqf, hqt⟩ | hfull
        · have HQF := Lib.hid hqf
          have HQT := Lib.hid hqt
          have HQ := Lib.hid hq
          have HQ2 := Lib.hid (HI.out.now.low hqf hq)
          have hq0 : 0 ≤ (q : Int) := by omega
          clear hqf hqt hq
          go_upto_region 38 with (first
            | (refine wpList_load1_st rfl 3 _ rfl _ _ rfl _ _ _ (H.at 13 rfl) _ Tryz.underlying3 rfl _ rfl ?_)
            | (go_at_call 20; go_loud ((refine (Take_ok (s := s) (H.take 7).bundle HO.out q HQ2.out (by rw [HN.out]; exact HQ.out) (by rw [HI.out.now.has q HQ.out]; exact HQF.out) (fun j a b => by rw [HI.out.now.has j (by have := HQ.out; omega)]; exact HQT.out j b)).mono ?_); rintro e W ⟨rfl, s2, hs2, hto⟩; replace H := hto.front (R := [errA, rdA (some ⟨ga, offa, none⟩) (opsV l), ownV 4 gbw (bitV bw), blk g9 (.cells #[.slice (some ⟨gbw, 0, none⟩) 34 cw, .int .u32 (ra : Int), .int .u64 (va : Int)] 84 (0, 0)), ownV 4 gbn (bitV bn), blk g10 (.cells #[.slice (some ⟨gbn, 0, none⟩) 34 cn, .int .u32 (rn : Int), .int .u64 (vn : Int)] 84 (0, 0)), blk go (.cells #[.int .i64 Kd, .int .i64 A, .int .u64 (V : Int)] 88 (0, 0))]) H; clear hto; have HI2 := Lib.hid (HI.out.turn q HQ2.out HQ.out true HQF.out hs2); have HG2 := Lib.hid hs2.g; clear hs2))
            | (refine wpList_loadrow_st rfl 84 _ rfl _ rfl _ _ _ (H.at 12 rfl) _ Tryz.underlying84 rfl size_bits ?_)
            | (go_at_call 51; go_loud ((refine (btake_n (n := 34) (H.at 11 rfl : (ownV 4 gbn (bitV bn)).prop _) HLEN.out _ _ q HQ.out (by omega) HQF.out HQT.out).mono ?_); rintro e W ⟨rfl, hto⟩; replace H := BunTo.one hto H 11 rfl; clear hto)))
          have HP : SpP w (some ⟨ga, offa, none⟩) l g9 g10 gl (i + 2) s2.g W := ⟨s2, c, _, _, _, _, _, _, _, _, _, _, rfl, by have := HC.out; omega, HI2.out, H.take 13⟩
          rw [← HG2.out]
          clear H
          obtain ⟨s3, c3, bw3, bn3, ra3, va3, rn3, vn3, gbw3, cw3, gbn3, cn3, hG3, hc3, hi3, H⟩ := HP
          rw [hG3]
          have HC3 := Lib.hid hc3
          have HI3 := Lib.hid hi3
          have HO3 := Lib.hid hi3.ok
          have HN3 := Lib.hid hi3.n
          clear hG3 hc3 hi3
          replace H : St NoBlk (fun _ => True) w _ ((s3.L ++ [ownV 4 gbn3 (bitV bn3), blk g10 (.cells #[.slice (some ⟨gbn3, 0, none⟩) 34 cn3, .int .u32 (rn3 : Int), .int .u64 (vn3 : Int)] 84 (0, 0))]) ++ [errA, rdA (some ⟨ga, offa, none⟩) (opsV l), ownV 4 gbw3 (bitV bw3), blk g9 (.cells #[.slice (some ⟨gbw3, 0, none⟩) 34 cw3, .int .u32 (ra3 : Int), .int .u64 (va3 : Int)] 84 (0, 0))]) := St.swap (A := s3.L) (E := [errA, rdA (some ⟨ga, offa, none⟩) (opsV l), ownV 4 gbw3 (bitV bw3), blk g9 (.cells #[.slice (some ⟨gbw3, 0, none⟩) 34 cw3, .int .u32 (ra3 : Int), .int .u64 (va3 : Int)] 84 (0, 0))]) (R := [ownV 4 gbn3 (bitV bn3), blk g10 (.cells #[.slice (some ⟨gbn3, 0, none⟩) 34 cn3, .int .u32 (rn3 : Int), .int .u64 (vn3 : Int)] 84 (0, 0))]) H
          go_wp2_with (first
            | (refine wpList_loadrow_st rfl 84 _ rfl _ rfl _ _ _ (H.at 8 rfl) _ Tryz.underlying84 rfl size_bits ?_)
            | (go_at_call 53; go_loud ((refine (is_n (s := s3) (bs := bn3) (H.take 8).bundle HO3.out HN3.out HI3.out.now at_).mono ?_); rintro e W ⟨rfl, hto⟩; replace H := hto.front (R := [blk g10 (.cells #[.slice (some ⟨gbn3, 0, none⟩) 34 cn3, .int .u32 (rn3 : Int), .int .u64 (vn3 : Int)] 84 (0, 0))] ++ [errA, rdA (some ⟨ga, offa, none⟩) (opsV l), ownV 4 gbw3 (bitV bw3), blk g9 (.cells #[.slice (some ⟨gbw3, 0, none⟩) 34 cw3, .int .u32 (ra3 : Int), .int .u64 (va3 : Int)] 84 (0, 0))]) H; clear hto)))
          replace H : St NoBlk (fun _ => True) w _ ((s3.L ++ [errA, rdA (some ⟨ga, offa, none⟩) (opsV l), ownV 4 gbw3 (bitV bw3), blk g9 (.cells #[.slice (some ⟨gbw3, 0, none⟩) 34 cw3, .int .u32 (ra3 : Int), .int .u64 (va3 : Int)] 84 (0, 0))]) ++ [ownV 4 gbn3 (bitV bn3), blk g10 (.cells #[.slice (some ⟨gbn3, 0, none⟩) 34 cn3, .int .u32 (rn3 : Int), .int .u64 (vn3 : Int)] 84 (0, 0))]) := St.swap (A := s3.L) (E := [ownV 4 gbn3 (bitV bn3), blk g10 (.cells #[.slice (some ⟨gbn3, 0, none⟩) 34 cn3, .int .u32 (rn3 : Int), .int .u64 (vn3 : Int)] 84 (0, 0))]) (R := [errA, rdA (some ⟨ga, offa, none⟩) (opsV l), ownV 4 gbw3 (bitV bw3), blk g9 (.cells #[.slice (some ⟨gbw3, 0, none⟩) 34 cw3, .int .u32 (ra3 : Int), .int .u64 (va3 : Int)] 84 (0, 0))]) H
          go_roundw
          case rel => exact ⟨i + 1, s3.g, congrArg _ (by omega), rfl, HLT.out, s3, c3, bw3, bn3, ra3, va3, rn3, vn3, gbw3, cw3, gbn3, cn3, rfl, HC3.out, HI3.out, H⟩
          case measure => have := HLT.out; simp [intOf]; omega
        · have HFU := Lib.hid hfull
          clear hfull
          go_upto_region 38 with (first
            | (refine wpList_load1_st rfl 3 _ rfl _ _ rfl _ _ _ (H.at 13 rfl) _ Tryz.underlying3 rfl _ rfl ?_)
            | (go_at_call 20; go_loud ((refine (Take_full (s := s) (H.take 8).bundle HO.out (fun j a b => by rw [HN.out] at b; rw [HI.out.now.has j b]; exact HFU.out j b)).mono ?_); rintro e W ⟨rfl, hto⟩; replace H := hto.front (R := [rdA (some ⟨ga, offa, none⟩) (opsV l), ownV 4 gbw (bitV bw), blk g9 (.cells #[.slice (some ⟨gbw, 0, none⟩) 34 cw, .int .u32 (ra : Int), .int .u64 (va : Int)] 84 (0, 0)), ownV 4 gbn (bitV bn), blk g10 (.cells #[.slice (some ⟨gbn, 0, none⟩) 34 cn, .int .u32 (rn : Int), .int .u64 (vn : Int)] 84 (0, 0)), blk go (.cells #[.int .i64 Kd, .int .i64 A, .int .u64 (V : Int)] 88 (0, 0))]) H; clear hto))
            | (refine wpList_loadrow_st rfl 84 _ rfl _ rfl _ _ _ (H.at 12 rfl) _ Tryz.underlying84 rfl size_bits ?_)
            | (go_at_call 51; go_loud ((refine (btake_fulln (n := 34) (H.at 11 rfl : (ownV 4 gbn (bitV bn)).prop _) HLEN.out _ _ (by omega) HFU.out).mono ?_); rintro e W ⟨rfl, hto⟩; replace H := BunTo.one hto H 11 rfl; clear hto)))
          have HP : SpP w (some ⟨ga, offa, none⟩) l g9 g10 gl (i + 2) s.g W := ⟨s, c, _, _, _, _, _, _, _, _, _, _, rfl, by have := HC.out; omega, HI.out, H.take 13⟩
          clear H
          obtain ⟨s3, c3, bw3, bn3, ra3, va3, rn3, vn3, gbw3, cw3, gbn3, cn3, hG3, hc3, hi3, H⟩ := HP
          rw [hG3]
          have HC3 := Lib.hid hc3
          have HI3 := Lib.hid hi3
          have HO3 := Lib.hid hi3.ok
          have HN3 := Lib.hid hi3.n
          clear hG3 hc3 hi3
          replace H : St NoBlk (fun _ => True) w _ ((s3.L ++ [ownV 4 gbn3 (bitV bn3), blk g10 (.cells #[.slice (some ⟨gbn3, 0, none⟩) 34 cn3, .int .u32 (rn3 : Int), .int .u64 (vn3 : Int)] 84 (0, 0))]) ++ [errA, rdA (some ⟨ga, offa, none⟩) (opsV l), ownV 4 gbw3 (bitV bw3), blk g9 (.cells #[.slice (some ⟨gbw3, 0, none⟩) 34 cw3, .int .u32 (ra3 : Int), .int .u64 (va3 : Int)] 84 (0, 0))]) := St.swap (A := s3.L) (E := [errA, rdA (some ⟨ga, offa, none⟩) (opsV l), ownV 4 gbw3 (bitV bw3), blk g9 (.cells #[.slice (some ⟨gbw3, 0, none⟩) 34 cw3, .int .u32 (ra3 : Int), .int .u64 (va3 : Int)] 84 (0, 0))]) (R := [ownV 4 gbn3 (bitV bn3), blk g10 (.cells #[.slice (some ⟨gbn3, 0, none⟩) 34 cn3, .int .u32 (rn3 : Int), .int .u64 (vn3 : Int)] 84 (0, 0))]) H
          go_wp2_with (first
            | (refine wpList_loadrow_st rfl 84 _ rfl _ rfl _ _ _ (H.at 8 rfl) _ Tryz.underlying84 rfl size_bits ?_)
            | (go_at_call 53; go_loud ((refine (is_n (s := s3) (bs := bn3) (H.take 8).bundle HO3.out HN3.out HI3.out.now at_).mono ?_); rintro e W ⟨rfl, hto⟩; replace H := hto.front (R := [blk g10 (.cells #[.slice (some ⟨gbn3, 0, none⟩) 34 cn3, .int .u32 (rn3 : Int), .int .u64 (vn3 : Int)] 84 (0, 0))] ++ [errA, rdA (some ⟨ga, offa, none⟩) (opsV l), ownV 4 gbw3 (bitV bw3), blk g9 (.cells #[.slice (some ⟨gbw3, 0, none⟩) 34 cw3, .int .u32 (ra3 : Int), .int .u64 (va3 : Int)] 84 (0, 0))]) H; clear hto)))
          replace H : St NoBlk (fun _ => True) w _ ((s3.L ++ [errA, rdA (some ⟨ga, offa, none⟩) (opsV l), ownV 4 gbw3 (bitV bw3), blk g9 (.cells #[.slice (some ⟨gbw3, 0, none⟩) 34 cw3, .int .u32 (ra3 : Int), .int .u64 (va3 : Int)] 84 (0, 0))]) ++ [ownV 4 gbn3 (bitV bn3), blk g10 (.cells #[.slice (some ⟨gbn3, 0, none⟩) 34 cn3, .int .u32 (rn3 : Int), .int .u64 (vn3 : Int)] 84 (0, 0))]) := St.swap (A := s3.L) (E := [ownV 4 gbn3 (bitV bn3), blk g10 (.cells #[.slice (some ⟨gbn3, 0, none⟩) 34 cn3, .int .u32 (rn3 : Int), .int .u64 (vn3 : Int)] 84 (0, 0))]) (R := [errA, rdA (some ⟨ga, offa, none⟩) (opsV l), ownV 4 gbw3 (bitV bw3), blk g9 (.cells #[.slice (some ⟨gbw3, 0, none⟩) 34 cw3, .int .u32 (ra3 : Int), .int .u64 (va3 : Int)] 84 (0, 0))]) H
          go_roundw
          case rel => exact ⟨i + 1, s3.g, congrArg _ (by omega), rfl, HLT.out, s3, c3, bw3, bn3, ra3, va3, rn3, vn3, gbw3, cw3, gbn3, cn3, rfl, HC3.out, HI3.out, H⟩
          case measure => have := HLT.out; simp [intOf]; omega
      · rcases least_free bn 34 with ⟨q, hq, hqf, hqt⟩ | hfull
        · have HQF := Lib.hid hqf
          have HQT := Lib.hid hqt
          have HQ := Lib.hid hq
          have HQ2 := Lib.hid (HI.out.now.low hqf hq)
          have hq0 : 0 ≤ (q : Int) := by omega
          clear hqf hqt hq
          go_upto_region 38 with (first
            | (refine wpList_load1_st rfl 3 _ rfl _ _ rfl _ _ _ (H.at 13 rfl) _ Tryz.underlying3 rfl _ rfl ?_)
            | (go_at_call 20; go_loud ((refine (Take_ok (s := s) (H.take 7).bundle HO.out q HQ2.out (by rw [HN.out]; exact HQ.out) (by rw [HI.out.now.has q HQ.out]; exact HQF.out) (fun j a b => by rw [HI.out.now.has j (by have := HQ.out; omega)]; exact HQT.out j b)).mono ?_); rintro e W ⟨rfl, s2, hs2, hto⟩; replace H := hto.front (R := [errA, rdA (some ⟨ga, offa, none⟩) (opsV l), ownV 4 gbw (bitV bw), blk g9 (.cells #[.slice (some ⟨gbw, 0, none⟩) 34 cw, .int .u32 (ra : Int), .int .u64 (va : Int)] 84 (0, 0)), ownV 4 gbn (bitV bn), blk g10 (.cells #[.slice (some ⟨gbn, 0, none⟩) 34 cn, .int .u32 (rn : Int), .int .u64 (vn : Int)] 84 (0, 0)), blk go (.cells #[.int .i64 Kd, .int .i64 A, .int .u64 (V : Int)] 88 (0, 0))]) H; clear hto; have HI2 := Lib.hid (HI.out.turn q HQ2.out HQ.out true HQF.out hs2); have HG2 := Lib.hid hs2.g; clear hs2))
            | (refine wpList_loadrow_st rfl 84 _ rfl _ rfl _ _ _ (H.at 12 rfl) _ Tryz.underlying84 rfl size_bits ?_)
            | (go_at_call 51; go_loud ((refine (btake_n (n := 34) (H.at 11 rfl : (ownV 4 gbn (bitV bn)).prop _) HLEN.out _ _ q HQ.out (by omega) HQF.out HQT.out).mono ?_); rintro e W ⟨rfl, hto⟩; replace H := BunTo.one hto H 11 rfl; clear hto)))
          have HP : SpP w (some ⟨ga, offa, none⟩) l g9 g10 gl (i + 2) s2.g W := ⟨s2, c, _, _, _, _, _, _, _, _, _, _, rfl, by have := HC.out; omega, HI2.out, H.take 13⟩
          rw [← HG2.out]
          clear H
          obtain ⟨s3, c3, bw3, bn3, ra3, va3, rn3, vn3, gbw3, cw3, gbn3, cn3, hG3, hc3, hi3, H⟩ := HP
          rw [hG3]
          have HC3 := Lib.hid hc3
          have HI3 := Lib.hid hi3
          have HO3 := Lib.hid hi3.ok
          have HN3 := Lib.hid hi3.n
          clear hG3 hc3 hi3
          replace H : St NoBlk (fun _ => True) w _ ((s3.L ++ [ownV 4 gbn3 (bitV bn3), blk g10 (.cells #[.slice (some ⟨gbn3, 0, none⟩) 34 cn3, .int .u32 (rn3 : Int), .int .u64 (vn3 : Int)] 84 (0, 0))]) ++ [errA, rdA (some ⟨ga, offa, none⟩) (opsV l), ownV 4 gbw3 (bitV bw3), blk g9 (.cells #[.slice (some ⟨gbw3, 0, none⟩) 34 cw3, .int .u32 (ra3 : Int), .int .u64 (va3 : Int)] 84 (0, 0))]) := St.swap (A := s3.L) (E := [errA, rdA (some ⟨ga, offa, none⟩) (opsV l), ownV 4 gbw3 (bitV bw3), blk g9 (.cells #[.slice (some ⟨gbw3, 0, none⟩) 34 cw3, .int .u32 (ra3 : Int), .int .u64 (va3 : Int)] 84 (0, 0))]) (R := [ownV 4 gbn3 (bitV bn3), blk g10 (.cells #[.slice (some ⟨gbn3, 0, none⟩) 34 cn3, .int .u32 (rn3 : Int), .int .u64 (vn3 : Int)] 84 (0, 0))]) H
          go_wp2_with (first
            | (refine wpList_loadrow_st rfl 84 _ rfl _ rfl _ _ _ (H.at 8 rfl) _ Tryz.underlying84 rfl size_bits ?_)
            | (go_at_call 53; go_loud ((refine (is_n (s := s3) (bs := bn3) (H.take 8).bundle HO3.out HN3.out HI3.out.now at_).mono ?_); rintro e W ⟨rfl, hto⟩; replace H := hto.front (R := [blk g10 (.cells #[.slice (some ⟨gbn3, 0, none⟩) 34 cn3, .int .u32 (rn3 : Int), .int .u64 (vn3 : Int)] 84 (0, 0))] ++ [errA, rdA (some ⟨ga, offa, none⟩) (opsV l), ownV 4 gbw3 (bitV bw3), blk g9 (.cells #[.slice (some ⟨gbw3, 0, none⟩) 34 cw3, .int .u32 (ra3 : Int), .int .u64 (va3 : Int)] 84 (0, 0))]) H; clear hto)))
          replace H : St NoBlk (fun _ => True) w _ ((s3.L ++ [errA, rdA (some ⟨ga, offa, none⟩) (opsV l), ownV 4 gbw3 (bitV bw3), blk g9 (.cells #[.slice (some ⟨gbw3, 0, none⟩) 34 cw3, .int .u32 (ra3 : Int), .int .u64 (va3 : Int)] 84 (0, 0))]) ++ [ownV 4 gbn3 (bitV bn3), blk g10 (.cells #[.slice (some ⟨gbn3, 0, none⟩) 34 cn3, .int .u32 (rn3 : Int), .int .u64 (vn3 : Int)] 84 (0, 0))]) := St.swap (A := s3.L) (E := [ownV 4 gbn3 (bitV bn3), blk g10 (.cells #[.slice (some ⟨gbn3, 0, none⟩) 34 cn3, .int .u32 (rn3 : Int), .int .u64 (vn3 : Int)] 84 (0, 0))]) (R := [errA, rdA (some ⟨ga, offa, none⟩) (opsV l), ownV 4 gbw3 (bitV bw3), blk g9 (.cells #[.slice (some ⟨gbw3, 0, none⟩) 34 cw3, .int .u32 (ra3 : Int), .int .u64 (va3 : Int)] 84 (0, 0))]) H
          go_roundw
          case rel => exact ⟨i + 1, s3.g, congrArg _ (by omega), rfl, HLT.out, s3, c3, bw3, bn3, ra3, va3, rn3, vn3, gbw3, cw3, gbn3, cn3, rfl, HC3.out, HI3.out, H⟩
          case measure => have := HLT.out; simp [intOf]; omega
        · have HFU := Lib.hid hfull
          clear hfull
          go_upto_region 38 with (first
            | (refine wpList_load1_st rfl 3 _ rfl _ _ rfl _ _ _ (H.at 13 rfl) _ Tryz.underlying3 rfl _ rfl ?_)
            | (go_at_call 20; go_loud ((refine (Take_full (s := s) (H.take 8).bundle HO.out (fun j a b => by rw [HN.out] at b; rw [HI.out.now.has j b]; exact HFU.out j b)).mono ?_); rintro e W ⟨rfl, hto⟩; replace H := hto.front (R := [rdA (some ⟨ga, offa, none⟩) (opsV l), ownV 4 gbw (bitV bw), blk g9 (.cells #[.slice (some ⟨gbw, 0, none⟩) 34 cw, .int .u32 (ra : Int), .int .u64 (va : Int)] 84 (0, 0)), ownV 4 gbn (bitV bn), blk g10 (.cells #[.slice (some ⟨gbn, 0, none⟩) 34 cn, .int .u32 (rn : Int), .int .u64 (vn : Int)] 84 (0, 0)), blk go (.cells #[.int .i64 Kd, .int .i64 A, .int .u64 (V : Int)] 88 (0, 0))]) H; clear hto))
            | (refine wpList_loadrow_st rfl 84 _ rfl _ rfl _ _ _ (H.at 12 rfl) _ Tryz.underlying84 rfl size_bits ?_)
            | (go_at_call 51; go_loud ((refine (btake_fulln (n := 34) (H.at 11 rfl : (ownV 4 gbn (bitV bn)).prop _) HLEN.out _ _ (by omega) HFU.out).mono ?_); rintro e W ⟨rfl, hto⟩; replace H := BunTo.one hto H 11 rfl; clear hto)))
          have HP : SpP w (some ⟨ga, offa, none⟩) l g9 g10 gl (i + 2) s.g W := ⟨s, c, _, _, _, _, _, _, _, _, _, _, rfl, by have := HC.out; omega, HI.out, H.take 13⟩
          clear H
          obtain ⟨s3, c3, bw3, bn3, ra3, va3, rn3, vn3, gbw3, cw3, gbn3, cn3, hG3, hc3, hi3, H⟩ := HP
          rw [hG3]
          have HC3 := Lib.hid hc3
          have HI3 := Lib.hid hi3
          have HO3 := Lib.hid hi3.ok
          have HN3 := Lib.hid hi3.n
          clear hG3 hc3 hi3
          replace H : St NoBlk (fun _ => True) w _ ((s3.L ++ [ownV 4 gbn3 (bitV bn3), blk g10 (.cells #[.slice (some ⟨gbn3, 0, none⟩) 34 cn3, .int .u32 (rn3 : Int), .int .u64 (vn3 : Int)] 84 (0, 0))]) ++ [errA, rdA (some ⟨ga, offa, none⟩) (opsV l), ownV 4 gbw3 (bitV bw3), blk g9 (.cells #[.slice (some ⟨gbw3, 0, none⟩) 34 cw3, .int .u32 (ra3 : Int), .int .u64 (va3 : Int)] 84 (0, 0))]) := St.swap (A := s3.L) (E := [errA, rdA (some ⟨ga, offa, none⟩) (opsV l), ownV 4 gbw3 (bitV bw3), blk g9 (.cells #[.slice (some ⟨gbw3, 0, none⟩) 34 cw3, .int .u32 (ra3 : Int), .int .u64 (va3 : Int)] 84 (0, 0))]) (R := [ownV 4 gbn3 (bitV bn3), blk g10 (.cells #[.slice (some ⟨gbn3, 0, none⟩) 34 cn3, .int .u32 (rn3 : Int), .int .u64 (vn3 : Int)] 84 (0, 0))]) H
          go_wp2_with (first
            | (refine wpList_loadrow_st rfl 84 _ rfl _ rfl _ _ _ (H.at 8 rfl) _ Tryz.underlying84 rfl size_bits ?_)
            | (go_at_call 53; go_loud ((refine (is_n (s := s3) (bs := bn3) (H.take 8).bundle HO3.out HN3.out HI3.out.now at_).mono ?_); rintro e W ⟨rfl, hto⟩; replace H := hto.front (R := [blk g10 (.cells #[.slice (some ⟨gbn3, 0, none⟩) 34 cn3, .int .u32 (rn3 : Int), .int .u64 (vn3 : Int)] 84 (0, 0))] ++ [errA, rdA (some ⟨ga, offa, none⟩) (opsV l), ownV 4 gbw3 (bitV bw3), blk g9 (.cells #[.slice (some ⟨gbw3, 0, none⟩) 34 cw3, .int .u32 (ra3 : Int), .int .u64 (va3 : Int)] 84 (0, 0))]) H; clear hto)))
          replace H : St NoBlk (fun _ => True) w _ ((s3.L ++ [errA, rdA (some ⟨ga, offa, none⟩) (opsV l), ownV 4 gbw3 (bitV bw3), blk g9 (.cells #[.slice (some ⟨gbw3, 0, none⟩) 34 cw3, .int .u32 (ra3 : Int), .int .u64 (va3 : Int)] 84 (0, 0))]) ++ [ownV 4 gbn3 (bitV bn3), blk g10 (.cells #[.slice (some ⟨gbn3, 0, none⟩) 34 cn3, .int .u32 (rn3 : Int), .int .u64 (vn3 : Int)] 84 (0, 0))]) := St.swap (A := s3.L) (E := [ownV 4 gbn3 (bitV bn3), blk g10 (.cells #[.slice (some ⟨gbn3, 0, none⟩) 34 cn3, .int .u32 (rn3 : Int), .int .u64 (vn3 : Int)] 84 (0, 0))]) (R := [errA, rdA (some ⟨ga, offa, none⟩) (opsV l), ownV 4 gbw3 (bitV bw3), blk g9 (.cells #[.slice (some ⟨gbw3, 0, none⟩) 34 cw3, .int .u32 (ra3 : Int), .int .u64 (va3 : Int)] 84 (0, 0))]) H
          go_roundw
          case rel => exact ⟨i + 1, s3.g, congrArg _ (by omega), rfl, HLT.out, s3, c3, bw3, bn3, ra3, va3, rn3, vn3, gbw3, cw3, gbn3, cn3, rfl, HC3.out, HI3.out, H⟩
          case measure => have := HLT.out; simp [intOf]; omega
      · have hcase : (2 ≤ A ∧ A < 34 ∧ bn.getD A.toNat false = true) ∨ (A < 2 ∨ 34 ≤ A ∨ (0 ≤ A ∧ bn.getD A.toNat false = false)) := by
          by_cases h1 : A < 2
          · exact .inr (.inl h1)
          · by_cases h2 : 34 ≤ A
            · exact .inr (.inr (.inl h2))
            · cases hb : bn.getD A.toNat false with
              | true => exact .inl ⟨by omega, by omega, rfl⟩
              | false => exact .inr (.inr (.inr ⟨by omega, rfl⟩))
        go_upto_region 28 with (first
          | (refine wpList_load1_st rfl 3 _ rfl _ _ rfl _ _ _ (H.at 13 rfl) _ Tryz.underlying3 rfl _ rfl ?_))
        clear hkl hku hi60 hli hli2 hk
        replace H := H.drew
        rcases hcase with ⟨h1, h2, h3⟩ | hcase
        · have HA1 := Lib.hid (show 2 ≤ A.toNat by omega)
          have HA2 := Lib.hid (show A.toNat < 34 by omega)
          have HA3 := Lib.hid (show (A.toNat : Int) = A by omega)
          have HA4 := Lib.hid h3
          clear h1 h2 h3
          refine wp_region_held_drew (S := fun w' => w'.cell? ⟨go, 1, none⟩ = some (.int .i64 A) ∧ w'.heap[g10]? = some (.cells #[.slice (some ⟨gbn, 0, none⟩) 34 cn, .int .u32 (rn : Int), .int .u64 (vn : Int)] 84 (0, 0))) (by kernel_rfl) ⟨row_cell (H.at 13 rfl) rfl, H.at 12 rfl⟩ (fun hHeld => ?_)
          (refine wpAnyH_take (i := 0) (v := ?_) rfl (by kernel_rfl) (by kernel_rfl) (by kernel_rfl) (fun _ _ _ h => h) (Or.inl ⟨by rfl, ?_⟩) (by assumption) ?_; rotate_left; focus (intro w hSw; (try dsimp only at hSw); go_simp; all_goals (with_reducible rfl))); (try simp only [Act.put, List.setIfInBounds_toArray, List.set_cons_zero, List.set_cons_succ, List.getElem_toArray, List.getElem_cons_succ, List.getElem_cons_zero])
          (refine wpAnyH_take (i := 1) (v := ?_) rfl (by kernel_rfl) (by kernel_rfl) (by kernel_rfl) (fun _ _ _ h => h) (Or.inl ⟨by rfl, ?_⟩) (by assumption) ?_; rotate_left; focus (intro w hSw; (try dsimp only at hSw); go_simp; all_goals (with_reducible rfl))); (try simp only [Act.put, List.setIfInBounds_toArray, List.set_cons_zero, List.set_cons_succ, List.getElem_toArray, List.getElem_cons_succ, List.getElem_cons_zero])
          (refine wpAnyH_take (i := 2) rfl (by kernel_rfl) (by kernel_rfl) (by kernel_rfl) (fun _ _ _ h => h) ((yieldsIf_load1 (by rfl) 3 _ rfl _ _ (by rfl) _ Tryz.underlying3 rfl _ (fun w h => h.1))) (by assumption) ?_); (try simp only [Act.put, List.setIfInBounds_toArray, List.set_cons_zero, List.set_cons_succ, List.getElem_toArray, List.getElem_cons_succ, List.getElem_cons_zero])
          (refine wpAnyH_take (i := 4) rfl (by kernel_rfl) (by kernel_rfl) (by kernel_rfl) (fun _ _ _ h => h) ((yieldsIf_loadrow (by rfl) 84 _ rfl _ (by rfl) #[.slice (some ⟨gbn, 0, none⟩) 34 cn, .int .u32 (rn : Int), .int .u64 (vn : Int)] _ _ _ Tryz.underlying84 rfl size_bits (fun w h => h.2))) (by assumption) ?_); (try simp only [Act.put, List.setIfInBounds_toArray, List.set_cons_zero, List.set_cons_succ, List.getElem_toArray, List.getElem_cons_succ, List.getElem_cons_zero])
          (refine wpAnyH_take (i := 5) (v := ?_) rfl (by kernel_rfl) (by kernel_rfl) (by kernel_rfl) (fun _ _ _ h => h) (Or.inl ⟨by rfl, ?_⟩) (by assumption) ?_; rotate_left; focus (intro w hSw; (try dsimp only at hSw); go_simp; all_goals (with_reducible rfl))); (try simp only [Act.put, List.setIfInBounds_toArray, List.set_cons_zero, List.set_cons_succ, List.getElem_toArray, List.getElem_cons_succ, List.getElem_cons_zero])
          (refine wpAnyH_take (i := 6) rfl (by kernel_rfl) (by kernel_rfl) (by kernel_rfl) (fun _ _ _ h => h) ((yieldsIf_load1 (by rfl) 3 _ rfl _ _ (by rfl) _ Tryz.underlying3 rfl _ (fun w h => h.1))) (by assumption) ?_); (try simp only [Act.put, List.setIfInBounds_toArray, List.set_cons_zero, List.set_cons_succ, List.getElem_toArray, List.getElem_cons_succ, List.getElem_cons_zero])
          refine wpAnyH_ready (rs := [3]) (by kernel_rfl) (by simp) (AllReadyH.cons rfl (fun K hK => ?_) AllReadyH.nil)
          rw [if_pos (by rfl)]
          (go_simp; go_at_call 25; (refine (Free_okS (s := s) (H.take 7).bundle HO.out _ A.toNat HA3.out HA1.out (by rw [HN.out]; exact HA2.out) (by rw [HI.out.now.has _ HA2.out]; exact HA4.out)).mono ?_); rintro e W1 ⟨rfl, s2, hs2, hto⟩; replace H := hto.front (R := _) H; clear hto; have HI2 := Lib.hid (HI.out.turn A.toNat HA1.out HA2.out false HA4.out hs2); have HG2 := Lib.hid hs2.g; clear hs2; (try go_wp2_with fail); refine hK.out _ _ ⟨row_cell (H.at 13 rfl) rfl, H.at 12 rfl⟩ (fun hHeld2 => ?_); clear hK K)
          (try simp only [Act.put, List.setIfInBounds_toArray, List.set_cons_zero, List.set_cons_succ, List.getElem_toArray, List.getElem_cons_succ, List.getElem_cons_zero])
          refine wpAnyH_ready (rs := [7]) (by kernel_rfl) (by simp) (AllReadyH.cons rfl (fun K hK => ?_) AllReadyH.nil)
          rw [if_pos (by rfl)]
          (go_simp; go_at_call 52; (refine (bfree_n (n := 34) (H.at 11 rfl : (ownV 4 gbn (bitV bn)).prop _) HLEN.out _ _ _ A.toNat HA3.out HA1.out HA2.out (by omega) HA4.out).mono ?_); rintro e W1 ⟨rfl, hto⟩; replace H := BunTo.one hto H 11 rfl; clear hto; (try go_wp2_with fail); refine hK.out _ _ ⟨row_cell (H.at 13 rfl) rfl, H.at 12 rfl⟩ (fun hHeld2 => ?_); clear hK K)
          (try simp only [Act.put, List.setIfInBounds_toArray, List.set_cons_zero, List.set_cons_succ, List.getElem_toArray, List.getElem_cons_succ, List.getElem_cons_zero])
          (refine wpAnyH_take (i := 8) (v := ?_) rfl (by kernel_rfl) (by kernel_rfl) (by kernel_rfl) (fun _ _ _ h => h) (Or.inl ⟨by rfl, ?_⟩) (by assumption) ?_; rotate_left; focus (intro w hSw; (try dsimp only at hSw); go_simp; all_goals (with_reducible rfl))); (try simp only [Act.put, List.setIfInBounds_toArray, List.set_cons_zero, List.set_cons_succ, List.getElem_toArray, List.getElem_cons_succ, List.getElem_cons_zero])
          (refine wpAnyH_done (by kernel_rfl) ?_ _)
          clear hHeld hHeld2
          go_upto_region 38 with fail
          have HP : SpP w (some ⟨ga, offa, none⟩) l g9 g10 gl (i + 2) s2.g _ := ⟨s2, c, _, _, _, _, _, _, _, _, _, _, rfl, by have := HC.out; omega, HI2.out, H.take 13⟩
          rw [← HG2.out]
          clear H
          obtain ⟨s3, c3, bw3, bn3, ra3, va3, rn3, vn3, gbw3, cw3, gbn3, cn3, hG3, hc3, hi3, H⟩ := HP
          rw [hG3]
          have HC3 := Lib.hid hc3
          have HI3 := Lib.hid hi3
          have HO3 := Lib.hid hi3.ok
          have HN3 := Lib.hid hi3.n
          clear hG3 hc3 hi3
          replace H : St NoBlk (fun _ => True) w _ ((s3.L ++ [ownV 4 gbn3 (bitV bn3), blk g10 (.cells #[.slice (some ⟨gbn3, 0, none⟩) 34 cn3, .int .u32 (rn3 : Int), .int .u64 (vn3 : Int)] 84 (0, 0))]) ++ [errA, rdA (some ⟨ga, offa, none⟩) (opsV l), ownV 4 gbw3 (bitV bw3), blk g9 (.cells #[.slice (some ⟨gbw3, 0, none⟩) 34 cw3, .int .u32 (ra3 : Int), .int .u64 (va3 : Int)] 84 (0, 0))]) := St.swap (A := s3.L) (E := [errA, rdA (some ⟨ga, offa, none⟩) (opsV l), ownV 4 gbw3 (bitV bw3), blk g9 (.cells #[.slice (some ⟨gbw3, 0, none⟩) 34 cw3, .int .u32 (ra3 : Int), .int .u64 (va3 : Int)] 84 (0, 0))]) (R := [ownV 4 gbn3 (bitV bn3), blk g10 (.cells #[.slice (some ⟨gbn3, 0, none⟩) 34 cn3, .int .u32 (rn3 : Int), .int .u64 (vn3 : Int)] 84 (0, 0))]) H
          go_wp2_with (first
            | (refine wpList_loadrow_st rfl 84 _ rfl _ rfl _ _ _ (H.at 8 rfl) _ Tryz.underlying84 rfl size_bits ?_)
            | (go_at_call 53; go_loud ((refine (is_n (s := s3) (bs := bn3) (H.take 8).bundle HO3.out HN3.out HI3.out.now at_).mono ?_); rintro e W ⟨rfl, hto⟩; replace H := hto.front (R := [blk g10 (.cells #[.slice (some ⟨gbn3, 0, none⟩) 34 cn3, .int .u32 (rn3 : Int), .int .u64 (vn3 : Int)] 84 (0, 0))] ++ [errA, rdA (some ⟨ga, offa, none⟩) (opsV l), ownV 4 gbw3 (bitV bw3), blk g9 (.cells #[.slice (some ⟨gbw3, 0, none⟩) 34 cw3, .int .u32 (ra3 : Int), .int .u64 (va3 : Int)] 84 (0, 0))]) H; clear hto)))
          replace H : St NoBlk (fun _ => True) w _ ((s3.L ++ [errA, rdA (some ⟨ga, offa, none⟩) (opsV l), ownV 4 gbw3 (bitV bw3), blk g9 (.cells #[.slice (some ⟨gbw3, 0, none⟩) 34 cw3, .int .u32 (ra3 : Int), .int .u64 (va3 : Int)] 84 (0, 0))]) ++ [ownV 4 gbn3 (bitV bn3), blk g10 (.cells #[.slice (some ⟨gbn3, 0, none⟩) 34 cn3, .int .u32 (rn3 : Int), .int .u64 (vn3 : Int)] 84 (0, 0))]) := St.swap (A := s3.L) (E := [ownV 4 gbn3 (bitV bn3), blk g10 (.cells #[.slice (some ⟨gbn3, 0, none⟩) 34 cn3, .int .u32 (rn3 : Int), .int .u64 (vn3 : Int)] 84 (0, 0))]) (R := [errA, rdA (some ⟨ga, offa, none⟩) (opsV l), ownV 4 gbw3 (bitV bw3), blk g9 (.cells #[.slice (some ⟨gbw3, 0, none⟩) 34 cw3, .int .u32 (ra3 : Int), .int .u64 (va3 : Int)] 84 (0, 0))]) H
          go_roundw
          case rel => exact ⟨i + 1, s3.g, congrArg _ (by omega), rfl, HLT.out, s3, c3, bw3, bn3, ra3, va3, rn3, vn3, gbw3, cw3, gbn3, cn3, rfl, HC3.out, HI3.out, H⟩
          case measure => have := HLT.out; simp [intOf]; omega

        · have HA := Lib.hid hcase
          clear hcase
          refine wp_region_held_drew (S := fun w' => w'.cell? ⟨go, 1, none⟩ = some (.int .i64 A) ∧ w'.heap[g10]? = some (.cells #[.slice (some ⟨gbn, 0, none⟩) 34 cn, .int .u32 (rn : Int), .int .u64 (vn : Int)] 84 (0, 0))) (by kernel_rfl) ⟨row_cell (H.at 13 rfl) rfl, H.at 12 rfl⟩ (fun hHeld => ?_)
          (refine wpAnyH_take (i := 0) (v := ?_) rfl (by kernel_rfl) (by kernel_rfl) (by kernel_rfl) (fun _ _ _ h => h) (Or.inl ⟨by rfl, ?_⟩) (by assumption) ?_; rotate_left; focus (intro w hSw; (try dsimp only at hSw); go_simp; all_goals (with_reducible rfl))); (try simp only [Act.put, List.setIfInBounds_toArray, List.set_cons_zero, List.set_cons_succ, List.getElem_toArray, List.getElem_cons_succ, List.getElem_cons_zero])
          (refine wpAnyH_take (i := 1) (v := ?_) rfl (by kernel_rfl) (by kernel_rfl) (by kernel_rfl) (fun _ _ _ h => h) (Or.inl ⟨by rfl, ?_⟩) (by assumption) ?_; rotate_left; focus (intro w hSw; (try dsimp only at hSw); go_simp; all_goals (with_reducible rfl))); (try simp only [Act.put, List.setIfInBounds_toArray, List.set_cons_zero, List.set_cons_succ, List.getElem_toArray, List.getElem_cons_succ, List.getElem_cons_zero])
          (refine wpAnyH_take (i := 2) rfl (by kernel_rfl) (by kernel_rfl) (by kernel_rfl) (fun _ _ _ h => h) ((yieldsIf_load1 (by rfl) 3 _ rfl _ _ (by rfl) _ Tryz.underlying3 rfl _ (fun w h => h.1))) (by assumption) ?_); (try simp only [Act.put, List.setIfInBounds_toArray, List.set_cons_zero, List.set_cons_succ, List.getElem_toArray, List.getElem_cons_succ, List.getElem_cons_zero])
          (refine wpAnyH_take (i := 4) rfl (by kernel_rfl) (by kernel_rfl) (by kernel_rfl) (fun _ _ _ h => h) ((yieldsIf_loadrow (by rfl) 84 _ rfl _ (by rfl) #[.slice (some ⟨gbn, 0, none⟩) 34 cn, .int .u32 (rn : Int), .int .u64 (vn : Int)] _ _ _ Tryz.underlying84 rfl size_bits (fun w h => h.2))) (by assumption) ?_); (try simp only [Act.put, List.setIfInBounds_toArray, List.set_cons_zero, List.set_cons_succ, List.getElem_toArray, List.getElem_cons_succ, List.getElem_cons_zero])
          (refine wpAnyH_take (i := 5) (v := ?_) rfl (by kernel_rfl) (by kernel_rfl) (by kernel_rfl) (fun _ _ _ h => h) (Or.inl ⟨by rfl, ?_⟩) (by assumption) ?_; rotate_left; focus (intro w hSw; (try dsimp only at hSw); go_simp; all_goals (with_reducible rfl))); (try simp only [Act.put, List.setIfInBounds_toArray, List.set_cons_zero, List.set_cons_succ, List.getElem_toArray, List.getElem_cons_succ, List.getElem_cons_zero])
          (refine wpAnyH_take (i := 6) rfl (by kernel_rfl) (by kernel_rfl) (by kernel_rfl) (fun _ _ _ h => h) ((yieldsIf_load1 (by rfl) 3 _ rfl _ _ (by rfl) _ Tryz.underlying3 rfl _ (fun w h => h.1))) (by assumption) ?_); (try simp only [Act.put, List.setIfInBounds_toArray, List.set_cons_zero, List.set_cons_succ, List.getElem_toArray, List.getElem_cons_succ, List.getElem_cons_zero])
          refine wpAnyH_ready (rs := [3]) (by kernel_rfl) (by simp) (AllReadyH.cons rfl (fun K hK => ?_) AllReadyH.nil)
          rw [if_pos (by rfl)]
          (go_simp; go_at_call 25; (refine (Free_noS (s := s) (H.take 7).bundle HO.out _ (by have := HA.out; have hn := HN.out; rcases this with h | h | ⟨h, h2⟩; exact .inl h; exact .inr (.inl (by omega)); by_cases h3 : A < 34; exact .inr (.inr (by rw [HI.out.now.has _ (by omega)]; exact h2)); exact .inr (.inl (by omega)))).mono ?_); rintro e W1 ⟨rfl, hto⟩; replace H := hto.front (R := _) H; clear hto; (try go_wp2_with fail); refine hK.out _ _ ⟨row_cell (H.at 13 rfl) rfl, H.at 12 rfl⟩ (fun hHeld2 => ?_); clear hK K)
          (try simp only [Act.put, List.setIfInBounds_toArray, List.set_cons_zero, List.set_cons_succ, List.getElem_toArray, List.getElem_cons_succ, List.getElem_cons_zero])
          refine wpAnyH_ready (rs := [7]) (by kernel_rfl) (by simp) (AllReadyH.cons rfl (fun K hK => ?_) AllReadyH.nil)
          rw [if_pos (by rfl)]
          (go_simp; go_at_call 52; (refine (bfree_non (n := 34) (H.at 11 rfl : (ownV 4 gbn (bitV bn)).prop _) HLEN.out _ _ _ (by omega) HA.out).mono ?_); rintro e W1 ⟨rfl, hto⟩; replace H := BunTo.one hto H 11 rfl; clear hto; (try go_wp2_with fail); refine hK.out _ _ ⟨row_cell (H.at 13 rfl) rfl, H.at 12 rfl⟩ (fun hHeld2 => ?_); clear hK K)
          (try simp only [Act.put, List.setIfInBounds_toArray, List.set_cons_zero, List.set_cons_succ, List.getElem_toArray, List.getElem_cons_succ, List.getElem_cons_zero])
          (refine wpAnyH_take (i := 8) (v := ?_) rfl (by kernel_rfl) (by kernel_rfl) (by kernel_rfl) (fun _ _ _ h => h) (Or.inl ⟨by rfl, ?_⟩) (by assumption) ?_; rotate_left; focus (intro w hSw; (try dsimp only at hSw); go_simp; all_goals (with_reducible rfl))); (try simp only [Act.put, List.setIfInBounds_toArray, List.set_cons_zero, List.set_cons_succ, List.getElem_toArray, List.getElem_cons_succ, List.getElem_cons_zero])
          (refine wpAnyH_done (by kernel_rfl) ?_ _)
          clear hHeld hHeld2
          go_upto_region 38 with fail
          have HP : SpP w (some ⟨ga, offa, none⟩) l g9 g10 gl (i + 2) s.g _ := ⟨s, c, _, _, _, _, _, _, _, _, _, _, rfl, by have := HC.out; omega, HI.out, H.take 13⟩
          clear H
          obtain ⟨s3, c3, bw3, bn3, ra3, va3, rn3, vn3, gbw3, cw3, gbn3, cn3, hG3, hc3, hi3, H⟩ := HP
          rw [hG3]
          have HC3 := Lib.hid hc3
          have HI3 := Lib.hid hi3
          have HO3 := Lib.hid hi3.ok
          have HN3 := Lib.hid hi3.n
          clear hG3 hc3 hi3
          replace H : St NoBlk (fun _ => True) w _ ((s3.L ++ [ownV 4 gbn3 (bitV bn3), blk g10 (.cells #[.slice (some ⟨gbn3, 0, none⟩) 34 cn3, .int .u32 (rn3 : Int), .int .u64 (vn3 : Int)] 84 (0, 0))]) ++ [errA, rdA (some ⟨ga, offa, none⟩) (opsV l), ownV 4 gbw3 (bitV bw3), blk g9 (.cells #[.slice (some ⟨gbw3, 0, none⟩) 34 cw3, .int .u32 (ra3 : Int), .int .u64 (va3 : Int)] 84 (0, 0))]) := St.swap (A := s3.L) (E := [errA, rdA (some ⟨ga, offa, none⟩) (opsV l), ownV 4 gbw3 (bitV bw3), blk g9 (.cells #[.slice (some ⟨gbw3, 0, none⟩) 34 cw3, .int .u32 (ra3 : Int), .int .u64 (va3 : Int)] 84 (0, 0))]) (R := [ownV 4 gbn3 (bitV bn3), blk g10 (.cells #[.slice (some ⟨gbn3, 0, none⟩) 34 cn3, .int .u32 (rn3 : Int), .int .u64 (vn3 : Int)] 84 (0, 0))]) H
          go_wp2_with (first
            | (refine wpList_loadrow_st rfl 84 _ rfl _ rfl _ _ _ (H.at 8 rfl) _ Tryz.underlying84 rfl size_bits ?_)
            | (go_at_call 53; go_loud ((refine (is_n (s := s3) (bs := bn3) (H.take 8).bundle HO3.out HN3.out HI3.out.now at_).mono ?_); rintro e W ⟨rfl, hto⟩; replace H := hto.front (R := [blk g10 (.cells #[.slice (some ⟨gbn3, 0, none⟩) 34 cn3, .int .u32 (rn3 : Int), .int .u64 (vn3 : Int)] 84 (0, 0))] ++ [errA, rdA (some ⟨ga, offa, none⟩) (opsV l), ownV 4 gbw3 (bitV bw3), blk g9 (.cells #[.slice (some ⟨gbw3, 0, none⟩) 34 cw3, .int .u32 (ra3 : Int), .int .u64 (va3 : Int)] 84 (0, 0))]) H; clear hto)))
          replace H : St NoBlk (fun _ => True) w _ ((s3.L ++ [errA, rdA (some ⟨ga, offa, none⟩) (opsV l), ownV 4 gbw3 (bitV bw3), blk g9 (.cells #[.slice (some ⟨gbw3, 0, none⟩) 34 cw3, .int .u32 (ra3 : Int), .int .u64 (va3 : Int)] 84 (0, 0))]) ++ [ownV 4 gbn3 (bitV bn3), blk g10 (.cells #[.slice (some ⟨gbn3, 0, none⟩) 34 cn3, .int .u32 (rn3 : Int), .int .u64 (vn3 : Int)] 84 (0, 0))]) := St.swap (A := s3.L) (E := [ownV 4 gbn3 (bitV bn3), blk g10 (.cells #[.slice (some ⟨gbn3, 0, none⟩) 34 cn3, .int .u32 (rn3 : Int), .int .u64 (vn3 : Int)] 84 (0, 0))]) (R := [errA, rdA (some ⟨ga, offa, none⟩) (opsV l), ownV 4 gbw3 (bitV bw3), blk g9 (.cells #[.slice (some ⟨gbw3, 0, none⟩) 34 cw3, .int .u32 (ra3 : Int), .int .u64 (va3 : Int)] 84 (0, 0))]) H
          go_roundw
          case rel => exact ⟨i + 1, s3.g, congrArg _ (by omega), rfl, HLT.out, s3, c3, bw3, bn3, ra3, va3, rn3, vn3, gbw3, cw3, gbn3, cn3, rfl, HC3.out, HI3.out, H⟩
          case measure => have := HLT.out; simp [intOf]; omega


      · obtain ⟨r', hr', hr9⟩ : ∃ r' : Nat, (r' : Int) = IntKind.u32.wrap A ∧ r' < 4294967296 := ⟨(IntKind.u32.wrap A).toNat, by rw [IntKind.wrap_u32]; omega, by rw [IntKind.wrap_u32]; omega⟩
        have HR1 := Lib.hid hr'
        have HR9 := Lib.hid hr9
        clear hr' hr9
        go_upto_region 33 with (first
          | (refine wpList_load1_st rfl 3 _ rfl _ _ rfl _ _ _ (H.at 13 rfl) _ Tryz.underlying3 rfl _ rfl ?_)
          | (refine wpList_load1_st rfl 33 _ rfl _ _ rfl _ _ _ (H.at 13 rfl) _ Tryz.underlying33 rfl _ rfl ?_)
          | (go_at_call 21; go_loud ((refine (SetRoot_ok (s := s) (H.take 7).bundle HO.out _ _ r' V HR1.out rfl HR9.out HV.out).mono ?_); rintro e W ⟨rfl, s2, hs2, hto⟩; replace H := hto.front (R := [errA, rdA (some ⟨ga, offa, none⟩) (opsV l), ownV 4 gbw (bitV bw), blk g9 (.cells #[.slice (some ⟨gbw, 0, none⟩) 34 cw, .int .u32 (ra : Int), .int .u64 (va : Int)] 84 (0, 0)), ownV 4 gbn (bitV bn), blk g10 (.cells #[.slice (some ⟨gbn, 0, none⟩) 34 cn, .int .u32 (rn : Int), .int .u64 (vn : Int)] 84 (0, 0)), blk go (.cells #[.int .i64 Kd, .int .i64 A, .int .u64 (V : Int)] 88 (0, 0))]) H; clear hto; have HI2 := Lib.hid (HI.out.rooted r' V HR9.out HV.out hs2); have HG2 := Lib.hid hs2.g; clear hs2)))
        clear hkl hku hi60 hli hli2 hk
        replace H := H.drew
        refine wp_region_held_drew (S := fun w' => w'.cell? ⟨go, 1, none⟩ = some (.int .i64 A) ∧ w'.cell? ⟨go, 2, none⟩ = some (.int .u64 (V : Int))) (by kernel_rfl) ⟨row_cell (H.at 13 rfl) rfl, row_cell (H.at 13 rfl) rfl⟩ (fun hHeld => ?_)
        (refine wpAnyH_take (i := 0) (v := ?_) rfl (by kernel_rfl) (by kernel_rfl) (by kernel_rfl) (fun _ _ _ h => h) (Or.inl ⟨by rfl, ?_⟩) (by assumption) ?_; rotate_left; focus (intro w hSw; (try dsimp only at hSw); go_simp; all_goals (with_reducible rfl))); (try simp only [Act.put, List.setIfInBounds_toArray, List.set_cons_zero, List.set_cons_succ, List.getElem_toArray, List.getElem_cons_succ, List.getElem_cons_zero])
        (refine wpAnyH_take (i := 1) rfl (by kernel_rfl) (by kernel_rfl) (by kernel_rfl) (fun _ _ _ h => h) ((yieldsIf_load1 (by rfl) 3 _ rfl _ _ (by rfl) _ Tryz.underlying3 rfl _ (fun w h => h.1))) (by assumption) ?_); (try simp only [Act.put, List.setIfInBounds_toArray, List.set_cons_zero, List.set_cons_succ, List.getElem_toArray, List.getElem_cons_succ, List.getElem_cons_zero])
        (refine wpAnyH_take (i := 2) (v := ?_) rfl (by kernel_rfl) (by kernel_rfl) (by kernel_rfl) (fun _ _ _ h => h) (Or.inl ⟨by rfl, ?_⟩) (by assumption) ?_; rotate_left; focus (intro w hSw; (try dsimp only at hSw); go_simp; all_goals (with_reducible rfl))); (try simp only [Act.put, List.setIfInBounds_toArray, List.set_cons_zero, List.set_cons_succ, List.getElem_toArray, List.getElem_cons_succ, List.getElem_cons_zero])
        (refine wpAnyH_take (i := 3) (v := ?_) rfl (by kernel_rfl) (by kernel_rfl) (by kernel_rfl) (fun _ _ _ h => h) (Or.inl ⟨by rfl, ?_⟩) (by assumption) ?_; rotate_left; focus (intro w hSw; (try dsimp only at hSw); go_simp; all_goals (with_reducible rfl))); (try simp only [Act.put, List.setIfInBounds_toArray, List.set_cons_zero, List.set_cons_succ, List.getElem_toArray, List.getElem_cons_succ, List.getElem_cons_zero])
        (refine wpAnyH_take (i := 4) rfl (by kernel_rfl) (by kernel_rfl) (by kernel_rfl) (fun _ _ _ h => h) ((yieldsIf_load1 (by rfl) 33 _ rfl _ _ (by rfl) _ Tryz.underlying33 rfl _ (fun w h => h.2))) (by assumption) ?_); (try simp only [Act.put, List.setIfInBounds_toArray, List.set_cons_zero, List.set_cons_succ, List.getElem_toArray, List.getElem_cons_succ, List.getElem_cons_zero])
        (refine wpAnyH_take (i := 5) (v := ?_) rfl (by kernel_rfl) (by kernel_rfl) (by kernel_rfl) (fun _ _ _ h => h) (Or.inl ⟨by rfl, ?_⟩) (by assumption) ?_; rotate_left; focus (intro w hSw; (try dsimp only at hSw); go_simp; all_goals (with_reducible rfl))); (try simp only [Act.put, List.setIfInBounds_toArray, List.set_cons_zero, List.set_cons_succ, List.getElem_toArray, List.getElem_cons_succ, List.getElem_cons_zero])
        (refine wpAnyH_ready (rs := [6]) (by kernel_rfl) (by simp) (AllReadyH.cons rfl (fun K hK => ?_) AllReadyH.nil)); (rw [if_pos (by rfl)]); (refine wp_store1_st H 12 37 _ _ rfl g10 1 (.int .u32 (r' : Int)) (by rfl) (by rw [HR1.out]; rfl) rfl _ _ rfl rfl (by simp) ?_; intro W2 H2; replace H2 : St NoBlk (fun _ => True) w _ (s2.L ++ [errA, rdA (some ⟨ga, offa, none⟩) (opsV l), ownV 4 gbw (bitV bw), blk g9 (.cells #[.slice (some ⟨gbw, 0, none⟩) 34 cw, .int .u32 (ra : Int), .int .u64 (va : Int)] 84 (0, 0)), ownV 4 gbn (bitV bn), blk g10 (.cells #[.slice (some ⟨gbn, 0, none⟩) 34 cn, .int .u32 (r' : Int), .int .u64 (vn : Int)] 84 (0, 0)), blk go (.cells #[.int .i64 Kd, .int .i64 A, .int .u64 (V : Int)] 88 (0, 0))]) := H2; refine hK.out _ _ ⟨row_cell (H2.at 13 rfl) rfl, row_cell (H2.at 13 rfl) rfl⟩ (fun hHeld2 => ?_); clear hK K)
        (try simp only [Act.put, List.setIfInBounds_toArray, List.set_cons_zero, List.set_cons_succ, List.getElem_toArray, List.getElem_cons_succ, List.getElem_cons_zero])
        (refine wpAnyH_take (i := 7) (v := ?_) rfl (by kernel_rfl) (by kernel_rfl) (by kernel_rfl) (fun _ _ _ h => h) (Or.inl ⟨by rfl, ?_⟩) (by assumption) ?_; rotate_left; focus (intro w hSw; (try dsimp only at hSw); go_simp; all_goals (with_reducible rfl))); (try simp only [Act.put, List.setIfInBounds_toArray, List.set_cons_zero, List.set_cons_succ, List.getElem_toArray, List.getElem_cons_succ, List.getElem_cons_zero])
        (refine wpAnyH_ready (rs := [8]) (by kernel_rfl) (by simp) (AllReadyH.cons rfl (fun K hK => ?_) AllReadyH.nil)); (rw [if_pos (by rfl)]); (refine wp_store1_st H2 12 33 _ _ rfl g10 2 (.int .u64 (V : Int)) (by rfl) (by rfl) rfl _ _ rfl rfl (by simp) ?_; intro W3 H3; replace H3 : St NoBlk (fun _ => True) w _ (s2.L ++ [errA, rdA (some ⟨ga, offa, none⟩) (opsV l), ownV 4 gbw (bitV bw), blk g9 (.cells #[.slice (some ⟨gbw, 0, none⟩) 34 cw, .int .u32 (ra : Int), .int .u64 (va : Int)] 84 (0, 0)), ownV 4 gbn (bitV bn), blk g10 (.cells #[.slice (some ⟨gbn, 0, none⟩) 34 cn, .int .u32 (r' : Int), .int .u64 (V : Int)] 84 (0, 0)), blk go (.cells #[.int .i64 Kd, .int .i64 A, .int .u64 (V : Int)] 88 (0, 0))]) := H3; refine hK.out _ _ ⟨row_cell (H3.at 13 rfl) rfl, row_cell (H3.at 13 rfl) rfl⟩ (fun hHeld3 => ?_); clear hK K)
        (try simp only [Act.put, List.setIfInBounds_toArray, List.set_cons_zero, List.set_cons_succ, List.getElem_toArray, List.getElem_cons_succ, List.getElem_cons_zero])
        (refine wpAnyH_done (by kernel_rfl) ?_ _)
        clear hHeld hHeld2 hHeld3 H H2
        go_upto_region 38 with fail
        have HP : SpP w (some ⟨ga, offa, none⟩) l g9 g10 gl (i + 2) s2.g _ := ⟨s2, c, _, _, _, _, _, _, _, _, _, _, rfl, by have := HC.out; omega, HI2.out, H3.take 13⟩
        have H := H3
        clear H3
        rw [← HG2.out]
        clear H
        obtain ⟨s3, c3, bw3, bn3, ra3, va3, rn3, vn3, gbw3, cw3, gbn3, cn3, hG3, hc3, hi3, H⟩ := HP
        rw [hG3]
        have HC3 := Lib.hid hc3
        have HI3 := Lib.hid hi3
        have HO3 := Lib.hid hi3.ok
        have HN3 := Lib.hid hi3.n
        clear hG3 hc3 hi3
        replace H : St NoBlk (fun _ => True) w _ ((s3.L ++ [ownV 4 gbn3 (bitV bn3), blk g10 (.cells #[.slice (some ⟨gbn3, 0, none⟩) 34 cn3, .int .u32 (rn3 : Int), .int .u64 (vn3 : Int)] 84 (0, 0))]) ++ [errA, rdA (some ⟨ga, offa, none⟩) (opsV l), ownV 4 gbw3 (bitV bw3), blk g9 (.cells #[.slice (some ⟨gbw3, 0, none⟩) 34 cw3, .int .u32 (ra3 : Int), .int .u64 (va3 : Int)] 84 (0, 0))]) := St.swap (A := s3.L) (E := [errA, rdA (some ⟨ga, offa, none⟩) (opsV l), ownV 4 gbw3 (bitV bw3), blk g9 (.cells #[.slice (some ⟨gbw3, 0, none⟩) 34 cw3, .int .u32 (ra3 : Int), .int .u64 (va3 : Int)] 84 (0, 0))]) (R := [ownV 4 gbn3 (bitV bn3), blk g10 (.cells #[.slice (some ⟨gbn3, 0, none⟩) 34 cn3, .int .u32 (rn3 : Int), .int .u64 (vn3 : Int)] 84 (0, 0))]) H
        go_wp2_with (first
          | (refine wpList_loadrow_st rfl 84 _ rfl _ rfl _ _ _ (H.at 8 rfl) _ Tryz.underlying84 rfl size_bits ?_)
          | (go_at_call 53; go_loud ((refine (is_n (s := s3) (bs := bn3) (H.take 8).bundle HO3.out HN3.out HI3.out.now at_).mono ?_); rintro e W ⟨rfl, hto⟩; replace H := hto.front (R := [blk g10 (.cells #[.slice (some ⟨gbn3, 0, none⟩) 34 cn3, .int .u32 (rn3 : Int), .int .u64 (vn3 : Int)] 84 (0, 0))] ++ [errA, rdA (some ⟨ga, offa, none⟩) (opsV l), ownV 4 gbw3 (bitV bw3), blk g9 (.cells #[.slice (some ⟨gbw3, 0, none⟩) 34 cw3, .int .u32 (ra3 : Int), .int .u64 (va3 : Int)] 84 (0, 0))]) H; clear hto)))
        replace H : St NoBlk (fun _ => True) w _ ((s3.L ++ [errA, rdA (some ⟨ga, offa, none⟩) (opsV l), ownV 4 gbw3 (bitV bw3), blk g9 (.cells #[.slice (some ⟨gbw3, 0, none⟩) 34 cw3, .int .u32 (ra3 : Int), .int .u64 (va3 : Int)] 84 (0, 0))]) ++ [ownV 4 gbn3 (bitV bn3), blk g10 (.cells #[.slice (some ⟨gbn3, 0, none⟩) 34 cn3, .int .u32 (rn3 : Int), .int .u64 (vn3 : Int)] 84 (0, 0))]) := St.swap (A := s3.L) (E := [ownV 4 gbn3 (bitV bn3), blk g10 (.cells #[.slice (some ⟨gbn3, 0, none⟩) 34 cn3, .int .u32 (rn3 : Int), .int .u64 (vn3 : Int)] 84 (0, 0))]) (R := [errA, rdA (some ⟨ga, offa, none⟩) (opsV l), ownV 4 gbw3 (bitV bw3), blk g9 (.cells #[.slice (some ⟨gbw3, 0, none⟩) 34 cw3, .int .u32 (ra3 : Int), .int .u64 (va3 : Int)] 84 (0, 0))]) H
        go_roundw
        case rel => exact ⟨i + 1, s3.g, congrArg _ (by omega), rfl, HLT.out, s3, c3, bw3, bn3, ra3, va3, rn3, vn3, gbw3, cw3, gbn3, cn3, rfl, HC3.out, HI3.out, H⟩
        case measure => have := HLT.out; simp [intOf]; omega

      · go_upto_region 38 with (first
          | (refine wpList_load1_st rfl 3 _ rfl _ _ rfl _ _ _ (H.at 13 rfl) _ Tryz.underlying3 rfl _ rfl ?_)
          | (go_at_call 31; go_loud ((refine (commit_St (s := s) (R := [rdA (some ⟨ga, offa, none⟩) (opsV l), ownV 4 gbw (bitV bw), blk g9 (.cells #[.slice (some ⟨gbw, 0, none⟩) 34 cw, .int .u32 (ra : Int), .int .u64 (va : Int)] 84 (0, 0)), ownV 4 gbn (bitV bn), blk g10 (.cells #[.slice (some ⟨gbn, 0, none⟩) 34 cn, .int .u32 (rn : Int), .int .u64 (vn : Int)] 84 (0, 0)), blk go (.cells #[.int .i64 Kd, .int .i64 A, .int .u64 (V : Int)] 88 (0, 0))]) H HO.out (by have := HC.out; have := HLL.out; have := HLT.out; omega) HI.out.keys HI.out.ring).mono ?_); clear H; rintro e W ⟨rfl, t2, ht2, hn2, hr2, hh2, H⟩; rw [HI.out.gl] at H; have HT2 := Lib.hid ht2; have HN2 := Lib.hid (hn2.trans HN.out); have HR2 := Lib.hid hr2; have HB2 := Lib.hid (HI.out.now.congr (f' := t2.hom) (fun k hk => hh2 k (by rw [HN.out]; omega))); have HL2 := Lib.hid (show ∀ k, k < 34 → (t2.hom k).length = 248 from fun k hk => by rw [hh2 k (by rw [HN.out]; exact hk)]; exact HO.out.lens k (by rw [HN.out]; exact hk)); clear ht2 hn2 hr2 hh2))
          | (refine wpList_loadrow_st rfl 84 _ rfl _ rfl _ _ _ (H.at 9 rfl) _ Tryz.underlying84 rfl size_bits ?_)
          | (go_at_call 50; go_loud ((refine (bcopy_n (n := 34) (H.at 8 rfl : (ownV 4 gbn (bitV bn)).prop _) HLEN.out (by omega) _ _).mono ?_); rintro e W ⟨gb2, cb2, rfl, hgb, hpb, hb⟩; replace H := H.add (Fix.of_below hb _) (ownV 4 gb2 (bitV bn)) hpb (fun k hk => by rw [show k = gb2 from hk]; exact hgb) (fun k hk => hk.elim); clear hgb hpb hb; replace H : St NoBlk (fun _ => True) w _ (t2.L gl ++ ([errA, rdA (some ⟨ga, offa, none⟩) (opsV l), ownV 4 gbw (bitV bw), blk g9 (.cells #[.slice (some ⟨gbw, 0, none⟩) 34 cw, .int .u32 (ra : Int), .int .u64 (va : Int)] 84 (0, 0)), ownV 4 gbn (bitV bn), blk g10 (.cells #[.slice (some ⟨gbn, 0, none⟩) 34 cn, .int .u32 (rn : Int), .int .u64 (vn : Int)] 84 (0, 0)), blk go (.cells #[.int .i64 Kd, .int .i64 A, .int .u64 (V : Int)] 88 (0, 0))] ++ [ownV 4 gb2 (bitV bn)])) := H))
          | (go_at_call 18; go_loud ((refine (begin_TX (gl := gl) H HT2.out HN2.out HL2.out).mono ?_); clear H; rintro e W ⟨s2, rfl, hst, hsg, hso, hsn, hsf, hsv, H⟩; have HI2 := Lib.hid (Inv.begun hso hsn hsg HR2.out hsf hst hsv HB2.out HL2.out); clear hst hsg hso hsn hsf hsv))
          | (refine wpList_storerow_st H 10 rfl 84 _ _ rfl _ _ rfl rfl _ _ rfl size_bits (by rfl) (by simp [Value.oneCell']) ?_; clear H; intro W H))
        replace H : St NoBlk (fun _ => True) w W ((s2.L ++ [errA, rdA (some ⟨ga, offa, none⟩) (opsV l), ownV 4 gbw (bitV bw), blk g9 (.cells #[.slice (some ⟨gb2, 0, none⟩) 34 cb2, .int .u32 (rn : Int), .int .u64 (vn : Int)] 84 (0, 0)), ownV 4 gbn (bitV bn), blk g10 (.cells #[.slice (some ⟨gbn, 0, none⟩) 34 cn, .int .u32 (rn : Int), .int .u64 (vn : Int)] 84 (0, 0)), blk go (.cells #[.int .i64 Kd, .int .i64 A, .int .u64 (V : Int)] 88 (0, 0))]) ++ [ownV 4 gb2 (bitV bn)]) := H
        replace H : St NoBlk (fun _ => True) w W (s2.L ++ [errA, rdA (some ⟨ga, offa, none⟩) (opsV l), ownV 4 gb2 (bitV bn), blk g9 (.cells #[.slice (some ⟨gb2, 0, none⟩) 34 cb2, .int .u32 (rn : Int), .int .u64 (vn : Int)] 84 (0, 0)), ownV 4 gbn (bitV bn), blk g10 (.cells #[.slice (some ⟨gbn, 0, none⟩) 34 cn, .int .u32 (rn : Int), .int .u64 (vn : Int)] 84 (0, 0)), blk go (.cells #[.int .i64 Kd, .int .i64 A, .int .u64 (V : Int)] 88 (0, 0))]) := H.moveTo 9 (by show 9 < 14; omega)
        have HP : SpP w (some ⟨ga, offa, none⟩) l g9 g10 gl (i + 2) s2.g W := ⟨s2, c + 1, _, _, _, _, _, _, _, _, _, _, rfl, by have := HC.out; omega, HI2.out, H.take 13⟩
        clear H
        obtain ⟨s3, c3, bw3, bn3, ra3, va3, rn3, vn3, gbw3, cw3, gbn3, cn3, hG3, hc3, hi3, H⟩ := HP
        rw [hG3]
        have HC3 := Lib.hid hc3
        have HI3 := Lib.hid hi3
        have HO3 := Lib.hid hi3.ok
        have HN3 := Lib.hid hi3.n
        clear hG3 hc3 hi3
        replace H : St NoBlk (fun _ => True) w _ ((s3.L ++ [ownV 4 gbn3 (bitV bn3), blk g10 (.cells #[.slice (some ⟨gbn3, 0, none⟩) 34 cn3, .int .u32 (rn3 : Int), .int .u64 (vn3 : Int)] 84 (0, 0))]) ++ [errA, rdA (some ⟨ga, offa, none⟩) (opsV l), ownV 4 gbw3 (bitV bw3), blk g9 (.cells #[.slice (some ⟨gbw3, 0, none⟩) 34 cw3, .int .u32 (ra3 : Int), .int .u64 (va3 : Int)] 84 (0, 0))]) := St.swap (A := s3.L) (E := [errA, rdA (some ⟨ga, offa, none⟩) (opsV l), ownV 4 gbw3 (bitV bw3), blk g9 (.cells #[.slice (some ⟨gbw3, 0, none⟩) 34 cw3, .int .u32 (ra3 : Int), .int .u64 (va3 : Int)] 84 (0, 0))]) (R := [ownV 4 gbn3 (bitV bn3), blk g10 (.cells #[.slice (some ⟨gbn3, 0, none⟩) 34 cn3, .int .u32 (rn3 : Int), .int .u64 (vn3 : Int)] 84 (0, 0))]) H
        go_wp2_with (first
          | (refine wpList_loadrow_st rfl 84 _ rfl _ rfl _ _ _ (H.at 8 rfl) _ Tryz.underlying84 rfl size_bits ?_)
          | (go_at_call 53; go_loud ((refine (is_n (s := s3) (bs := bn3) (H.take 8).bundle HO3.out HN3.out HI3.out.now at_).mono ?_); rintro e W ⟨rfl, hto⟩; replace H := hto.front (R := [blk g10 (.cells #[.slice (some ⟨gbn3, 0, none⟩) 34 cn3, .int .u32 (rn3 : Int), .int .u64 (vn3 : Int)] 84 (0, 0))] ++ [errA, rdA (some ⟨ga, offa, none⟩) (opsV l), ownV 4 gbw3 (bitV bw3), blk g9 (.cells #[.slice (some ⟨gbw3, 0, none⟩) 34 cw3, .int .u32 (ra3 : Int), .int .u64 (va3 : Int)] 84 (0, 0))]) H; clear hto)))
        replace H : St NoBlk (fun _ => True) w _ ((s3.L ++ [errA, rdA (some ⟨ga, offa, none⟩) (opsV l), ownV 4 gbw3 (bitV bw3), blk g9 (.cells #[.slice (some ⟨gbw3, 0, none⟩) 34 cw3, .int .u32 (ra3 : Int), .int .u64 (va3 : Int)] 84 (0, 0))]) ++ [ownV 4 gbn3 (bitV bn3), blk g10 (.cells #[.slice (some ⟨gbn3, 0, none⟩) 34 cn3, .int .u32 (rn3 : Int), .int .u64 (vn3 : Int)] 84 (0, 0))]) := St.swap (A := s3.L) (E := [ownV 4 gbn3 (bitV bn3), blk g10 (.cells #[.slice (some ⟨gbn3, 0, none⟩) 34 cn3, .int .u32 (rn3 : Int), .int .u64 (vn3 : Int)] 84 (0, 0))]) (R := [errA, rdA (some ⟨ga, offa, none⟩) (opsV l), ownV 4 gbw3 (bitV bw3), blk g9 (.cells #[.slice (some ⟨gbw3, 0, none⟩) 34 cw3, .int .u32 (ra3 : Int), .int .u64 (va3 : Int)] 84 (0, 0))]) H
        go_roundw
        case rel => exact ⟨i + 1, s3.g, congrArg _ (by omega), rfl, HLT.out, s3, c3, bw3, bn3, ra3, va3, rn3, vn3, gbw3, cw3, gbn3, cn3, rfl, HC3.out, HI3.out, H⟩
        case measure => have := HLT.out; simp [intOf]; omega

      · go_upto_region 38 with (first
          | (refine wpList_load1_st rfl 3 _ rfl _ _ rfl _ _ _ (H.at 13 rfl) _ Tryz.underlying3 rfl _ rfl ?_)
          | (go_at_call 33; go_loud ((refine (abort_St (s := s) (R := [errA, rdA (some ⟨ga, offa, none⟩) (opsV l), ownV 4 gbw (bitV bw), blk g9 (.cells #[.slice (some ⟨gbw, 0, none⟩) 34 cw, .int .u32 (ra : Int), .int .u64 (va : Int)] 84 (0, 0)), ownV 4 gbn (bitV bn), blk g10 (.cells #[.slice (some ⟨gbn, 0, none⟩) 34 cn, .int .u32 (rn : Int), .int .u64 (vn : Int)] 84 (0, 0)), blk go (.cells #[.int .i64 Kd, .int .i64 A, .int .u64 (V : Int)] 88 (0, 0))]) H).mono ?_); clear H; rintro e W ⟨rfl, H⟩; replace H : St NoBlk (fun _ => True) w _ (s.t.L s.x.gl ++ [errA, rdA (some ⟨ga, offa, none⟩) (opsV l), ownV 4 gbw (bitV bw), blk g9 (.cells #[.slice (some ⟨gbw, 0, none⟩) 34 cw, .int .u32 (ra : Int), .int .u64 (va : Int)] 84 (0, 0)), ownV 4 gbn (bitV bn), blk g10 (.cells #[.slice (some ⟨gbn, 0, none⟩) 34 cn, .int .u32 (rn : Int), .int .u64 (vn : Int)] 84 (0, 0)), blk go (.cells #[.int .i64 Kd, .int .i64 A, .int .u64 (V : Int)] 88 (0, 0))]) := H.logOnly; rw [HI.out.gl] at H))
          | (refine wpList_loadrow_st rfl 84 _ rfl _ rfl _ _ _ (H.at 7 rfl) _ Tryz.underlying84 rfl size_bits ?_)
          | (go_at_call 50; go_loud ((refine (bcopy_n (n := 34) (H.at 6 rfl : (ownV 4 gbw (bitV bw)).prop _) HLENW.out (by omega) _ _).mono ?_); rintro e W ⟨gb2, cb2, rfl, hgb, hpb, hb⟩; replace H := H.add (Fix.of_below hb _) (ownV 4 gb2 (bitV bw)) hpb (fun k hk => by rw [show k = gb2 from hk]; exact hgb) (fun k hk => hk.elim); clear hgb hpb hb; replace H : St NoBlk (fun _ => True) w _ (s.t.L gl ++ ([errA, rdA (some ⟨ga, offa, none⟩) (opsV l), ownV 4 gbw (bitV bw), blk g9 (.cells #[.slice (some ⟨gbw, 0, none⟩) 34 cw, .int .u32 (ra : Int), .int .u64 (va : Int)] 84 (0, 0)), ownV 4 gbn (bitV bn), blk g10 (.cells #[.slice (some ⟨gbn, 0, none⟩) 34 cn, .int .u32 (rn : Int), .int .u64 (vn : Int)] 84 (0, 0)), blk go (.cells #[.int .i64 Kd, .int .i64 A, .int .u64 (V : Int)] 88 (0, 0))] ++ [ownV 4 gb2 (bitV bw)])) := H))
          | (go_at_call 18; go_loud ((refine (begin_TX (gl := gl) H HO.out.ok HN.out HI.out.lens).mono ?_); clear H; rintro e W ⟨s2, rfl, hst, hsg, hso, hsn, hsf, hsv, H⟩; have HI2 := Lib.hid (Inv.begun hso hsn hsg HI.out.ring hsf hst hsv HI.out.was HI.out.lens); clear hst hsg hso hsn hsf hsv))
          | (refine wpList_storerow_st H 12 rfl 84 _ _ rfl _ _ rfl rfl _ _ rfl size_bits (by rfl) (by simp [Value.oneCell']) ?_; clear H; intro W H))
        replace H : St NoBlk (fun _ => True) w W ((s2.L ++ [errA, rdA (some ⟨ga, offa, none⟩) (opsV l), ownV 4 gbw (bitV bw), blk g9 (.cells #[.slice (some ⟨gbw, 0, none⟩) 34 cw, .int .u32 (ra : Int), .int .u64 (va : Int)] 84 (0, 0)), ownV 4 gbn (bitV bn), blk g10 (.cells #[.slice (some ⟨gb2, 0, none⟩) 34 cb2, .int .u32 (ra : Int), .int .u64 (va : Int)] 84 (0, 0)), blk go (.cells #[.int .i64 Kd, .int .i64 A, .int .u64 (V : Int)] 88 (0, 0))]) ++ [ownV 4 gb2 (bitV bw)]) := H
        replace H : St NoBlk (fun _ => True) w W (s2.L ++ [errA, rdA (some ⟨ga, offa, none⟩) (opsV l), ownV 4 gbw (bitV bw), blk g9 (.cells #[.slice (some ⟨gbw, 0, none⟩) 34 cw, .int .u32 (ra : Int), .int .u64 (va : Int)] 84 (0, 0)), ownV 4 gb2 (bitV bw), blk g10 (.cells #[.slice (some ⟨gb2, 0, none⟩) 34 cb2, .int .u32 (ra : Int), .int .u64 (va : Int)] 84 (0, 0)), blk go (.cells #[.int .i64 Kd, .int .i64 A, .int .u64 (V : Int)] 88 (0, 0))]) := H.moveTo 11 (by show 11 < 14; omega)
        have HP : SpP w (some ⟨ga, offa, none⟩) l g9 g10 gl (i + 2) s2.g W := ⟨s2, c, _, _, _, _, _, _, _, _, _, _, rfl, by have := HC.out; omega, HI2.out, H.take 13⟩
        clear H
        obtain ⟨s3, c3, bw3, bn3, ra3, va3, rn3, vn3, gbw3, cw3, gbn3, cn3, hG3, hc3, hi3, H⟩ := HP
        rw [hG3]
        have HC3 := Lib.hid hc3
        have HI3 := Lib.hid hi3
        have HO3 := Lib.hid hi3.ok
        have HN3 := Lib.hid hi3.n
        clear hG3 hc3 hi3
        replace H : St NoBlk (fun _ => True) w _ ((s3.L ++ [ownV 4 gbn3 (bitV bn3), blk g10 (.cells #[.slice (some ⟨gbn3, 0, none⟩) 34 cn3, .int .u32 (rn3 : Int), .int .u64 (vn3 : Int)] 84 (0, 0))]) ++ [errA, rdA (some ⟨ga, offa, none⟩) (opsV l), ownV 4 gbw3 (bitV bw3), blk g9 (.cells #[.slice (some ⟨gbw3, 0, none⟩) 34 cw3, .int .u32 (ra3 : Int), .int .u64 (va3 : Int)] 84 (0, 0))]) := St.swap (A := s3.L) (E := [errA, rdA (some ⟨ga, offa, none⟩) (opsV l), ownV 4 gbw3 (bitV bw3), blk g9 (.cells #[.slice (some ⟨gbw3, 0, none⟩) 34 cw3, .int .u32 (ra3 : Int), .int .u64 (va3 : Int)] 84 (0, 0))]) (R := [ownV 4 gbn3 (bitV bn3), blk g10 (.cells #[.slice (some ⟨gbn3, 0, none⟩) 34 cn3, .int .u32 (rn3 : Int), .int .u64 (vn3 : Int)] 84 (0, 0))]) H
        go_wp2_with (first
          | (refine wpList_loadrow_st rfl 84 _ rfl _ rfl _ _ _ (H.at 8 rfl) _ Tryz.underlying84 rfl size_bits ?_)
          | (go_at_call 53; go_loud ((refine (is_n (s := s3) (bs := bn3) (H.take 8).bundle HO3.out HN3.out HI3.out.now at_).mono ?_); rintro e W ⟨rfl, hto⟩; replace H := hto.front (R := [blk g10 (.cells #[.slice (some ⟨gbn3, 0, none⟩) 34 cn3, .int .u32 (rn3 : Int), .int .u64 (vn3 : Int)] 84 (0, 0))] ++ [errA, rdA (some ⟨ga, offa, none⟩) (opsV l), ownV 4 gbw3 (bitV bw3), blk g9 (.cells #[.slice (some ⟨gbw3, 0, none⟩) 34 cw3, .int .u32 (ra3 : Int), .int .u64 (va3 : Int)] 84 (0, 0))]) H; clear hto)))
        replace H : St NoBlk (fun _ => True) w _ ((s3.L ++ [errA, rdA (some ⟨ga, offa, none⟩) (opsV l), ownV 4 gbw3 (bitV bw3), blk g9 (.cells #[.slice (some ⟨gbw3, 0, none⟩) 34 cw3, .int .u32 (ra3 : Int), .int .u64 (va3 : Int)] 84 (0, 0))]) ++ [ownV 4 gbn3 (bitV bn3), blk g10 (.cells #[.slice (some ⟨gbn3, 0, none⟩) 34 cn3, .int .u32 (rn3 : Int), .int .u64 (vn3 : Int)] 84 (0, 0))]) := St.swap (A := s3.L) (E := [ownV 4 gbn3 (bitV bn3), blk g10 (.cells #[.slice (some ⟨gbn3, 0, none⟩) 34 cn3, .int .u32 (rn3 : Int), .int .u64 (vn3 : Int)] 84 (0, 0))]) (R := [errA, rdA (some ⟨ga, offa, none⟩) (opsV l), ownV 4 gbw3 (bitV bw3), blk g9 (.cells #[.slice (some ⟨gbw3, 0, none⟩) 34 cw3, .int .u32 (ra3 : Int), .int .u64 (va3 : Int)] 84 (0, 0))]) H
        go_roundw
        case rel => exact ⟨i + 1, s3.g, congrArg _ (by omega), rfl, HLT.out, s3, c3, bw3, bn3, ra3, va3, rn3, vn3, gbw3, cw3, gbn3, cn3, rfl, HC3.out, HI3.out, H⟩
        case measure => have := HLT.out; simp [intOf]; omega

    · obtain rfl : i = l.length := by omega
      have hii : ¬ ((l.length : Int) < (l.length : Int)) := by omega
      have HN := Lib.hid HI.out.n
      have HO := Lib.hid HI.out.ok
      go_wp2_with (first
        | (go_at_call 33; go_loud ((refine (abort_St (s := s) (R := [errA, rdA p0 (opsV l), ownV 4 gbw (bitV bw), blk g9 (.cells #[.slice (some ⟨gbw, 0, none⟩) 34 cw, .int .u32 (ra : Int), .int .u64 (va : Int)] 84 (0, 0)), ownV 4 gbn (bitV bn), blk g10 (.cells #[.slice (some ⟨gbn, 0, none⟩) 34 cn, .int .u32 (rn : Int), .int .u64 (vn : Int)] 84 (0, 0))]) H).mono ?_); clear H; rintro e W ⟨rfl, H⟩; obtain ⟨s4, hs4⟩ : ∃ s4 : TX, (⟨s.t, s.x.done, s.g⟩ : TX) = s4 := ⟨_, rfl⟩; have HT4 := Lib.hid (show s4.t.Ok c by rw [← hs4]; exact HO.out.ok); have HX4 := Lib.hid (show s4.x.over = true by rw [← hs4]; rfl); have hg4 : s.g = s4.g := by { rw [← hs4] }; rw [hs4] at H; rw [hg4]; clear hs4 hg4))
        | (go_at_call 20; go_loud ((refine (Take_over (s := s4) (H.take 8).bundle HT4.out HX4.out).mono ?_); rintro e W ⟨rfl, hto⟩; replace H := hto.front (R := [rdA p0 (opsV l), ownV 4 gbw (bitV bw), blk g9 (.cells #[.slice (some ⟨gbw, 0, none⟩) 34 cw, .int .u32 (ra : Int), .int .u64 (va : Int)] 84 (0, 0)), ownV 4 gbn (bitV bn), blk g10 (.cells #[.slice (some ⟨gbn, 0, none⟩) 34 cn, .int .u32 (rn : Int), .int .u64 (vn : Int)] 84 (0, 0))]) H; clear hto))
        | (go_at_call 19; go_loud ((refine (Format_over (s := s4) (H.take 8).bundle HT4.out HX4.out).mono ?_); rintro e W ⟨rfl, hto⟩; replace H := hto.front (R := [rdA p0 (opsV l), ownV 4 gbw (bitV bw), blk g9 (.cells #[.slice (some ⟨gbw, 0, none⟩) 34 cw, .int .u32 (ra : Int), .int .u64 (va : Int)] 84 (0, 0)), ownV 4 gbn (bitV bn), blk g10 (.cells #[.slice (some ⟨gbn, 0, none⟩) 34 cn, .int .u32 (rn : Int), .int .u64 (vn : Int)] 84 (0, 0))]) H; clear hto))
        | (go_at_call 25; go_loud ((refine (Free_over (s := s4) (H.take 8).bundle HT4.out HX4.out _).mono ?_); rintro e W ⟨rfl, hto⟩; replace H := hto.front (R := [rdA p0 (opsV l), ownV 4 gbw (bitV bw), blk g9 (.cells #[.slice (some ⟨gbw, 0, none⟩) 34 cw, .int .u32 (ra : Int), .int .u64 (va : Int)] 84 (0, 0)), ownV 4 gbn (bitV bn), blk g10 (.cells #[.slice (some ⟨gbn, 0, none⟩) 34 cn, .int .u32 (rn : Int), .int .u64 (vn : Int)] 84 (0, 0))]) H; clear hto))
        | (go_at_call 21; go_loud ((refine (SetRoot_over (s := s4) (H.take 8).bundle HT4.out HX4.out _ _ 1 1 rfl rfl (by omega) (by omega)).mono ?_); rintro e W ⟨rfl, hto⟩; replace H := hto.front (R := [rdA p0 (opsV l), ownV 4 gbw (bitV bw), blk g9 (.cells #[.slice (some ⟨gbw, 0, none⟩) 34 cw, .int .u32 (ra : Int), .int .u64 (va : Int)] 84 (0, 0)), ownV 4 gbn (bitV bn), blk g10 (.cells #[.slice (some ⟨gbn, 0, none⟩) 34 cn, .int .u32 (rn : Int), .int .u64 (vn : Int)] 84 (0, 0))]) H; clear hto)))
      go_ret
      exact ⟨rfl, H.fix.below⟩

end Go.Proofs.YtphpegnfcelagaaGreatDoor

namespace Go.Proofs.YtphpegnfcelagaaGreatDoor
open Go.ChangeShapes Go.WideShapes Go.ChangeAt Go.RowKit
set_option linter.unusedSimpArgs false
set_option linter.unusedVariables false
set_option maxRecDepth 40000

theorem flat_get (f : Nat → List Value) (s : Nat) : ∀ n, (∀ i, i < n → (f i).length = s) → ((List.range n).flatMap f).length = n * s ∧ ∀ k x, ((List.range n).flatMap f)[k]? = some x → ∃ i j, i < n ∧ k = i * s + j ∧ (f i)[j]? = some x
  | 0, _ => ⟨by simp, fun k x h => by simp at h⟩
  | n + 1, hf => by
    obtain ⟨h1, h2⟩ := flat_get f s n (fun i hi => hf i (by omega))
    have e : (List.range (n + 1)).flatMap f = (List.range n).flatMap f ++ f n := by rw [List.range_succ, List.flatMap_append]; simp
    refine ⟨by rw [e, List.length_append, h1, hf n (by omega), Nat.succ_mul], fun k x h => ?_⟩
    rw [e] at h
    rcases Nat.lt_or_ge k (n * s) with hk | hk
    · rw [List.getElem?_append_left (by rw [h1]; exact hk)] at h
      obtain ⟨i, j, a, b, c⟩ := h2 k x h
      exact ⟨i, j, by omega, b, c⟩
    · rw [List.getElem?_append_right (by rw [h1]; exact hk), h1] at h
      exact ⟨n, k - n * s, by omega, by omega, h⟩

theorem rdA_rows {W : World} {b o len s : Nat} (f : Nat → List Value) (hs : ∀ i, i < len → (f i).length = s) (hc : ∀ i, i < len → ∀ j v, (f i)[j]? = some v → W.cell? ⟨b, o + (i * s + j), none⟩ = some v) :
    (rdA (some ⟨b, o, none⟩) ((List.range len).flatMap f)).prop W := by
  obtain ⟨h1, h2⟩ := flat_get f s len hs
  rcases Nat.eq_zero_or_pos (len * s) with h0 | h0
  · left
    rw [h0] at h1
    exact List.eq_nil_of_length_eq_zero h1
  · right
    refine ⟨b, o, rfl, ?_, fun k x hk => ?_⟩
    · obtain ⟨x, hx⟩ : ∃ x, ((List.range len).flatMap f)[0]? = some x := ⟨_, List.getElem?_eq_getElem (by rw [h1]; exact h0)⟩
      obtain ⟨i, j, hi, _, hj⟩ := h2 0 x hx
      exact World.block_lt_of_cell? W _ (hc i hi j x hj)
    · obtain ⟨i, j, hi, rfl, hj⟩ := h2 k x hk
      exact hc i hi j x hj

/-- A slice of structs: of each element what its cells are. -/
theorem open_rowsA {H : Type} {enc : TypeId × Value → H} {W : World} {v : Value} {d : DataW H} {p : List MemPlace} {T e : TypeId} (s : Nat) {α : Type} [Inhabited α] (g : α → List Value) (ht : Tryz.prog.underlying T = some (.slice e)) (hc : Tryz.prog.cellsOf e = s) (hs0 : 0 < s)
    (hv : ∃ a1 len cap, v = .slice a1 len cap)
    (hel : ∀ n cs x, DataW.trod enc Tryz.prog W 0 (fun _ => true) true n e cs = some x → cs.length = s → ∃ y : α, cs = g y) (h : DataW.Trod enc Tryz.prog W 0 (fun _ => true) true T v d p) :
    ∃ q l cap, v = .slice q (List.length l) cap ∧ (rdA q (l.flatMap g)).prop W := by
  obtain ⟨a1, len, cap, rfl⟩ := hv
  obtain ⟨fuel, hf⟩ := h
  rcases Go.Deep.open_slice ht hf with ⟨hcs, hx⟩ | ⟨a, len', cap', m, n, D, Pl, hcs, _, hl, hm, hmm, hx, hE⟩
  · simp [Value.cells] at hcs
    obtain ⟨rfl, rfl, rfl⟩ := hcs
    exact ⟨none, [], 0, rfl, .inl rfl⟩
  · simp [Value.cells] at hcs
    obtain ⟨rfl, rfl, rfl⟩ := hcs
    simp only [if_true] at hmm
    subst hmm
    have each : ∀ i, i < len → ∃ y : α, (g y).length = s ∧ ∀ j v, (g y)[j]? = some v → W.cell? ((a.add (i * s)).add j) = some v := by
      intro i hi
      obtain ⟨cs', h1, h2⟩ := hE i (by omega)
      obtain ⟨_, hlen, hcell⟩ := World.cells?_some h1
      rw [hc] at hlen hcell
      obtain ⟨y, rfl⟩ := hel _ _ _ h2 hlen
      exact ⟨y, hlen, fun j v hj => by rw [hcell j (by have := (List.getElem?_eq_some_iff.1 hj).1; omega)]; exact hj⟩
    obtain ⟨f, hf⟩ := Go.Deep.choose_lt each
    refine ⟨some a, (List.range len).map f, _, by rw [List.length_map, List.length_range], ?_⟩
    rw [List.flatMap_map]
    rcases Nat.eq_zero_or_pos len with h0 | h0
    · subst h0; left; rfl
    · obtain ⟨ab, ao, spot⟩ := a
      have h1 := hf 0 h0
      obtain ⟨x, hx⟩ : ∃ x, (g (f 0))[0]? = some x := ⟨_, List.getElem?_eq_getElem (by rw [h1.1]; exact hs0)⟩
      have hc0 := h1.2 0 x hx
      have hspot : spot = none := by simpa [Addr.add] using World.cell?_spot hc0
      subst hspot
      refine rdA_rows (s := s) (fun i => g (f i)) (fun i hi => (hf i hi).1) (fun i hi j v hj => ?_)
      have := (hf i hi).2 j v hj
      rw [Addr.add_lit, Addr.add_lit, Nat.add_assoc] at this
      exact this

end Go.Proofs.YtphpegnfcelagaaGreatDoor

namespace Go.Proofs.YtphpegnfcelagaaGreatDoor
open Go.ChangeShapes Go.WideShapes Go.ChangeAt Go.RowKit
set_option linter.unusedSimpArgs false
set_option linter.unusedVariables false
set_option maxRecDepth 40000

theorem open_takesA {H : Type} {enc : TypeId × Value → H} {W : World} {base : Nat} {v : Value} {d : DataW H} {p : List MemPlace} (hval : Value.okWide Tryz.prog W .any base 82 v) (h : DataW.Trod enc Tryz.prog W 0 (fun _ => true) true 82 v d p) :
    ∃ q l cap, v = .slice q (List.length l) cap ∧ (rdA q (opsV l)).prop W ∧ ∀ x ∈ l, x.2.2 < 18446744073709551616 := by
  have hc : Tryz.prog.cellsOf 88 = 3 := by kernel_rfl
  have c1 : Tryz.prog.cellsOf 3 = 1 := by kernel_rfl
  have c2 : Tryz.prog.cellsOf 33 = 1 := by kernel_rfl
  haveI : Inhabited { n : Nat // n < 18446744073709551616 } := ⟨⟨0, by omega⟩⟩
  obtain ⟨q, l, cap, hv, hr⟩ := open_rowsA (α := Int × Int × { n : Nat // n < 18446744073709551616 }) 3 (fun x => [.int .i64 x.1, .int .i64 x.2.1, .int .u64 (x.2.2.1 : Int)]) Tryz.underlying82 hc (by omega) (okWide_slice Tryz.underlying82 hval) (fun n cs x hx hl => by
    obtain ⟨y0, y1, y2, m, _, _, t0, t1, t2⟩ := Go.Deep.trod_struct3 Tryz.underlying88 hx
    simp only [c1, c2] at t0 t1 t2
    obtain ⟨n0, e0, _, _⟩ := DataW.trod_int Tryz.underlying3 t0
    obtain ⟨n1, e1, _, _⟩ := DataW.trod_int Tryz.underlying3 t1
    obtain ⟨n2, e2, _, w2⟩ := DataW.trod_int Tryz.underlying33 t2
    have hb := bounds_u64 w2
    match cs, hl with
    | [v0, v1, v2], _ =>
      simp at e0 e1 e2
      exact ⟨(n0, n1, ⟨n2.toNat, by omega⟩), by rw [e0, e1, e2]; simp; omega⟩) h
  refine ⟨q, l.map fun x => (x.1, x.2.1, x.2.2.1), cap, by rw [List.length_map]; exact hv, ?_, fun x hx => ?_⟩
  · unfold opsV
    rw [List.flatMap_map]
    exact hr
  · obtain ⟨y, _, rfl⟩ := List.mem_map.1 hx
    exact y.2.2.2

theorem spaceAll_calls (p0 : Option Addr) (c0 : Nat) (l : List (Int × Int × Nat)) (at_ : Int) (w : World) (hr : ∀ x ∈ l, x.2.2 < 18446744073709551616) (hg : errA.prop w) (ha : (rdA p0 (opsV l)).prop w) :
    Calls Tryz.prog 15 #[.slice p0 l.length c0, .int .i64 at_] w fun e w' => e = .returned (.bool true) ∧ Below w.heap.size w w' := by
  by_cases h1 : l.length ≤ 60
  · exact spaceAll_short p0 c0 l at_ w h1 hr hg ha
  · have H := St.err hg
    have hc : 60 < (l.length : Int) := by omega
    clear h1 hr ha hg
    go_enter Tryz.func15, Tryz.ntmps15
    go_wp2_with (first
      | (go_at_call 16; go_loud ((refine (begun20_calls _ (H.at 0 rfl)).mono ?_); rintro e W ⟨rfl, hb⟩; replace H := H.stay (Fix.of_below hb _); clear hb)))
    go_ret
    exact ⟨rfl, H.fix.below⟩

end Go.Proofs.YtphpegnfcelagaaGreatDoor
