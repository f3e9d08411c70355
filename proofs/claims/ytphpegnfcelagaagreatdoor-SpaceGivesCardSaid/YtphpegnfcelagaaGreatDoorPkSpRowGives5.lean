/- SpaceGives. -/
import Derived.Test.YtphpegnfcelagaaGreatDoorPkBase4

namespace Go.Proofs.YtphpegnfcelagaaGreatDoor
open Go.RowKit
set_option linter.unusedSimpArgs false
set_option linter.unusedVariables false
set_option maxRecDepth 40000

set_option maxHeartbeats 8000000 in
theorem spaceGives_short (sec : UInt8) (p1 : Option Addr) (c1 : Nat) (frees : List UInt8) (w : World) (hl : frees.length ≤ 40) (hg : errA.prop w) (ha : (rdA p1 (byteV frees)).prop w) :
    Calls Tryz.prog 4 #[.int .u8 (sec.toNat : Int), .slice p1 frees.length c1] w fun e w' => e = .returned (.bool true) ∧ Below w.heap.size w w' := by
  have H := St.reads_only (w := w) [errA, rdA p1 (byteV frees)] (by
    intro B hB
    simp only [List.mem_cons, List.not_mem_nil, or_false] at hB
    rcases hB with rfl | rfl
    · exact ⟨hg, fun _ h => h⟩
    · exact ⟨ha, fun _ h => h⟩)
  clear hg ha
  have hli : (frees.length : Int) ≤ 40 := by omega
  obtain ⟨m, hm, hm2⟩ : ∃ m : Nat, ((sec.toNat : Int)).tmod 60 = (m : Int) ∧ m < 60 := ⟨sec.toNat % 60, by rw [Int.tmod_eq_emod_of_nonneg (by omega)]; omega, by omega⟩
  have hmi : (m : Int) < 60 := by omega
  have hmi0 : 0 ≤ (m : Int) := by omega
  have hsb : (sec.toNat : Int) < 256 := by have := sec.toNat_lt; omega
  have hsb0 : 0 ≤ (sec.toNat : Int) := by omega
  obtain ⟨n, hn⟩ : ∃ n, 10 + m = n := ⟨_, rfl⟩
  have HN := Lib.hid (show 10 ≤ n ∧ n ≤ 69 by omega)
  have HNM := Lib.hid (show ((n + 26 : Nat) : Int) = 36 + (m : Int) by omega)
  have hni : (n : Int) ≤ 69 := by omega
  have hni0 : 10 ≤ (n : Int) := by omega
  clear hn hm2
  go_enter Tryz.func4, Tryz.ntmps4
  go_wp2_with (first
    | (go_at_call 16; go_loud ((refine (begun20_calls _ (H.at 0 rfl)).mono ?_); rintro e W ⟨rfl, hb⟩; replace H := H.stay (Fix.of_below hb _); clear hb))
    | (go_at_call 17; go_loud ((refine (new19_calls _ (n + 26) n HNM.out rfl (by have := HN.out; omega) (by have := HN.out; omega) _).mono ?_); rintro e W ⟨gd, gl, t, rfl, hnew, hto⟩; replace H := (hto.fresh H).rotate; clear hto))
    | (go_at_call 18; go_loud ((refine (begin_calls _).mono ?_); rintro e W ⟨g, gm, rfl, h1, h2, h3, hb, hg, hm⟩; replace H := St.swap (A := t.L gl) (E := [errA, rdA p1 (byteV frees)]) (R := (TxT.new gl gm n).L g) (H.begun n hb h1 h2 h3 hg hm); clear h1 h2 h3 hb hg hm; obtain ⟨s, hs⟩ : ∃ s : TX, (⟨t, TxT.new gl gm n, g⟩ : TX) = s := ⟨_, rfl⟩; have hso := (TX.new_ok hnew gl gm g).1; have hgs : s.g = g := by { rw [← hs] }; have hns : s.n = n := by { rw [← hs]; exact hnew.n }; replace H : St _ _ w _ ((⟨t, TxT.new gl gm n, g⟩ : TX).L ++ [errA, rdA p1 (byteV frees)]) := H; rw [hs] at H hso; clear hs; subst hgs))
    | (go_at_call 19; go_loud ((refine (Format_ok (s := s) (H.take 7).bundle hso).mono ?_); rintro e W ⟨rfl, s1, hs1, hto⟩; replace H := hto.front (R := [errA, rdA p1 (byteV frees)]) H; clear hto; have hv1 := v1_format hs1 hso; have HN1 := Lib.hid (show s1.n = n from hs1.n.trans hns); have HO1 := Lib.hid hs1.ok; have HF1 := Lib.hid (show HasF s1 (fun k => decide (k < 2)) from fun k _ _ => by rw [hv1]; exact hasB_new k); rw [← hs1.g]; have HG1 := Lib.hid (show s1.g = s1.g from rfl); clear hv1 hs1 hso hns))
    | (go_at_call 24; go_loud ((refine (homes_TX (s := s1) (H.take 7).bundle HO1.out (z := (n : Int)) (by rw [HN1.out])).mono ?_); rintro e W ⟨rfl, hto⟩; replace H := hto.front (R := [errA, rdA p1 (byteV frees)]) H; clear hto)))
  obtain ⟨g, hg⟩ : ∃ g, s1.g = g := ⟨_, rfl⟩
  rw [hg]
  have HGG := Lib.hid hg
  clear hg HG1
  go_loopw [9] (fun u wr => ∃ (i : Nat) (s : TX), u = .int .i64 (i : Int) ∧ 2 ≤ i ∧ i ≤ n ∧ s.g = g ∧ s.n = n ∧ s.Ok 0 ∧ HasF s (fun k => decide (k < i)) ∧ St NoBlk (fun _ => True) w wr (s.L ++ [errA, rdA p1 (byteV frees)])) (fun u _ => n - (intOf u).toNat)
  case atStart => exact ⟨2, s1, rfl, Nat.le_refl _, by have := HN.out; omega, HGG.out, HN1.out, HO1.out, HF1.out, H⟩
  case round =>
    clear H HGG HN1 HO1 HF1
    obtain ⟨i, s, rfl, hi2, hi, hg, hn, ho, hf, H⟩ := hrel
    have HG := Lib.hid hg
    have HNN := Lib.hid hn
    have HO := Lib.hid ho
    have HF := Lib.hid hf
    clear hg hn ho hf
    have hi0 : 0 ≤ (i : Int) := by omega
    rcases Nat.lt_or_ge i n with hlt | hge
    · have hii : (i : Int) < (n : Int) := by omega
      have HI := Lib.hid hlt
      go_wp2_with (first
        | (go_at_call 20; rw [← HG.out]; go_loud ((refine (Take_ok (s := s) (H.take 7).bundle HO.out i hi2 (by rw [HNN.out]; exact HI.out) (by rw [HF.out i hi2 (by rw [HNN.out]; exact HI.out)]; exact decide_eq_false (by omega)) (fun j a b => by rw [HF.out j a (by rw [HNN.out]; have := HI.out; omega)]; exact decide_eq_true b)).mono ?_); rintro e W ⟨rfl, s2, hs2, hto⟩; replace H := hto.front (R := [errA, rdA p1 (byteV frees)]) H; clear hto)))
      simp only [HG.out]
      go_roundw
      case rel => exact ⟨i + 1, s2, congrArg _ (by omega), by omega, HI.out, hs2.g.trans HG.out, hs2.n.trans HNN.out, hs2.ok, fun k h2 hk => by
        rw [HF.out.turn HO.out i hs2 (by rw [HNN.out]; exact HI.out) k h2 hk]
        show (if k = i then !decide (k < i) else decide (k < i)) = decide (k < i + 1)
        by_cases e : k = i
        · subst e; simp
        · rw [if_neg e]; by_cases e2 : k < i
          · rw [decide_eq_true e2, decide_eq_true (by omega)]
          · rw [decide_eq_false e2, decide_eq_false (by omega)], H⟩
      case measure => have := HI.out; simp [intOf]; omega
    · obtain rfl : i = n := by omega
      have hii : ¬ ((i : Int) < (i : Int)) := by omega
      go_wp2_with (first
        | (go_at_call 20; rw [← HG.out]; go_loud ((refine (Take_full (s := s) (H.take 8).bundle HO.out (fun j a b => by rw [HF.out j a b]; exact decide_eq_true (by rw [HNN.out] at b; exact b))).mono ?_); rintro e W ⟨rfl, hto⟩; replace H := hto.front (R := [rdA p1 (byteV frees)]) H; clear hto))
        | (refine wpList_make2_st H rfl 46 _ _ rfl _ Tryz.underlying46 _ _ info_bool rfl i i rfl rfl (by omega) (by omega) (by simp only [maxLen]; omega) ?_; clear H; intro W gf H))
      replace H : St NoBlk (fun _ => True) w W (s.L ++ [errA, rdA p1 (byteV frees), blk gf (.cells ((List.replicate i false).map Value.bool).toArray 4 (0, 0))]) := by rw [List.map_replicate]; exact H
      have hn0 : ((i : Int) == 0) = false := beq_eq_false_iff_ne.2 (by omega)
      have hn1 : ¬ ((i : Int) = 0) := by omega
      simp only [HG.out]
      go_loopw [15, 16, 17] (fun u _ _ wr => ∃ (j : Nat) (s : TX) (fs : List Bool), u = .int .i64 (j : Int) ∧ j ≤ frees.length ∧ s.g = g ∧ s.n = i ∧ s.Ok 0 ∧ fs.length = i ∧ (HasF s (fun k => !fs.getD k false) ∧ ∀ k, k < 2 → fs.getD k false = false) ∧
        St NoBlk (fun _ => True) w wr (s.L ++ [errA, rdA p1 (byteV frees), blk gf (.cells (fs.map Value.bool).toArray 4 (0, 0))])) (fun u _ _ _ => frees.length - (intOf u).toNat)
      case atStart =>
        refine ⟨0, s, List.replicate i false, rfl, Nat.zero_le _, HG.out, HNN.out, HO.out, List.length_replicate, ⟨fun k h2 hk => ?_, fun k hk => ?_⟩, H⟩
        · rw [HF.out k h2 hk]
          show decide (k < i) = !(List.replicate i false).getD k false
          rw [decide_eq_true (by rw [HNN.out] at hk; exact hk), List.getD_eq_getElem?_getD, List.getElem?_replicate]
          split <;> rfl
        · rw [List.getD_eq_getElem?_getD, List.getElem?_replicate]
          split <;> rfl
      case round =>
        clear H HG HNN HO HF
        obtain ⟨j, s, fs, rfl, hj, hg, hn, ho, hfl, ⟨hf, hf2⟩, H⟩ := hrel
        have HG := Lib.hid hg
        have HNN := Lib.hid hn
        have HO := Lib.hid ho
        have HF := Lib.hid hf
        have HF2 := Lib.hid hf2
        have HFL := Lib.hid hfl
        clear hg hn ho hf hfl hf2
        have hj0 : 0 ≤ (j : Int) := by omega
        rcases Nat.lt_or_ge j frees.length with hlt | hge
        · have hjj : (j : Int) < (frees.length : Int) := by omega
          have HJ := Lib.hid hlt
          obtain ⟨ga, offa, rfl, hcell⟩ := rdA_at (H.at 8 rfl) (i := j) (x := .int .u8 (frees[j].toNat : Int)) (by rw [byteV_get, List.getElem?_eq_getElem hlt]; rfl)
          obtain ⟨bj, hbj⟩ : ∃ bj, frees[j] = bj := ⟨_, rfl⟩
          rw [hbj] at hcell
          clear hbj hlt
          have hbl : (bj.toNat : Int) < 256 := by have := bj.toNat_lt; omega
          have hbl0 : 0 ≤ (bj.toNat : Int) := by omega
          obtain ⟨k, hk1, hk2⟩ : ∃ k : Nat, ((bj.toNat : Int)).tmod (i : Int) = (k : Int) ∧ k < i := ⟨bj.toNat % i, by rw [Int.tmod_eq_emod_of_nonneg (by omega)]; rfl, Nat.mod_lt _ (by omega)⟩
          have hki : (k : Int) < (i : Int) := by omega
          have hk0 : 0 ≤ (k : Int) := by omega
          have HK := Lib.hid hk2
          have HKL := Lib.hid (show k < fs.length by rw [HFL.out]; exact hk2)
          clear hk2
          by_cases h2 : 2 ≤ k
          · have hk3 : (1 : Int) < (k : Int) := by omega
            cases hb : fs.getD k false with
            | true =>
              have HB := Lib.hid hb
              clear hb
              go_wp2_with (first
                | (go_at_call 25; go_loud (rw [← HG.out]; (refine (Free_noS (s := s) (H.take 7).bundle HO.out _ (.inr (.inr (by show hasB (s.v 1) k = false; rw [HF.out k h2 (by rw [HNN.out]; exact HK.out)]; show (!fs.getD k false) = _; rw [HB.out]; rfl)))).mono ?_); rintro e W ⟨rfl, hto⟩; replace H := hto.front (R := [errA, rdA _ (byteV frees), blk gf _]) H; clear hto))
                | (refine wpList_load1_st rfl 4 _ rfl _ _ rfl _ _ _ (H.at 9 rfl) _ Tryz.underlying4 rfl _ (bool_at fs k HKL.out HB.out) ?_)
                | (refine wpList_store1_st H 9 rfl 4 _ _ rfl _ _ (.bool true) rfl rfl rfl _ _ rfl rfl (by simp; exact HKL.out) ?_; clear H; intro W H; rw [bools_set] at H))
              simp only [HG.out]
              go_roundw
              case rel => exact ⟨j + 1, s, fs.set k true, congrArg _ (by omega), HJ.out, HG.out, HNN.out, HO.out, by rw [List.length_set]; exact HFL.out, ⟨fun q a b => by rw [HF.out q a b]; show (!fs.getD q false) = !(fs.set k true).getD q false; rw [getDb_set fs k q _ HKL.out]; by_cases e : q = k; subst e; rw [if_pos rfl, HB.out]; rw [if_neg e], fun q a => by rw [getDb_set fs k q _ HKL.out]; by_cases e : q = k; subst e; rw [if_pos rfl]; first | rfl | exact absurd a (by omega); rw [if_neg e]; exact HF2.out q a⟩, H⟩
              case measure => have := HJ.out; simp [intOf]; omega
            | false =>
              have HB := Lib.hid hb
              clear hb
              go_wp2_with (first
                | (go_at_call 25; go_loud (rw [← HG.out]; (refine (Free_okS (s := s) (H.take 7).bundle HO.out _ k rfl h2 (by rw [HNN.out]; exact HK.out) (by rw [HF.out k h2 (by rw [HNN.out]; exact HK.out)]; show (!fs.getD k false) = _; rw [HB.out]; rfl)).mono ?_); rintro e W ⟨rfl, s2, hs2, hto⟩; replace H := hto.front (R := [errA, rdA _ (byteV frees), blk gf _]) H; clear hto))
                | (refine wpList_load1_st rfl 4 _ rfl _ _ rfl _ _ _ (H.at 9 rfl) _ Tryz.underlying4 rfl _ (bool_at fs k HKL.out HB.out) ?_)
                | (refine wpList_store1_st H 9 rfl 4 _ _ rfl _ _ (.bool true) rfl rfl rfl _ _ rfl rfl (by simp; exact HKL.out) ?_; clear H; intro W H; rw [bools_set] at H))
              simp only [HG.out]
              go_roundw
              case rel => exact ⟨j + 1, s2, fs.set k true, congrArg _ (by omega), HJ.out, hs2.g.trans HG.out, hs2.n.trans HNN.out, hs2.ok, by rw [List.length_set]; exact HFL.out, ⟨fun q a b => by rw [HF.out.turn HO.out k hs2 (by rw [HNN.out]; exact HK.out) q a b]; show (if q = k then !!fs.getD q false else !fs.getD q false) = !(fs.set k true).getD q false; rw [getDb_set fs k q _ HKL.out]; by_cases e : q = k; subst e; rw [if_pos rfl, if_pos rfl, HB.out]; rfl; rw [if_neg e, if_neg e], fun q a => by rw [getDb_set fs k q _ HKL.out, if_neg (by omega)]; exact HF2.out q a⟩, H⟩
              case measure => have := HJ.out; simp [intOf]; omega
          · have hk3 : ¬ ((1 : Int) < (k : Int)) := by omega
            have HB := Lib.hid (HF2.out k (by omega))
            go_wp2_with (first
              | (go_at_call 25; go_loud (rw [← HG.out]; (refine (Free_noS (s := s) (H.take 7).bundle HO.out _ (.inl (by omega))).mono ?_); rintro e W ⟨rfl, hto⟩; replace H := hto.front (R := [errA, rdA _ (byteV frees), blk gf _]) H; clear hto))
              | (refine wpList_load1_st rfl 4 _ rfl _ _ rfl _ _ _ (H.at 9 rfl) _ Tryz.underlying4 rfl _ (bool_at fs k HKL.out HB.out) ?_)
              | (refine wpList_store1_st H 9 rfl 4 _ _ rfl _ _ (.bool false) rfl rfl rfl _ _ rfl rfl (by simp; exact HKL.out) ?_; clear H; intro W H; rw [bools_set] at H))
            simp only [HG.out]
            go_roundw
            case rel => exact ⟨_, _, ⟨j + 1, congrArg _ (by omega), HJ.out, s, HG.out, HNN.out, HO.out, fs.set k false, by rw [List.length_set]; exact HFL.out, ⟨fun q a b => by rw [HF.out q a b]; show (!fs.getD q false) = !(fs.set k false).getD q false; rw [getDb_set fs k q _ HKL.out]; by_cases e : q = k; subst e; rw [if_pos rfl, HB.out]; rw [if_neg e], fun q a => by show (fs.set k false).getD q false = false; rw [getDb_set fs k q _ HKL.out]; by_cases e : q = k; subst e; rw [if_pos rfl]; rw [if_neg e]; exact HF2.out q a⟩, H⟩, rfl, trivial, rfl, trivial⟩
            case measure => have := HJ.out; simp [intOf]; omega
        · obtain rfl : j = frees.length := by omega
          have hjj : ¬ ((frees.length : Int) < (frees.length : Int)) := by omega
          go_wp2
          go_loopw [18, 19, 20] (fun u _ _ wr => ∃ (q : Nat) (s : TX), u = .int .i64 (q : Int) ∧ q ≤ i ∧ s.g = g ∧ s.n = i ∧ s.Ok 0 ∧ HasF s (fun k => decide (k < q) || !fs.getD k false) ∧
            St NoBlk (fun _ => True) w wr (s.L ++ [errA, rdA p1 (byteV frees), blk gf (.cells (fs.map Value.bool).toArray 4 (0, 0))])) (fun u _ _ _ => i - (intOf u).toNat)
          case atStart => exact ⟨0, s, rfl, Nat.zero_le _, HG.out, HNN.out, HO.out, fun k h2 hk => by rw [HF.out k h2 hk]; rfl, H⟩
          case round =>
            clear H HG HNN HO HF
            obtain ⟨k, s, rfl, hk, hg, hn, ho, hf, H⟩ := hrel
            have HG := Lib.hid hg
            have HNN := Lib.hid hn
            have HO := Lib.hid ho
            have HF := Lib.hid hf
            clear hg hn ho hf
            have hk0 : 0 ≤ (k : Int) := by omega
            rcases Nat.lt_or_ge k i with hlt | hge
            · have hki : (k : Int) < (i : Int) := by omega
              have HK := Lib.hid hlt
              have HKL := Lib.hid (show k < fs.length by rw [HFL.out]; exact hlt)
              clear hlt
              cases hb : fs.getD k false with
              | true =>
                have HB := Lib.hid hb
                have HK2 := Lib.hid (show 2 ≤ k by
                  rcases Nat.lt_or_ge k 2 with h | h
                  · rw [HF2.out k h] at hb; cases hb
                  · exact h)
                clear hb
                go_wp2_with (first
                  | (refine wpList_load1_st rfl 4 _ rfl _ _ rfl _ _ _ (H.at 9 rfl) _ Tryz.underlying4 rfl _ (bool_at fs k HKL.out HB.out) ?_)
                  | (go_at_call 20; go_loud (rw [← HG.out]; (refine (Take_ok (s := s) (H.take 7).bundle HO.out k HK2.out (by rw [HNN.out]; exact HK.out) (by rw [HF.out k HK2.out (by rw [HNN.out]; exact HK.out)]; show (decide (k < k) || !fs.getD k false) = false; rw [HB.out, decide_eq_false (Nat.lt_irrefl k)]; rfl) (fun j a b => by rw [HF.out j a (by rw [HNN.out]; have := HK.out; omega)]; show (decide (j < k) || _) = true; rw [decide_eq_true b]; rfl)).mono ?_); rintro e W ⟨rfl, s2, hs2, hto⟩; replace H := hto.front (R := [errA, rdA p1 (byteV frees), blk gf _]) H; clear hto)))
                simp only [HG.out]
                go_roundw
                case rel => exact ⟨k + 1, s2, congrArg _ (by omega), HK.out, hs2.g.trans HG.out, hs2.n.trans HNN.out, hs2.ok, fun q a b => by
                  rw [HF.out.turn HO.out k hs2 (by rw [HNN.out]; exact HK.out) q a b]
                  show (if q = k then !(decide (q < k) || !fs.getD q false) else (decide (q < k) || !fs.getD q false)) = (decide (q < k + 1) || !fs.getD q false)
                  by_cases e : q = k
                  · subst e; rw [if_pos rfl, HB.out]; simp
                  · rw [if_neg e]
                    have : decide (q < k + 1) = decide (q < k) := by by_cases e2 : q < k <;> simp [e2] <;> omega
                    rw [this], H⟩
                case measure => have := HK.out; simp [intOf]; omega
              | false =>
                have HB := Lib.hid hb
                clear hb
                go_wp2_with (first
                  | (refine wpList_load1_st rfl 4 _ rfl _ _ rfl _ _ _ (H.at 9 rfl) _ Tryz.underlying4 rfl _ (bool_at fs k HKL.out HB.out) ?_))
                go_roundw
                case rel => exact ⟨k + 1, s, congrArg _ (by omega), HK.out, HG.out, HNN.out, HO.out, fun q a b => by
                  rw [HF.out q a b]
                  show (decide (q < k) || !fs.getD q false) = (decide (q < k + 1) || !fs.getD q false)
                  by_cases e : q = k
                  · subst e; rw [HB.out]; simp
                  · have : decide (q < k + 1) = decide (q < k) := by by_cases e2 : q < k <;> simp [e2] <;> omega
                    rw [this], H⟩
                case measure => have := HK.out; simp [intOf]; omega
            · obtain rfl : k = i := by omega
              have hki : ¬ ((k : Int) < (k : Int)) := by omega
              have HLF := Lib.hid (show leftOf (s.v 1) s.n = 0 by
                unfold leftOf
                rw [List.length_eq_zero_iff, List.filter_eq_nil_iff]
                intro q hq
                have hq2 := List.mem_range.1 hq
                rcases Nat.lt_or_ge q 2 with h | h
                · simp [hasB, h]
                · rw [HF.out q h hq2]
                  rw [HNN.out] at hq2
                  show ¬ (!(decide (q < k) || _)) = true
                  rw [decide_eq_true hq2]; simp)
              go_wp2_with (first
                | (go_at_call 26; go_loud (rw [← HG.out]; (refine (Left_ok (s := s) (H.take 7).bundle HO.out).mono ?_); rintro e W ⟨rfl, hto⟩; replace H := hto.front (R := [errA, rdA p1 (byteV frees), blk gf _]) H; clear hto; rw [HLF.out])))
              go_ret
              exact ⟨rfl, H.fix.below⟩

theorem spaceGives_calls (sec : UInt8) (p1 : Option Addr) (c1 : Nat) (frees : List UInt8) (w : World) (hg : errA.prop w) (ha : (rdA p1 (byteV frees)).prop w) :
    Calls Tryz.prog 4 #[.int .u8 (sec.toNat : Int), .slice p1 frees.length c1] w fun e w' => e = .returned (.bool true) ∧ Below w.heap.size w w' := by
  by_cases h : frees.length ≤ 40
  · exact spaceGives_short sec p1 c1 frees w h hg ha
  · have H := St.err hg
    have hc : 40 < (frees.length : Int) := by omega
    clear h ha hg
    go_enter Tryz.func4, Tryz.ntmps4
    go_wp2_with (first
      | (go_at_call 16; go_loud ((refine (begun20_calls _ (H.at 0 rfl)).mono ?_); rintro e W ⟨rfl, hb⟩; replace H := H.stay (Fix.of_below hb _); clear hb)))
    go_ret
    exact ⟨rfl, H.fix.below⟩

end Go.Proofs.YtphpegnfcelagaaGreatDoor
