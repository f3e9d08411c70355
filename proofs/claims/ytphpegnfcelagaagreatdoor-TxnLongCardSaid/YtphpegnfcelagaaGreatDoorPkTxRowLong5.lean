/- TxnLong. -/
import Derived.Test.YtphpegnfcelagaaGreatDoorPkBase4

namespace Go.Proofs.YtphpegnfcelagaaGreatDoor
open Go.RowKit
set_option linter.unusedSimpArgs false
set_option linter.unusedVariables false
set_option maxRecDepth 40000

theorem keysOf_lt (l : List UInt8) (k : Nat) : ∀ d, keysOf (fun i => if i < k then some l else none) (k + d) = List.range k
  | 0 => by
    unfold keysOf
    rw [Nat.add_zero, List.filter_eq_self]
    intro i hi
    show ((if i < k then some l else none : Option (List UInt8))).isSome = true
    rw [if_pos (List.mem_range.1 hi)]; rfl
  | d + 1 => by
    have ih := keysOf_lt l k d
    unfold keysOf at *
    rw [← Nat.add_assoc, List.range_succ, List.filter_append, ih]
    have : ¬ (k + d < k) := by omega
    simp [this]

theorem one_key (gl gm : Nat) (l : List UInt8) (M : DataW Value) (rm : Nat → Prop) : (keysOf ((TxT.new gl gm 34).wrote 3 l M rm).f ((TxT.new gl gm 34).wrote 3 l M rm).n).length = 1 := rfl

theorem noHome_full : noHome = fullH 0 := rfl

set_option maxHeartbeats 8000000 in
theorem txnLong_calls (n x : UInt8) (w : World) (hg : errA.prop w) : Calls Tryz.prog 5 #[.int .u8 (n.toNat : Int), .int .u8 (x.toNat : Int)] w fun e w' => e = .returned (.bool true) ∧ Below w.heap.size w w' := by
  have H := St.err hg
  clear hg
  obtain ⟨m, hm, hm2⟩ : ∃ m : Nat, ((n.toNat : Int)).tmod 33 = (m : Int) ∧ m < 33 := ⟨n.toNat % 33, by rw [Int.tmod_eq_emod_of_nonneg (by omega)]; omega, by omega⟩
  obtain ⟨k, hk⟩ : ∃ k, 1 + m = k := ⟨_, rfl⟩
  have hki : 1 + (m : Int) = (k : Int) := by omega
  have hk1 : (1 : Int) ≤ (k : Int) := by omega
  have hk2 : (k : Int) ≤ 33 := by omega
  have HK := Lib.hid (show 1 ≤ k ∧ k ≤ 33 by omega)
  have hmi : (m : Int) < 33 := by omega
  have hmi0 : 0 ≤ (m : Int) := by omega
  have hnb : (n.toNat : Int) < 256 := by have := n.toNat_lt; omega
  have hnb0 : 0 ≤ (n.toNat : Int) := by omega
  have hxb : (x.toNat : Int) < 256 := by have := x.toNat_lt; omega
  have hxb0 : 0 ≤ (x.toNat : Int) := by omega
  clear hm2 hk
  go_enter Tryz.func5, Tryz.ntmps5
  go_wp2_with (first
    | (go_at_call 27; go_loud ((refine (begun19_calls _ (H.at 0 rfl)).mono ?_); rintro e W ⟨rfl, hb⟩; replace H := H.stay (Fix.of_below hb _); clear hb))
    | (go_at_call 17; go_loud ((refine (new19_calls _ 60 34 rfl rfl (by omega) (by omega) _).mono ?_); rintro e W ⟨gd, gl, t, rfl, hnew, hto⟩; replace H := (hto.fresh H).rotate; clear hto))
    | (go_at_call 18; go_loud ((refine (begin_calls _).mono ?_); rintro e W ⟨g, gm, rfl, h1, h2, h3, hb, hg, hm⟩; replace H := St.swap (A := t.L gl) (E := [errA]) (R := (TxT.new gl gm 34).L g) (H.begun 34 hb h1 h2 h3 hg hm); clear h1 h2 h3 hb hg hm)))
  have HNEW := Lib.hid hnew
  clear hnew
  go_loopw [9] (fun u wr => ∃ (j : Nat) (y : TxT), u = .int .i64 (j : Int) ∧ j ≤ k ∧ y.over = false ∧ y.n = 34 ∧ y.gl = gl ∧ y.f = (fun i => if i < j then some (fullH x) else none) ∧
    St NoBlk (fun _ => True) w wr (t.L gl ++ y.L g ++ [errA])) (fun u _ => k - (intOf u).toNat)
  case atStart => exact ⟨0, TxT.new gl gm 34, rfl, Nat.zero_le _, rfl, rfl, rfl, by funext i; rw [if_neg (Nat.not_lt_zero i)]; rfl, H⟩
  case round =>
    clear H
    obtain ⟨j, y, rfl, hj, hyo, hyn, hyg, hyf, H⟩ := hrel
    subst hyg
    have HYO := Lib.hid hyo
    have HYN := Lib.hid hyn
    have HYF := Lib.hid hyf
    clear hyo hyn hyf
    rcases Nat.lt_or_ge j k with hlt | hge
    · have hji : (j : Int) < (k : Int) := by omega
      have hj0 : 0 ≤ (j : Int) := by omega
      have HJ := Lib.hid hlt
      clear hlt hj
      go_wp2_with (first
        | (go_at_call 29; go_loud ((refine (full19_calls _ x rfl _).mono ?_); rintro e W ⟨gf, rfl, hgf, hff, hb⟩; replace H := H.add (Fix.of_below hb _) (ownB gf 0 (fullH x)) hff (fun k hk => by rw [show k = gf from hk]; exact hgf) (fun k hk => hk.elim); clear hgf hff hb; replace H := St.swap (A := t.L y.gl ++ y.L g) (E := [errA]) (R := [ownB gf 0 (fullH x)]) H))
        | (go_at_call 28; go_loud ((refine (twrite_ok (t := t) (x := y) (H.take 8).bundle HNEW.out.ok HYO.out (HYN.out.trans HNEW.out.n.symm) _ j rfl (by rw [HNEW.out.n]; have := HK.out; have := HJ.out; omega) (B := ownB gf 0 (fullH x)) (fun W h => ⟨ownB_bytes h, ownB_lt h⟩) (fullH_len x)).mono ?_); rintro e W ⟨rfl, M1, rm1, hto⟩; replace H := hto.front (R := [errA]) H; clear hto; replace H := (St.swap (A := t.L y.gl ++ (y.wrote j (fullH x) M1 rm1).L g) (E := [ownB gf 0 (fullH x)]) (R := [errA]) H).take 8)))
      go_roundw
      case rel => exact ⟨j + 1, y.wrote j (fullH x) M1 rm1, congrArg _ (by omega), HJ.out, HYO.out, HYN.out, rfl, by
        funext i
        show (if i = j then some (fullH x) else y.f i) = _
        rw [HYF.out]
        show (if i = j then some (fullH x) else if i < j then some (fullH x) else none) = _
        by_cases e : i = j
        · rw [if_pos e, if_pos (by omega)]
        · rw [if_neg e]
          by_cases e2 : i < j
          · rw [if_pos e2, if_pos (by omega)]
          · rw [if_neg e2, if_neg (by omega)], H⟩
      case measure => have := HJ.out; simp [intOf]; omega
    · obtain rfl : j = k := by omega
      have hji : ¬ ((j : Int) < (j : Int)) := by omega
      have HKL := Lib.hid (show (keysOf y.f y.n).length = j by
        have := keysOf_lt (fullH x) j (34 - j)
        rw [show j + (34 - j) = 34 by have := HK.out; omega] at this
        rw [HYF.out, HYN.out, this, List.length_range])
      by_cases hs : j < 24
      · have hsi : (j : Int) < 24 := by omega
        have hsi2 : ¬ (24 ≤ (j : Int)) := by omega
        have HCC := Lib.hid (show commitC t y = 0 by unfold commitC; rw [HKL.out, HNEW.out.ring, if_pos (by omega)])
        have HOM := Lib.hid (fun (t2 : LogT) (hco : Committed t t2 y 0) (i : Nat) (hi : i < 34) => (by
          rw [hco.hom i (by rw [HNEW.out.n]; exact hi), HKL.out, HNEW.out.ring, if_pos (by omega)]
          show ((y.f i)).getD (t.hom i) = _
          rw [HYF.out, HNEW.out.hom i hi]
          show ((if i < j then some (fullH x) else none : Option (List UInt8))).getD noHome = _
          by_cases e : i < j
          · rw [if_pos e, if_pos e]; rfl
          · rw [if_neg e, if_neg e]; exact noHome_full : t2.hom i = if i < j then fullH x else fullH 0))
        have tok1 : True := trivial
        go_wp2_with (first
          | (go_at_call 30; have _t := tok1; clear _t; go_loud ((refine (twrites_calls (t := t) (x := y) (H.take 7).bundle (z := (j : Int)) (by rw [HYO.out, HKL.out]; rfl)).mono ?_); rintro e W' ⟨rfl, rfl⟩))
          | (go_at_call 31; go_loud ((refine (tcommit_calls (t := t) (x := y) H.bundle HNEW.out.ok (by omega) HYO.out (HYN.out.trans HNEW.out.n.symm)).mono ?_); rintro e W ⟨rfl, t2, hco, hto⟩; replace H := hto.front (R := []) (by rw [List.append_nil]; exact H); clear hto tok1; rw [List.append_nil] at H; rw [HCC.out]))
          | (go_at_call 30; go_loud ((refine (twrites_calls (t := t2) (x := y.done) (H.take 7).bundle (z := 0) rfl).mono ?_); rintro e W' ⟨rfl, rfl⟩)))
        have HH := Lib.hid (HOM.out t2 hco)
        have HO2 := Lib.hid hco.ok
        have HN2 := Lib.hid (hco.n.trans HNEW.out.n)
        have HR2 := Lib.hid (hco.ring.trans HNEW.out.ring)
        clear hco HOM
        go_loopw [11] (fun u wr => ∃ (i : Nat), u = .int .i64 (i : Int) ∧ i ≤ 34 ∧ St NoBlk (fun _ => True) w wr (t2.L y.gl ++ y.done.L g ++ [errA])) (fun u _ => 34 - (intOf u).toNat)
        case atStart => exact ⟨0, rfl, Nat.zero_le _, H⟩
        case round =>
          clear H
          obtain ⟨i, rfl, hi, H⟩ := hrel
          rcases Nat.lt_or_ge i 34 with hlt | hge
          · have hii : (i : Int) < 34 := by omega
            have hi0 : 0 ≤ (i : Int) := by omega
            have HI := Lib.hid hlt
            have HHI := Lib.hid (HH.out i hlt)
            by_cases e : i < j
            · have HV := Lib.hid (show t2.hom i = fullH x by rw [HHI.out, if_pos e])
              have ei : (i : Int) < (j : Int) := by omega
              clear HHI e
              go_upto_region 23 with (first
                | (go_at_call 32; go_loud ((refine (Read_in (t := t2) (H.take 4).bundle HO2.out _ i rfl (by rw [HN2.out]; exact HI.out)).mono ?_); rintro e W ⟨gc, offc, capc, rfl, hlc, hcc, hgc, hto⟩; replace H := hto.front2 (R := y.done.L g ++ [errA]) H; clear hto; rw [HV.out] at H)))
              replace H := H.drew
              refine wp_region_held_drew (S := fun w' => BytesAt w' gc offc (fullH x)) (by kernel_rfl) (ownB_bytes (H.at 8 rfl)) (fun hHeld => ?_)
              (refine wpAnyH_take (i := 0) (v := ?_) rfl (by kernel_rfl) (by kernel_rfl) (by kernel_rfl) (fun _ _ _ h => h) (Or.inl ⟨by rfl, ?_⟩) (by assumption) ?_; rotate_left; focus (intro w hSw; (try dsimp only at hSw); go_simp; all_goals (with_reducible rfl))); (try simp only [Act.put, List.setIfInBounds_toArray, List.set_cons_zero, List.set_cons_succ, List.getElem_toArray, List.getElem_cons_succ, List.getElem_cons_zero])
              (refine wpAnyH_take (i := 1) (v := ?_) rfl (by kernel_rfl) (by kernel_rfl) (by kernel_rfl) (fun _ _ _ h => h) (Or.inl ⟨by rfl, ?_⟩) (by assumption) ?_; rotate_left; focus (intro w hSw; (try dsimp only at hSw); go_simp; all_goals (with_reducible rfl))); (try simp only [Act.put, List.setIfInBounds_toArray, List.set_cons_zero, List.set_cons_succ, List.getElem_toArray, List.getElem_cons_succ, List.getElem_cons_zero])
              (refine wpAnyH_take (i := 2) (v := ?_) rfl (by kernel_rfl) (by kernel_rfl) (by kernel_rfl) (fun _ _ _ h => h) (Or.inl ⟨by rfl, ?_⟩) (by assumption) ?_; rotate_left; focus (intro w hSw; (try dsimp only at hSw); go_simp; all_goals (with_reducible rfl))); (try simp only [Act.put, List.setIfInBounds_toArray, List.set_cons_zero, List.set_cons_succ, List.getElem_toArray, List.getElem_cons_succ, List.getElem_cons_zero])
              (refine wpAnyH_take (i := 3) (v := ?_) rfl (by kernel_rfl) (by kernel_rfl) (by kernel_rfl) (fun _ _ _ h => h) (Or.inl ⟨by rfl, ?_⟩) (by assumption) ?_; rotate_left; focus (intro w hSw; (try dsimp only at hSw); go_simp; all_goals (with_reducible rfl))); (try simp only [Act.put, List.setIfInBounds_toArray, List.set_cons_zero, List.set_cons_succ, List.getElem_toArray, List.getElem_cons_succ, List.getElem_cons_zero])
              (refine wpAnyH_take (i := 4) rfl (by kernel_rfl) (by kernel_rfl) (by kernel_rfl) (fun _ _ _ h => h) ((yieldsIf_bytes_str (by rfl) 40 9 _ rfl _ _ _ _ (by rfl) 5 Tryz.underlying40 Tryz.underlying5 Tryz.underlying9 (fullH x) (fullH_len _).symm (fun w h => h))) (by assumption) ?_); (try simp only [Act.put, List.setIfInBounds_toArray, List.set_cons_zero, List.set_cons_succ, List.getElem_toArray, List.getElem_cons_succ, List.getElem_cons_zero])
              (refine wpAnyH_take (i := 5) (v := ?_) rfl (by kernel_rfl) (by kernel_rfl) (by kernel_rfl) (fun _ _ _ h => h) (Or.inl ⟨by rfl, ?_⟩) (by assumption) ?_; rotate_left; focus (intro w hSw; (try dsimp only at hSw); go_simp; all_goals (with_reducible rfl))); (try simp only [Act.put, List.setIfInBounds_toArray, List.set_cons_zero, List.set_cons_succ, List.getElem_toArray, List.getElem_cons_succ, List.getElem_cons_zero])
              (refine wpAnyH_ready (rs := [6]) (by kernel_rfl) (by simp) (AllReadyH.cons rfl (fun K hK => ?_) AllReadyH.nil)); (rw [if_pos (by rfl)]); (go_simp; go_at_call 29; (refine (full19_calls _ x rfl _).mono ?_); rintro e W1 ⟨gf, rfl, hgf, hff, hb⟩; replace H := H.add (Fix.of_below hb _) (ownB gf 0 (fullH x)) hff (fun k hk => by rw [show k = gf from hk]; exact hgf) (fun k hk => hk.elim); clear hgf hff hb; (try go_wp2_with fail); refine hK.out _ _ (ownB_bytes (H.at 8 rfl)) (fun hHeld2 => ?_); clear hK K)
              (try simp only [Act.put, List.setIfInBounds_toArray, List.set_cons_zero, List.set_cons_succ, List.getElem_toArray, List.getElem_cons_succ, List.getElem_cons_zero])
              (refine wpAnyH_ready (rs := [7]) (by kernel_rfl) (by simp) (AllReadyH.cons rfl (fun K hK => ?_) AllReadyH.nil)); (rw [if_pos (by rfl)]); (refine wp_bytes_str 40 9 _ rfl _ _ _ _ (by rfl) 5 Tryz.underlying40 Tryz.underlying5 Tryz.underlying9 (fullH x) (ownB_bytes (H.at 9 rfl)) (fullH_len _).symm ?_; refine hK.out _ _ (ownB_bytes (H.at 8 rfl)) (fun hHeld3 => ?_); clear hK K)
              (try simp only [Act.put, List.setIfInBounds_toArray, List.set_cons_zero, List.set_cons_succ, List.getElem_toArray, List.getElem_cons_succ, List.getElem_cons_zero])
              (refine wpAnyH_take (i := 8) (v := ?_) rfl (by kernel_rfl) (by kernel_rfl) (by kernel_rfl) (fun _ _ _ h => h) (Or.inl ⟨by rfl, ?_⟩) (by assumption) ?_; rotate_left; focus (intro w hSw; (try dsimp only at hSw); go_simp; all_goals (with_reducible rfl))); (try simp only [Act.put, List.setIfInBounds_toArray, List.set_cons_zero, List.set_cons_succ, List.getElem_toArray, List.getElem_cons_succ, List.getElem_cons_zero])
              (refine wpAnyH_take (i := 9) (v := ?_) rfl (by kernel_rfl) (by kernel_rfl) (by kernel_rfl) (fun _ _ _ h => h) (Or.inl ⟨by rfl, ?_⟩) (by assumption) ?_; rotate_left; focus (intro w hSw; (try dsimp only at hSw); go_simp; all_goals (with_reducible rfl))); (try simp only [Act.put, List.setIfInBounds_toArray, List.set_cons_zero, List.set_cons_succ, List.getElem_toArray, List.getElem_cons_succ, List.getElem_cons_zero])
              (refine wpAnyH_done (by kernel_rfl) ?_ _)
              clear hHeld hHeld2 hHeld3
              replace H := H.take 8
              go_wp2
              go_roundw
              case rel => exact ⟨i + 1, congrArg _ (by omega), HI.out, H⟩
              case measure => have := HI.out; simp [intOf]; omega
            · have HV := Lib.hid (show t2.hom i = fullH 0 by rw [HHI.out, if_neg e])
              have ei : ¬ ((i : Int) < (j : Int)) := by omega
              clear HHI e
              go_upto_region 23 with (first
                | (go_at_call 32; go_loud ((refine (Read_in (t := t2) (H.take 4).bundle HO2.out _ i rfl (by rw [HN2.out]; exact HI.out)).mono ?_); rintro e W ⟨gc, offc, capc, rfl, hlc, hcc, hgc, hto⟩; replace H := hto.front2 (R := y.done.L g ++ [errA]) H; clear hto; rw [HV.out] at H)))
              replace H := H.drew
              refine wp_region_held_drew (S := fun w' => BytesAt w' gc offc (fullH 0)) (by kernel_rfl) (ownB_bytes (H.at 8 rfl)) (fun hHeld => ?_)
              (refine wpAnyH_take (i := 0) (v := ?_) rfl (by kernel_rfl) (by kernel_rfl) (by kernel_rfl) (fun _ _ _ h => h) (Or.inl ⟨by rfl, ?_⟩) (by assumption) ?_; rotate_left; focus (intro w hSw; (try dsimp only at hSw); go_simp; all_goals (with_reducible rfl))); (try simp only [Act.put, List.setIfInBounds_toArray, List.set_cons_zero, List.set_cons_succ, List.getElem_toArray, List.getElem_cons_succ, List.getElem_cons_zero])
              (refine wpAnyH_take (i := 1) (v := ?_) rfl (by kernel_rfl) (by kernel_rfl) (by kernel_rfl) (fun _ _ _ h => h) (Or.inl ⟨by rfl, ?_⟩) (by assumption) ?_; rotate_left; focus (intro w hSw; (try dsimp only at hSw); go_simp; all_goals (with_reducible rfl))); (try simp only [Act.put, List.setIfInBounds_toArray, List.set_cons_zero, List.set_cons_succ, List.getElem_toArray, List.getElem_cons_succ, List.getElem_cons_zero])
              (refine wpAnyH_take (i := 2) (v := ?_) rfl (by kernel_rfl) (by kernel_rfl) (by kernel_rfl) (fun _ _ _ h => h) (Or.inl ⟨by rfl, ?_⟩) (by assumption) ?_; rotate_left; focus (intro w hSw; (try dsimp only at hSw); go_simp; all_goals (with_reducible rfl))); (try simp only [Act.put, List.setIfInBounds_toArray, List.set_cons_zero, List.set_cons_succ, List.getElem_toArray, List.getElem_cons_succ, List.getElem_cons_zero])
              (refine wpAnyH_take (i := 3) (v := ?_) rfl (by kernel_rfl) (by kernel_rfl) (by kernel_rfl) (fun _ _ _ h => h) (Or.inl ⟨by rfl, ?_⟩) (by assumption) ?_; rotate_left; focus (intro w hSw; (try dsimp only at hSw); go_simp; all_goals (with_reducible rfl))); (try simp only [Act.put, List.setIfInBounds_toArray, List.set_cons_zero, List.set_cons_succ, List.getElem_toArray, List.getElem_cons_succ, List.getElem_cons_zero])
              (refine wpAnyH_take (i := 4) rfl (by kernel_rfl) (by kernel_rfl) (by kernel_rfl) (fun _ _ _ h => h) ((yieldsIf_bytes_str (by rfl) 40 9 _ rfl _ _ _ _ (by rfl) 5 Tryz.underlying40 Tryz.underlying5 Tryz.underlying9 (fullH 0) (fullH_len _).symm (fun w h => h))) (by assumption) ?_); (try simp only [Act.put, List.setIfInBounds_toArray, List.set_cons_zero, List.set_cons_succ, List.getElem_toArray, List.getElem_cons_succ, List.getElem_cons_zero])
              (refine wpAnyH_take (i := 5) (v := ?_) rfl (by kernel_rfl) (by kernel_rfl) (by kernel_rfl) (fun _ _ _ h => h) (Or.inl ⟨by rfl, ?_⟩) (by assumption) ?_; rotate_left; focus (intro w hSw; (try dsimp only at hSw); go_simp; all_goals (with_reducible rfl))); (try simp only [Act.put, List.setIfInBounds_toArray, List.set_cons_zero, List.set_cons_succ, List.getElem_toArray, List.getElem_cons_succ, List.getElem_cons_zero])
              (refine wpAnyH_ready (rs := [6]) (by kernel_rfl) (by simp) (AllReadyH.cons rfl (fun K hK => ?_) AllReadyH.nil)); (rw [if_pos (by rfl)]); (go_simp; go_at_call 29; (refine (full19_calls _ 0 rfl _).mono ?_); rintro e W1 ⟨gf, rfl, hgf, hff, hb⟩; replace H := H.add (Fix.of_below hb _) (ownB gf 0 (fullH 0)) hff (fun k hk => by rw [show k = gf from hk]; exact hgf) (fun k hk => hk.elim); clear hgf hff hb; (try go_wp2_with fail); refine hK.out _ _ (ownB_bytes (H.at 8 rfl)) (fun hHeld2 => ?_); clear hK K)
              (try simp only [Act.put, List.setIfInBounds_toArray, List.set_cons_zero, List.set_cons_succ, List.getElem_toArray, List.getElem_cons_succ, List.getElem_cons_zero])
              (refine wpAnyH_ready (rs := [7]) (by kernel_rfl) (by simp) (AllReadyH.cons rfl (fun K hK => ?_) AllReadyH.nil)); (rw [if_pos (by rfl)]); (refine wp_bytes_str 40 9 _ rfl _ _ _ _ (by rfl) 5 Tryz.underlying40 Tryz.underlying5 Tryz.underlying9 (fullH 0) (ownB_bytes (H.at 9 rfl)) (fullH_len _).symm ?_; refine hK.out _ _ (ownB_bytes (H.at 8 rfl)) (fun hHeld3 => ?_); clear hK K)
              (try simp only [Act.put, List.setIfInBounds_toArray, List.set_cons_zero, List.set_cons_succ, List.getElem_toArray, List.getElem_cons_succ, List.getElem_cons_zero])
              (refine wpAnyH_take (i := 8) (v := ?_) rfl (by kernel_rfl) (by kernel_rfl) (by kernel_rfl) (fun _ _ _ h => h) (Or.inl ⟨by rfl, ?_⟩) (by assumption) ?_; rotate_left; focus (intro w hSw; (try dsimp only at hSw); go_simp; all_goals (with_reducible rfl))); (try simp only [Act.put, List.setIfInBounds_toArray, List.set_cons_zero, List.set_cons_succ, List.getElem_toArray, List.getElem_cons_succ, List.getElem_cons_zero])
              (refine wpAnyH_take (i := 9) (v := ?_) rfl (by kernel_rfl) (by kernel_rfl) (by kernel_rfl) (fun _ _ _ h => h) (Or.inl ⟨by rfl, ?_⟩) (by assumption) ?_; rotate_left; focus (intro w hSw; (try dsimp only at hSw); go_simp; all_goals (with_reducible rfl))); (try simp only [Act.put, List.setIfInBounds_toArray, List.set_cons_zero, List.set_cons_succ, List.getElem_toArray, List.getElem_cons_succ, List.getElem_cons_zero])
              (refine wpAnyH_done (by kernel_rfl) ?_ _)
              clear hHeld hHeld2 hHeld3
              replace H := H.take 8
              go_wp2
              go_roundw
              case rel => exact ⟨i + 1, congrArg _ (by omega), HI.out, H⟩
              case measure => have := HI.out; simp [intOf]; omega
          · obtain rfl : i = 34 := by omega
            obtain ⟨x', hx'⟩ : ∃ x' : UInt8, (x'.toNat : Int) = IntKind.u8.wrap ((x.toNat : Int) + 1) := ⟨x + 1, by rw [IntKind.wrap_u8, UInt8.toNat_add]; rfl⟩
            go_wp2_with (first
              | (go_at_call 18; go_loud ((refine (begin_calls _).mono ?_); rintro e W ⟨g2, gm2, rfl, h1, h2, h3, hb, hg, hm⟩; replace H := St.swap (A := t2.L y.gl) (E := y.done.L g ++ [errA]) (R := (TxT.new y.gl gm2 34).L g2) (H.begun 34 hb h1 h2 h3 hg hm); clear h1 h2 h3 hb hg hm; replace H := St.swap (A := t2.L y.gl ++ (TxT.new y.gl gm2 34).L g2) (E := y.done.L g) (R := [errA]) H))
              | (go_at_call 29; go_loud ((refine (full19_calls _ x' hx' _).mono ?_); rintro e W ⟨gf, rfl, hgf, hff, hb⟩; replace H := (H.take 8).add (Fix.of_below hb _) (ownB gf 0 (fullH x')) hff (fun k hk => by rw [show k = gf from hk]; exact hgf) (fun k hk => hk.elim); clear hgf hff hb; replace H := St.swap (A := t2.L y.gl ++ (TxT.new y.gl gm2 34).L g2) (E := [errA]) (R := [ownB gf 0 (fullH x')]) H))
              | (go_at_call 28; go_loud ((refine (twrite_ok (t := t2) (x := TxT.new y.gl gm2 34) (H.take 8).bundle HO2.out rfl HN2.out.symm _ 3 rfl (by rw [HN2.out]; omega) (B := ownB gf 0 (fullH x')) (fun W h => ⟨ownB_bytes h, ownB_lt h⟩) (fullH_len x')).mono ?_); rintro e W ⟨rfl, M1, rm1, hto⟩; replace H := hto.front (R := [errA]) H; clear hto; replace H := (St.swap (A := t2.L y.gl ++ ((TxT.new y.gl gm2 34).wrote 3 (fullH x') M1 rm1).L g2) (E := [ownB gf 0 (fullH x')]) (R := [errA]) H).take 8))
              | (go_at_call 31; go_loud ((refine (tcommit_calls (t := t2) (x := (TxT.new y.gl gm2 34).wrote 3 (fullH x') M1 rm1) H.bundle HO2.out (by omega) rfl HN2.out.symm).mono ?_); rintro e W ⟨rfl, t3, hco, hto⟩; replace H := hto.front (R := []) (by rw [List.append_nil]; exact H); clear hto; rw [show commitC t2 ((TxT.new y.gl gm2 34).wrote 3 (fullH x') M1 rm1) = 0 by unfold commitC; rw [HR2.out, one_key]; rfl])))
            go_ret
            exact ⟨rfl, H.fix.below⟩

      · have hsi : 24 ≤ (j : Int) := by omega
        have HCC := Lib.hid (show commitC t y = 4 by unfold commitC; rw [HKL.out, HNEW.out.ring, if_neg (by omega)])
        have HOM := Lib.hid (fun (t2 : LogT) (hco : Committed t t2 y 0) (i : Nat) (hi : i < 34) => (by
          rw [hco.hom i (by rw [HNEW.out.n]; exact hi), HKL.out, HNEW.out.ring, if_neg (by omega)]
          exact HNEW.out.hom i hi : t2.hom i = fullH 0))
        have tok1 : True := trivial
        go_wp2_with (first
          | (go_at_call 30; have _t := tok1; clear _t; go_loud ((refine (twrites_calls (t := t) (x := y) (H.take 7).bundle (z := (j : Int)) (by rw [HYO.out, HKL.out]; rfl)).mono ?_); rintro e W' ⟨rfl, rfl⟩))
          | (go_at_call 31; go_loud ((refine (tcommit_calls (t := t) (x := y) H.bundle HNEW.out.ok (by omega) HYO.out (HYN.out.trans HNEW.out.n.symm)).mono ?_); rintro e W ⟨rfl, t2, hco, hto⟩; replace H := hto.front (R := []) (by rw [List.append_nil]; exact H); clear hto tok1; rw [List.append_nil] at H; rw [HCC.out]))
          | (go_at_call 30; go_loud ((refine (twrites_calls (t := t2) (x := y.done) (H.take 7).bundle (z := 0) rfl).mono ?_); rintro e W' ⟨rfl, rfl⟩)))
        have HH := Lib.hid (HOM.out t2 hco)
        have HO2 := Lib.hid hco.ok
        have HN2 := Lib.hid (hco.n.trans HNEW.out.n)
        have HR2 := Lib.hid (hco.ring.trans HNEW.out.ring)
        clear hco HOM
        go_loopw [11] (fun u wr => ∃ (i : Nat), u = .int .i64 (i : Int) ∧ i ≤ 34 ∧ St NoBlk (fun _ => True) w wr (t2.L y.gl ++ y.done.L g ++ [errA])) (fun u _ => 34 - (intOf u).toNat)
        case atStart => exact ⟨0, rfl, Nat.zero_le _, H⟩
        case round =>
          clear H
          obtain ⟨i, rfl, hi, H⟩ := hrel
          rcases Nat.lt_or_ge i 34 with hlt | hge
          · have hii : (i : Int) < 34 := by omega
            have hi0 : 0 ≤ (i : Int) := by omega
            have HI := Lib.hid hlt
            have HHI := Lib.hid (HH.out i hlt)
            by_cases e : i < j
            · have ei : (i : Int) < (j : Int) := by omega
              clear e
              go_upto_region 23 with (first
                | (go_at_call 32; go_loud ((refine (Read_in (t := t2) (H.take 4).bundle HO2.out _ i rfl (by rw [HN2.out]; exact HI.out)).mono ?_); rintro e W ⟨gc, offc, capc, rfl, hlc, hcc, hgc, hto⟩; replace H := hto.front2 (R := y.done.L g ++ [errA]) H; clear hto; rw [HHI.out] at H)))
              replace H := H.drew
              refine wp_region_held_drew (S := fun w' => BytesAt w' gc offc (fullH 0)) (by kernel_rfl) (ownB_bytes (H.at 8 rfl)) (fun hHeld => ?_)
              (refine wpAnyH_take (i := 0) (v := ?_) rfl (by kernel_rfl) (by kernel_rfl) (by kernel_rfl) (fun _ _ _ h => h) (Or.inl ⟨by rfl, ?_⟩) (by assumption) ?_; rotate_left; focus (intro w hSw; (try dsimp only at hSw); go_simp; all_goals (with_reducible rfl))); (try simp only [Act.put, List.setIfInBounds_toArray, List.set_cons_zero, List.set_cons_succ, List.getElem_toArray, List.getElem_cons_succ, List.getElem_cons_zero])
              (refine wpAnyH_take (i := 1) (v := ?_) rfl (by kernel_rfl) (by kernel_rfl) (by kernel_rfl) (fun _ _ _ h => h) (Or.inl ⟨by rfl, ?_⟩) (by assumption) ?_; rotate_left; focus (intro w hSw; (try dsimp only at hSw); go_simp; all_goals (with_reducible rfl))); (try simp only [Act.put, List.setIfInBounds_toArray, List.set_cons_zero, List.set_cons_succ, List.getElem_toArray, List.getElem_cons_succ, List.getElem_cons_zero])
              (refine wpAnyH_take (i := 2) (v := ?_) rfl (by kernel_rfl) (by kernel_rfl) (by kernel_rfl) (fun _ _ _ h => h) (Or.inl ⟨by rfl, ?_⟩) (by assumption) ?_; rotate_left; focus (intro w hSw; (try dsimp only at hSw); go_simp; all_goals (with_reducible rfl))); (try simp only [Act.put, List.setIfInBounds_toArray, List.set_cons_zero, List.set_cons_succ, List.getElem_toArray, List.getElem_cons_succ, List.getElem_cons_zero])
              (refine wpAnyH_take (i := 3) (v := ?_) rfl (by kernel_rfl) (by kernel_rfl) (by kernel_rfl) (fun _ _ _ h => h) (Or.inl ⟨by rfl, ?_⟩) (by assumption) ?_; rotate_left; focus (intro w hSw; (try dsimp only at hSw); go_simp; all_goals (with_reducible rfl))); (try simp only [Act.put, List.setIfInBounds_toArray, List.set_cons_zero, List.set_cons_succ, List.getElem_toArray, List.getElem_cons_succ, List.getElem_cons_zero])
              (refine wpAnyH_take (i := 4) rfl (by kernel_rfl) (by kernel_rfl) (by kernel_rfl) (fun _ _ _ h => h) ((yieldsIf_bytes_str (by rfl) 40 9 _ rfl _ _ _ _ (by rfl) 5 Tryz.underlying40 Tryz.underlying5 Tryz.underlying9 (fullH 0) (fullH_len _).symm (fun w h => h))) (by assumption) ?_); (try simp only [Act.put, List.setIfInBounds_toArray, List.set_cons_zero, List.set_cons_succ, List.getElem_toArray, List.getElem_cons_succ, List.getElem_cons_zero])
              (refine wpAnyH_take (i := 5) (v := ?_) rfl (by kernel_rfl) (by kernel_rfl) (by kernel_rfl) (fun _ _ _ h => h) (Or.inl ⟨by rfl, ?_⟩) (by assumption) ?_; rotate_left; focus (intro w hSw; (try dsimp only at hSw); go_simp; all_goals (with_reducible rfl))); (try simp only [Act.put, List.setIfInBounds_toArray, List.set_cons_zero, List.set_cons_succ, List.getElem_toArray, List.getElem_cons_succ, List.getElem_cons_zero])
              (refine wpAnyH_ready (rs := [6]) (by kernel_rfl) (by simp) (AllReadyH.cons rfl (fun K hK => ?_) AllReadyH.nil)); (rw [if_pos (by rfl)]); (go_simp; go_at_call 29; (refine (full19_calls _ 0 rfl _).mono ?_); rintro e W1 ⟨gf, rfl, hgf, hff, hb⟩; replace H := H.add (Fix.of_below hb _) (ownB gf 0 (fullH 0)) hff (fun k hk => by rw [show k = gf from hk]; exact hgf) (fun k hk => hk.elim); clear hgf hff hb; (try go_wp2_with fail); refine hK.out _ _ (ownB_bytes (H.at 8 rfl)) (fun hHeld2 => ?_); clear hK K)
              (try simp only [Act.put, List.setIfInBounds_toArray, List.set_cons_zero, List.set_cons_succ, List.getElem_toArray, List.getElem_cons_succ, List.getElem_cons_zero])
              (refine wpAnyH_ready (rs := [7]) (by kernel_rfl) (by simp) (AllReadyH.cons rfl (fun K hK => ?_) AllReadyH.nil)); (rw [if_pos (by rfl)]); (refine wp_bytes_str 40 9 _ rfl _ _ _ _ (by rfl) 5 Tryz.underlying40 Tryz.underlying5 Tryz.underlying9 (fullH 0) (ownB_bytes (H.at 9 rfl)) (fullH_len _).symm ?_; refine hK.out _ _ (ownB_bytes (H.at 8 rfl)) (fun hHeld3 => ?_); clear hK K)
              (try simp only [Act.put, List.setIfInBounds_toArray, List.set_cons_zero, List.set_cons_succ, List.getElem_toArray, List.getElem_cons_succ, List.getElem_cons_zero])
              (refine wpAnyH_take (i := 8) (v := ?_) rfl (by kernel_rfl) (by kernel_rfl) (by kernel_rfl) (fun _ _ _ h => h) (Or.inl ⟨by rfl, ?_⟩) (by assumption) ?_; rotate_left; focus (intro w hSw; (try dsimp only at hSw); go_simp; all_goals (with_reducible rfl))); (try simp only [Act.put, List.setIfInBounds_toArray, List.set_cons_zero, List.set_cons_succ, List.getElem_toArray, List.getElem_cons_succ, List.getElem_cons_zero])
              (refine wpAnyH_take (i := 9) (v := ?_) rfl (by kernel_rfl) (by kernel_rfl) (by kernel_rfl) (fun _ _ _ h => h) (Or.inl ⟨by rfl, ?_⟩) (by assumption) ?_; rotate_left; focus (intro w hSw; (try dsimp only at hSw); go_simp; all_goals (with_reducible rfl))); (try simp only [Act.put, List.setIfInBounds_toArray, List.set_cons_zero, List.set_cons_succ, List.getElem_toArray, List.getElem_cons_succ, List.getElem_cons_zero])
              (refine wpAnyH_done (by kernel_rfl) ?_ _)
              clear hHeld hHeld2 hHeld3
              replace H := H.take 8
              go_wp2
              go_roundw
              case rel => exact ⟨i + 1, congrArg _ (by omega), HI.out, H⟩
              case measure => have := HI.out; simp [intOf]; omega
            · have ei : ¬ ((i : Int) < (j : Int)) := by omega
              clear e
              go_upto_region 23 with (first
                | (go_at_call 32; go_loud ((refine (Read_in (t := t2) (H.take 4).bundle HO2.out _ i rfl (by rw [HN2.out]; exact HI.out)).mono ?_); rintro e W ⟨gc, offc, capc, rfl, hlc, hcc, hgc, hto⟩; replace H := hto.front2 (R := y.done.L g ++ [errA]) H; clear hto; rw [HHI.out] at H)))
              replace H := H.drew
              refine wp_region_held_drew (S := fun w' => BytesAt w' gc offc (fullH 0)) (by kernel_rfl) (ownB_bytes (H.at 8 rfl)) (fun hHeld => ?_)
              (refine wpAnyH_take (i := 0) (v := ?_) rfl (by kernel_rfl) (by kernel_rfl) (by kernel_rfl) (fun _ _ _ h => h) (Or.inl ⟨by rfl, ?_⟩) (by assumption) ?_; rotate_left; focus (intro w hSw; (try dsimp only at hSw); go_simp; all_goals (with_reducible rfl))); (try simp only [Act.put, List.setIfInBounds_toArray, List.set_cons_zero, List.set_cons_succ, List.getElem_toArray, List.getElem_cons_succ, List.getElem_cons_zero])
              (refine wpAnyH_take (i := 1) (v := ?_) rfl (by kernel_rfl) (by kernel_rfl) (by kernel_rfl) (fun _ _ _ h => h) (Or.inl ⟨by rfl, ?_⟩) (by assumption) ?_; rotate_left; focus (intro w hSw; (try dsimp only at hSw); go_simp; all_goals (with_reducible rfl))); (try simp only [Act.put, List.setIfInBounds_toArray, List.set_cons_zero, List.set_cons_succ, List.getElem_toArray, List.getElem_cons_succ, List.getElem_cons_zero])
              (refine wpAnyH_take (i := 2) (v := ?_) rfl (by kernel_rfl) (by kernel_rfl) (by kernel_rfl) (fun _ _ _ h => h) (Or.inl ⟨by rfl, ?_⟩) (by assumption) ?_; rotate_left; focus (intro w hSw; (try dsimp only at hSw); go_simp; all_goals (with_reducible rfl))); (try simp only [Act.put, List.setIfInBounds_toArray, List.set_cons_zero, List.set_cons_succ, List.getElem_toArray, List.getElem_cons_succ, List.getElem_cons_zero])
              (refine wpAnyH_take (i := 3) (v := ?_) rfl (by kernel_rfl) (by kernel_rfl) (by kernel_rfl) (fun _ _ _ h => h) (Or.inl ⟨by rfl, ?_⟩) (by assumption) ?_; rotate_left; focus (intro w hSw; (try dsimp only at hSw); go_simp; all_goals (with_reducible rfl))); (try simp only [Act.put, List.setIfInBounds_toArray, List.set_cons_zero, List.set_cons_succ, List.getElem_toArray, List.getElem_cons_succ, List.getElem_cons_zero])
              (refine wpAnyH_take (i := 4) rfl (by kernel_rfl) (by kernel_rfl) (by kernel_rfl) (fun _ _ _ h => h) ((yieldsIf_bytes_str (by rfl) 40 9 _ rfl _ _ _ _ (by rfl) 5 Tryz.underlying40 Tryz.underlying5 Tryz.underlying9 (fullH 0) (fullH_len _).symm (fun w h => h))) (by assumption) ?_); (try simp only [Act.put, List.setIfInBounds_toArray, List.set_cons_zero, List.set_cons_succ, List.getElem_toArray, List.getElem_cons_succ, List.getElem_cons_zero])
              (refine wpAnyH_take (i := 5) (v := ?_) rfl (by kernel_rfl) (by kernel_rfl) (by kernel_rfl) (fun _ _ _ h => h) (Or.inl ⟨by rfl, ?_⟩) (by assumption) ?_; rotate_left; focus (intro w hSw; (try dsimp only at hSw); go_simp; all_goals (with_reducible rfl))); (try simp only [Act.put, List.setIfInBounds_toArray, List.set_cons_zero, List.set_cons_succ, List.getElem_toArray, List.getElem_cons_succ, List.getElem_cons_zero])
              (refine wpAnyH_ready (rs := [6]) (by kernel_rfl) (by simp) (AllReadyH.cons rfl (fun K hK => ?_) AllReadyH.nil)); (rw [if_pos (by rfl)]); (go_simp; go_at_call 29; (refine (full19_calls _ 0 rfl _).mono ?_); rintro e W1 ⟨gf, rfl, hgf, hff, hb⟩; replace H := H.add (Fix.of_below hb _) (ownB gf 0 (fullH 0)) hff (fun k hk => by rw [show k = gf from hk]; exact hgf) (fun k hk => hk.elim); clear hgf hff hb; (try go_wp2_with fail); refine hK.out _ _ (ownB_bytes (H.at 8 rfl)) (fun hHeld2 => ?_); clear hK K)
              (try simp only [Act.put, List.setIfInBounds_toArray, List.set_cons_zero, List.set_cons_succ, List.getElem_toArray, List.getElem_cons_succ, List.getElem_cons_zero])
              (refine wpAnyH_ready (rs := [7]) (by kernel_rfl) (by simp) (AllReadyH.cons rfl (fun K hK => ?_) AllReadyH.nil)); (rw [if_pos (by rfl)]); (refine wp_bytes_str 40 9 _ rfl _ _ _ _ (by rfl) 5 Tryz.underlying40 Tryz.underlying5 Tryz.underlying9 (fullH 0) (ownB_bytes (H.at 9 rfl)) (fullH_len _).symm ?_; refine hK.out _ _ (ownB_bytes (H.at 8 rfl)) (fun hHeld3 => ?_); clear hK K)
              (try simp only [Act.put, List.setIfInBounds_toArray, List.set_cons_zero, List.set_cons_succ, List.getElem_toArray, List.getElem_cons_succ, List.getElem_cons_zero])
              (refine wpAnyH_take (i := 8) (v := ?_) rfl (by kernel_rfl) (by kernel_rfl) (by kernel_rfl) (fun _ _ _ h => h) (Or.inl ⟨by rfl, ?_⟩) (by assumption) ?_; rotate_left; focus (intro w hSw; (try dsimp only at hSw); go_simp; all_goals (with_reducible rfl))); (try simp only [Act.put, List.setIfInBounds_toArray, List.set_cons_zero, List.set_cons_succ, List.getElem_toArray, List.getElem_cons_succ, List.getElem_cons_zero])
              (refine wpAnyH_take (i := 9) (v := ?_) rfl (by kernel_rfl) (by kernel_rfl) (by kernel_rfl) (fun _ _ _ h => h) (Or.inl ⟨by rfl, ?_⟩) (by assumption) ?_; rotate_left; focus (intro w hSw; (try dsimp only at hSw); go_simp; all_goals (with_reducible rfl))); (try simp only [Act.put, List.setIfInBounds_toArray, List.set_cons_zero, List.set_cons_succ, List.getElem_toArray, List.getElem_cons_succ, List.getElem_cons_zero])
              (refine wpAnyH_done (by kernel_rfl) ?_ _)
              clear hHeld hHeld2 hHeld3
              replace H := H.take 8
              go_wp2
              go_roundw
              case rel => exact ⟨i + 1, congrArg _ (by omega), HI.out, H⟩
              case measure => have := HI.out; simp [intOf]; omega
          · obtain rfl : i = 34 := by omega
            obtain ⟨x', hx'⟩ : ∃ x' : UInt8, (x'.toNat : Int) = IntKind.u8.wrap ((x.toNat : Int) + 1) := ⟨x + 1, by rw [IntKind.wrap_u8, UInt8.toNat_add]; rfl⟩
            go_wp2_with (first
              | (go_at_call 18; go_loud ((refine (begin_calls _).mono ?_); rintro e W ⟨g2, gm2, rfl, h1, h2, h3, hb, hg, hm⟩; replace H := St.swap (A := t2.L y.gl) (E := y.done.L g ++ [errA]) (R := (TxT.new y.gl gm2 34).L g2) (H.begun 34 hb h1 h2 h3 hg hm); clear h1 h2 h3 hb hg hm; replace H := St.swap (A := t2.L y.gl ++ (TxT.new y.gl gm2 34).L g2) (E := y.done.L g) (R := [errA]) H))
              | (go_at_call 29; go_loud ((refine (full19_calls _ x' hx' _).mono ?_); rintro e W ⟨gf, rfl, hgf, hff, hb⟩; replace H := (H.take 8).add (Fix.of_below hb _) (ownB gf 0 (fullH x')) hff (fun k hk => by rw [show k = gf from hk]; exact hgf) (fun k hk => hk.elim); clear hgf hff hb; replace H := St.swap (A := t2.L y.gl ++ (TxT.new y.gl gm2 34).L g2) (E := [errA]) (R := [ownB gf 0 (fullH x')]) H))
              | (go_at_call 28; go_loud ((refine (twrite_ok (t := t2) (x := TxT.new y.gl gm2 34) (H.take 8).bundle HO2.out rfl HN2.out.symm _ 3 rfl (by rw [HN2.out]; omega) (B := ownB gf 0 (fullH x')) (fun W h => ⟨ownB_bytes h, ownB_lt h⟩) (fullH_len x')).mono ?_); rintro e W ⟨rfl, M1, rm1, hto⟩; replace H := hto.front (R := [errA]) H; clear hto; replace H := (St.swap (A := t2.L y.gl ++ ((TxT.new y.gl gm2 34).wrote 3 (fullH x') M1 rm1).L g2) (E := [ownB gf 0 (fullH x')]) (R := [errA]) H).take 8))
              | (go_at_call 31; go_loud ((refine (tcommit_calls (t := t2) (x := (TxT.new y.gl gm2 34).wrote 3 (fullH x') M1 rm1) H.bundle HO2.out (by omega) rfl HN2.out.symm).mono ?_); rintro e W ⟨rfl, t3, hco, hto⟩; replace H := hto.front (R := []) (by rw [List.append_nil]; exact H); clear hto; rw [show commitC t2 ((TxT.new y.gl gm2 34).wrote 3 (fullH x') M1 rm1) = 0 by unfold commitC; rw [HR2.out, one_key]; rfl])))
            go_ret
            exact ⟨rfl, H.fix.below⟩

end Go.Proofs.YtphpegnfcelagaaGreatDoor
