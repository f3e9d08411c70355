/- SpaceRoots. -/
import Derived.Test.YtphpegnfcelagaaGreatDoorPkBase4

namespace Go.Proofs.YtphpegnfcelagaaGreatDoor
open Go.RowKit
set_option linter.unusedSimpArgs false
set_option linter.unusedVariables false
set_option maxRecDepth 40000

theorem quadw (b0 b1 b2 b3 r : Nat) (h : b0 + b1 * 256 + b2 * 65536 + b3 * 16777216 = r) (h0 : b0 < 256) (h1 : b1 < 256) (h2 : b2 < 256) (h3 : b3 < 256) :
    IntKind.u64.wrap (IntKind.u64.wrap (IntKind.u64.wrap (IntKind.u64.wrap (b0 : Int) + IntKind.u64.wrap (IntKind.u64.wrap (b1 : Int) * 256)) + IntKind.u64.wrap (IntKind.u64.wrap (b2 : Int) * 65536)) + IntKind.u64.wrap (IntKind.u64.wrap (b3 : Int) * 16777216)) = (r : Int) := by
  simp only [IntKind.wrap_u64]
  omega

set_option maxRecDepth 400000 in
set_option maxHeartbeats 8000000 in
theorem spaceRoots_short (p0 : Option Addr) (c0 : Nat) (roots : List Int) (p1 : Option Addr) (c1 : Nat) (vers : List Int) (w : World) (h1 : roots.length ≤ 20) (h2 : vers.length ≤ 20)
    (hr : ∀ z ∈ roots, 0 ≤ z ∧ z ≤ 4294967295) (hv : ∀ z ∈ vers, 0 ≤ z ∧ z ≤ 18446744073709551615) (hg : errA.prop w) (ha : (rdA p0 (roots.map (Value.int .u32))).prop w) (hb : (rdA p1 (vers.map (Value.int .u64))).prop w) :
    Calls Tryz.prog 3 #[.slice p0 roots.length c0, .slice p1 vers.length c1] w fun e w' => e = .returned (.bool true) ∧ Below w.heap.size w w' := by
  have H := St.reads_only (w := w) [errA, rdA p0 (roots.map (Value.int .u32)), rdA p1 (vers.map (Value.int .u64))] (by
    intro B hB
    simp only [List.mem_cons, List.not_mem_nil, or_false] at hB
    rcases hB with rfl | rfl | rfl
    · exact ⟨hg, fun _ h => h⟩
    · exact ⟨ha, fun _ h => h⟩
    · exact ⟨hb, fun _ h => h⟩)
  have HR := Lib.hid hr
  have HV := Lib.hid hv
  have hl1 : (roots.length : Int) ≤ 20 := by omega
  have hl2 : (vers.length : Int) ≤ 20 := by omega
  have hl3 : ¬ (20 < (roots.length : Int)) := by omega
  have hl4 : ¬ (20 < (vers.length : Int)) := by omega
  have HL1 := Lib.hid h1
  clear hg ha hb hr hv h1 h2
  go_enter Tryz.func3, Tryz.ntmps3
  go_wp2_with (first
    | (go_at_call 16; go_loud ((refine (begun20_calls _ (H.at 0 rfl)).mono ?_); rintro e W ⟨rfl, hb⟩; replace H := H.stay (Fix.of_below hb _); clear hb))
    | (go_at_call 17; go_loud ((refine (new19_calls _ 60 34 rfl rfl (by omega) (by omega) _).mono ?_); rintro e W ⟨gd, gl, t, rfl, hnew, hto⟩; replace H := (hto.fresh H).rotate; clear hto))
    | (go_at_call 18; go_loud ((refine (begin_calls _).mono ?_); rintro e W ⟨g, gm, rfl, h1, h2, h3, hb, hg, hm⟩; replace H := St.swap (A := t.L gl) (E := [errA, rdA p0 (roots.map (Value.int .u32)), rdA p1 (vers.map (Value.int .u64))]) (R := (TxT.new gl gm 34).L g) (H.begun 34 hb h1 h2 h3 hg hm); clear h1 h2 h3 hb hg hm; obtain ⟨s, hs⟩ : ∃ s : TX, (⟨t, TxT.new gl gm 34, g⟩ : TX) = s := ⟨_, rfl⟩; have hso := (TX.new_ok hnew gl gm g).1; have hgs : s.g = g := by { rw [← hs] }; have hns : s.n = 34 := by { rw [← hs]; exact hnew.n }; replace H : St _ _ w _ ((⟨t, TxT.new gl gm 34, g⟩ : TX).L ++ [errA, rdA p0 (roots.map (Value.int .u32)), rdA p1 (vers.map (Value.int .u64))]) := H; rw [hs] at H hso; clear hs; subst hgs))
    | (go_at_call 19; go_loud ((refine (Format_ok (s := s) (H.take 7).bundle hso).mono ?_); rintro e W ⟨rfl, s1, hs1, hto⟩; replace H := hto.front (R := [errA, rdA p0 (roots.map (Value.int .u32)), rdA p1 (vers.map (Value.int .u64))]) H; clear hto; have hv1 := v1_format hs1 hso; have HN1 := Lib.hid (show s1.n = 34 from hs1.n.trans hns); have HO1 := Lib.hid hs1.ok; have HF1 := Lib.hid (show HasF s1 (fun k => decide (k < 2)) from fun k _ _ => by rw [hv1]; exact hasB_new k); rw [← hs1.g]; clear hv1 hs1 hso hns)))
  obtain ⟨g, hg⟩ : ∃ g, s1.g = g := ⟨_, rfl⟩
  rw [hg]
  have HGG := Lib.hid hg
  clear hg
  go_loopw [8] (fun u wr => ∃ (i : Nat) (s : TX), u = .int .i64 (i : Int) ∧ i ≤ roots.length ∧ s.g = g ∧ s.n = 34 ∧ s.Ok 0 ∧ HasF s (fun k => decide (k < 2 + i)) ∧ St NoBlk (fun _ => True) w wr (s.L ++ [errA, rdA p0 (roots.map (Value.int .u32)), rdA p1 (vers.map (Value.int .u64))])) (fun u _ => roots.length - (intOf u).toNat)
  case atStart => exact ⟨0, s1, rfl, Nat.zero_le _, HGG.out, HN1.out, HO1.out, HF1.out, H⟩
  case round =>
    clear H HGG HN1 HO1 HF1
    obtain ⟨i, s, rfl, hi, hg, hn, ho, hf, H⟩ := hrel
    have HG := Lib.hid hg
    have HNN := Lib.hid hn
    have HO := Lib.hid ho
    have HF := Lib.hid hf
    clear hg hn ho hf
    have hi0 : 0 ≤ (i : Int) := by omega
    rcases Nat.lt_or_ge i roots.length with hlt | hge
    · have hii : (i : Int) < (roots.length : Int) := by omega
      have hi20 : (i : Int) < 20 := by omega
      have HI := Lib.hid hlt
      obtain ⟨r, hr, hrlt⟩ : ∃ r : Nat, roots[i] = (r : Int) ∧ r < 4294967296 := by
        have := HR.out _ (List.getElem_mem hlt)
        exact ⟨(roots[i]).toNat, by omega, by omega⟩
      have hcr : (roots.map (Value.int .u32))[i]? = some (.int .u32 (r : Int)) := by rw [List.getElem?_map, List.getElem?_eq_getElem hlt]; exact congrArg (fun z => some (Value.int .u32 z)) hr
      obtain ⟨ga, offa, rfl, _⟩ := rdA_at (H.at 8 rfl) hcr
      have HCR := Lib.hid hcr
      have HRL := Lib.hid hrlt
      have hr0 : 0 ≤ (r : Int) := by omega
      have hr9 : (r : Int) < 4294967296 := by omega
      clear hcr hlt hr hrlt hi
      obtain ⟨v, hv9, hvv⟩ : ∃ v : Nat, v < 18446744073709551616 ∧ ((¬ ((i : Int) < (vers.length : Int)) ∧ (i : Int) = (v : Int)) ∨ ((i : Int) < (vers.length : Int) ∧ ∃ gb offb, p1 = some ⟨gb, offb, none⟩ ∧ wr.cell? ⟨gb, offb + i, none⟩ = some (.int .u64 (v : Int)))) := by
        rcases Nat.lt_or_ge i vers.length with h | h
        · have hb := HV.out _ (List.getElem_mem h)
          refine ⟨(vers[i]).toNat, by omega, .inr ⟨by omega, ?_⟩⟩
          exact rdA_at (H.at 9 rfl) (by rw [List.getElem?_map, List.getElem?_eq_getElem h, show ((vers[i]).toNat : Int) = vers[i] by omega]; rfl)
        · exact ⟨i, by omega, .inl ⟨by omega, rfl⟩⟩
      have HVL := Lib.hid hv9
      have hv0 : 0 ≤ (v : Int) := by omega
      clear hv9
      rcases hvv with ⟨hvi, hve⟩ | ⟨hvi, gb, offb, rfl, hcv⟩
      · have HZV := Lib.hid (show (v : Int) = (i : Int) from hve.symm)
        have hvn : ¬ i < vers.length := by omega
        clear hve
        have HRB := Lib.hid (le_root r v HRL.out HVL.out)
        go_upto_region 21 with (first
          | (go_at_call 20; rw [← HG.out]; go_loud ((refine (Take_ok (s := s) (H.take 7).bundle HO.out (2 + i) (by omega) (by rw [HNN.out]; omega) (by rw [HF.out (2 + i) (by omega) (by rw [HNN.out]; omega)]; exact decide_eq_false (by omega)) (fun j a b => by rw [HF.out j a (by rw [HNN.out]; omega)]; exact decide_eq_true b)).mono ?_); rintro e W ⟨rfl, s2, hs2, hto⟩; replace H := hto.front (R := [errA, rdA (some ⟨ga, offa, none⟩) (roots.map (Value.int .u32)), rdA p1 (vers.map (Value.int .u64))]) H; clear hto; have HF2 := Lib.hid (HF.out.turn HO.out (2 + i) hs2 (by rw [HNN.out]; omega)); have HO2 := Lib.hid hs2.ok; have HN2 := Lib.hid (hs2.n.trans HNN.out); have HG2 := Lib.hid (hs2.g.trans HG.out); clear hs2))
          | (refine wpList_load1c rfl 37 _ rfl ga (offa + i) rfl _ Tryz.underlying37 rfl (.int .u32 (r : Int)) (rdA_cell (H.at 8 rfl) HCR.out) ?_)
          | (go_at_call 21; simp only [HG.out]; rw [← HG2.out]; go_loud ((refine (SetRoot_ok (s := s2) (H.take 7).bundle HO2.out _ _ r v rfl HZV.out HRL.out HVL.out).mono ?_); rintro e W ⟨rfl, s3, hs3, hto⟩; replace H := hto.front (R := [errA, rdA (some ⟨ga, offa, none⟩) (roots.map (Value.int .u32)), rdA p1 (vers.map (Value.int .u64))]) H; clear hto; have HF3 := Lib.hid (HF2.out.keep HO2.out hs3); have HO3 := Lib.hid hs3.ok; have HN3 := Lib.hid (hs3.n.trans HN2.out); have HG3 := Lib.hid (hs3.g.trans HG2.out); have HV3 := Lib.hid (show s3.v 0 = rootB r v from hs3.v 0 (by rw [HN2.out]; omega)); clear hs3))
          | (go_at_call 22; simp only [HG2.out]; rw [← HG3.out]; go_loud ((refine (Root_ok (s := s3) (H.take 7).bundle HO3.out).mono ?_); rintro e W ⟨rfl, hto⟩; replace H := hto.front (R := [errA, rdA (some ⟨ga, offa, none⟩) (roots.map (Value.int .u32)), rdA p1 (vers.map (Value.int .u64))]) H; clear hto; rw [HV3.out, HRB.out.1, HRB.out.2, HZV.out]))
          | (go_at_call 23; go_loud ((refine (rd_TX (s := s3) (H.take 7).bundle HO3.out _ 0 rfl (by rw [HN3.out]; omega)).mono ?_); rintro e W ⟨gc, off, cap, rfl, _, hcap, hgc, hto⟩; replace H := hto.front2 (R := [errA, rdA (some ⟨ga, offa, none⟩) (roots.map (Value.int .u32)), rdA p1 (vers.map (Value.int .u64))]) H; clear hto; rw [HV3.out] at H)))
        obtain ⟨b0, hb0⟩ : ∃ b, (r / 256 ^ 0 % 256).toUInt8 = b := ⟨_, rfl⟩
        obtain ⟨b1, hb1⟩ : ∃ b, (r / 256 ^ 1 % 256).toUInt8 = b := ⟨_, rfl⟩
        obtain ⟨b2, hb2⟩ : ∃ b, (r / 256 ^ 2 % 256).toUInt8 = b := ⟨_, rfl⟩
        obtain ⟨b3, hb3⟩ : ∃ b, (r / 256 ^ 3 % 256).toUInt8 = b := ⟨_, rfl⟩
        have HC0 := Lib.hid (show (rootB r v)[0]? = some b0 by rw [← hb0]; exact rootB_r r v 0 (by omega))
        have HC1 := Lib.hid (show (rootB r v)[1]? = some b1 by rw [← hb1]; exact rootB_r r v 1 (by omega))
        have HC2 := Lib.hid (show (rootB r v)[2]? = some b2 by rw [← hb2]; exact rootB_r r v 2 (by omega))
        have HC3 := Lib.hid (show (rootB r v)[3]? = some b3 by rw [← hb3]; exact rootB_r r v 3 (by omega))
        have HQ := Lib.hid (show b0.toNat + b1.toNat * 256 + b2.toNat * 65536 + b3.toNat * 16777216 = r by rw [← hb0, ← hb1, ← hb2, ← hb3]; simp only [Lib.toUInt8_mod]; exact quad r HRL.out)
        have l0 : (b0.toNat : Int) < 256 := by have := b0.toNat_lt; omega
        have l1 : (b1.toNat : Int) < 256 := by have := b1.toNat_lt; omega
        have l2 : (b2.toNat : Int) < 256 := by have := b2.toNat_lt; omega
        have l3 : (b3.toNat : Int) < 256 := by have := b3.toNat_lt; omega
        have m0 : 0 ≤ (b0.toNat : Int) := by omega
        have m1 : 0 ≤ (b1.toNat : Int) := by omega
        have m2 : 0 ≤ (b2.toNat : Int) := by omega
        have m3 : 0 ≤ (b3.toNat : Int) := by omega
        clear hb0 hb1 hb2 hb3
        replace H := H.drew
        refine wp_region_held_drew (S := fun w' => BytesAt w' gc off (rootB r v)) (by kernel_rfl) (ownB_bytes (H.at 10 rfl)) (fun hHeld => ?_)
        (refine wpAnyH_take (i := 0) (v := ?_) rfl (by kernel_rfl) (by kernel_rfl) (by kernel_rfl) (fun _ _ _ h => h) (Or.inl ⟨by rfl, ?_⟩) (by assumption) ?_; rotate_left; focus (intro w hSw; (try dsimp only at hSw); go_simp; all_goals (with_reducible rfl))); (try simp only [Act.put, List.setIfInBounds_toArray, List.set_cons_zero, List.set_cons_succ, List.getElem_toArray, List.getElem_cons_succ, List.getElem_cons_zero])
        (refine wpAnyH_take (i := 1) (v := ?_) rfl (by kernel_rfl) (by kernel_rfl) (by kernel_rfl) (fun _ _ _ h => h) (Or.inl ⟨by rfl, ?_⟩) (by assumption) ?_; rotate_left; focus (intro w hSw; (try dsimp only at hSw); go_simp; all_goals (with_reducible rfl))); (try simp only [Act.put, List.setIfInBounds_toArray, List.set_cons_zero, List.set_cons_succ, List.getElem_toArray, List.getElem_cons_succ, List.getElem_cons_zero])
        (refine wpAnyH_take (i := 2) rfl (by kernel_rfl) (by kernel_rfl) (by kernel_rfl) (fun _ _ _ h => h) ((yieldsIf_load1 (by rfl) 5 _ rfl _ _ (by rfl) _ Tryz.underlying5 rfl _ (fun w h => (h.cellv HC0.out)))) (by assumption) ?_); (try simp only [Act.put, List.setIfInBounds_toArray, List.set_cons_zero, List.set_cons_succ, List.getElem_toArray, List.getElem_cons_succ, List.getElem_cons_zero])
        (refine wpAnyH_take (i := 3) (v := ?_) rfl (by kernel_rfl) (by kernel_rfl) (by kernel_rfl) (fun _ _ _ h => h) (Or.inl ⟨by rfl, ?_⟩) (by assumption) ?_; rotate_left; focus (intro w hSw; (try dsimp only at hSw); go_simp; all_goals (with_reducible rfl))); (try simp only [Act.put, List.setIfInBounds_toArray, List.set_cons_zero, List.set_cons_succ, List.getElem_toArray, List.getElem_cons_succ, List.getElem_cons_zero])
        (refine wpAnyH_take (i := 4) (v := ?_) rfl (by kernel_rfl) (by kernel_rfl) (by kernel_rfl) (fun _ _ _ h => h) (Or.inl ⟨by rfl, ?_⟩) (by assumption) ?_; rotate_left; focus (intro w hSw; (try dsimp only at hSw); go_simp; all_goals (with_reducible rfl))); (try simp only [Act.put, List.setIfInBounds_toArray, List.set_cons_zero, List.set_cons_succ, List.getElem_toArray, List.getElem_cons_succ, List.getElem_cons_zero])
        (refine wpAnyH_take (i := 5) (v := ?_) rfl (by kernel_rfl) (by kernel_rfl) (by kernel_rfl) (fun _ _ _ h => h) (Or.inl ⟨by rfl, ?_⟩) (by assumption) ?_; rotate_left; focus (intro w hSw; (try dsimp only at hSw); go_simp; all_goals (with_reducible rfl))); (try simp only [Act.put, List.setIfInBounds_toArray, List.set_cons_zero, List.set_cons_succ, List.getElem_toArray, List.getElem_cons_succ, List.getElem_cons_zero])
        (refine wpAnyH_take (i := 6) rfl (by kernel_rfl) (by kernel_rfl) (by kernel_rfl) (fun _ _ _ h => h) ((yieldsIf_load1 (by rfl) 5 _ rfl _ _ (by rfl) _ Tryz.underlying5 rfl _ (fun w h => (h.cellv HC1.out)))) (by assumption) ?_); (try simp only [Act.put, List.setIfInBounds_toArray, List.set_cons_zero, List.set_cons_succ, List.getElem_toArray, List.getElem_cons_succ, List.getElem_cons_zero])
        (refine wpAnyH_take (i := 7) (v := ?_) rfl (by kernel_rfl) (by kernel_rfl) (by kernel_rfl) (fun _ _ _ h => h) (Or.inl ⟨by rfl, ?_⟩) (by assumption) ?_; rotate_left; focus (intro w hSw; (try dsimp only at hSw); go_simp; all_goals (with_reducible rfl))); (try simp only [Act.put, List.setIfInBounds_toArray, List.set_cons_zero, List.set_cons_succ, List.getElem_toArray, List.getElem_cons_succ, List.getElem_cons_zero])
        (refine wpAnyH_take (i := 8) (v := ?_) rfl (by kernel_rfl) (by kernel_rfl) (by kernel_rfl) (fun _ _ _ h => h) (Or.inl ⟨by rfl, ?_⟩) (by assumption) ?_; rotate_left; focus (intro w hSw; (try dsimp only at hSw); go_simp; all_goals (with_reducible rfl))); (try simp only [Act.put, List.setIfInBounds_toArray, List.set_cons_zero, List.set_cons_succ, List.getElem_toArray, List.getElem_cons_succ, List.getElem_cons_zero])
        (refine wpAnyH_take (i := 9) (v := ?_) rfl (by kernel_rfl) (by kernel_rfl) (by kernel_rfl) (fun _ _ _ h => h) (Or.inl ⟨by rfl, ?_⟩) (by assumption) ?_; rotate_left; focus (intro w hSw; (try dsimp only at hSw); go_simp; all_goals (with_reducible rfl))); (try simp only [Act.put, List.setIfInBounds_toArray, List.set_cons_zero, List.set_cons_succ, List.getElem_toArray, List.getElem_cons_succ, List.getElem_cons_zero])
        (refine wpAnyH_take (i := 10) (v := ?_) rfl (by kernel_rfl) (by kernel_rfl) (by kernel_rfl) (fun _ _ _ h => h) (Or.inl ⟨by rfl, ?_⟩) (by assumption) ?_; rotate_left; focus (intro w hSw; (try dsimp only at hSw); go_simp; all_goals (with_reducible rfl))); (try simp only [Act.put, List.setIfInBounds_toArray, List.set_cons_zero, List.set_cons_succ, List.getElem_toArray, List.getElem_cons_succ, List.getElem_cons_zero])
        (refine wpAnyH_take (i := 11) (v := ?_) rfl (by kernel_rfl) (by kernel_rfl) (by kernel_rfl) (fun _ _ _ h => h) (Or.inl ⟨by rfl, ?_⟩) (by assumption) ?_; rotate_left; focus (intro w hSw; (try dsimp only at hSw); go_simp; all_goals (with_reducible rfl))); (try simp only [Act.put, List.setIfInBounds_toArray, List.set_cons_zero, List.set_cons_succ, List.getElem_toArray, List.getElem_cons_succ, List.getElem_cons_zero])
        (refine wpAnyH_take (i := 12) rfl (by kernel_rfl) (by kernel_rfl) (by kernel_rfl) (fun _ _ _ h => h) ((yieldsIf_load1 (by rfl) 5 _ rfl _ _ (by rfl) _ Tryz.underlying5 rfl _ (fun w h => (h.cellv HC2.out)))) (by assumption) ?_); (try simp only [Act.put, List.setIfInBounds_toArray, List.set_cons_zero, List.set_cons_succ, List.getElem_toArray, List.getElem_cons_succ, List.getElem_cons_zero])
        (refine wpAnyH_take (i := 13) (v := ?_) rfl (by kernel_rfl) (by kernel_rfl) (by kernel_rfl) (fun _ _ _ h => h) (Or.inl ⟨by rfl, ?_⟩) (by assumption) ?_; rotate_left; focus (intro w hSw; (try dsimp only at hSw); go_simp; all_goals (with_reducible rfl))); (try simp only [Act.put, List.setIfInBounds_toArray, List.set_cons_zero, List.set_cons_succ, List.getElem_toArray, List.getElem_cons_succ, List.getElem_cons_zero])
        (refine wpAnyH_take (i := 14) (v := ?_) rfl (by kernel_rfl) (by kernel_rfl) (by kernel_rfl) (fun _ _ _ h => h) (Or.inl ⟨by rfl, ?_⟩) (by assumption) ?_; rotate_left; focus (intro w hSw; (try dsimp only at hSw); go_simp; all_goals (with_reducible rfl))); (try simp only [Act.put, List.setIfInBounds_toArray, List.set_cons_zero, List.set_cons_succ, List.getElem_toArray, List.getElem_cons_succ, List.getElem_cons_zero])
        (refine wpAnyH_take (i := 15) (v := ?_) rfl (by kernel_rfl) (by kernel_rfl) (by kernel_rfl) (fun _ _ _ h => h) (Or.inl ⟨by rfl, ?_⟩) (by assumption) ?_; rotate_left; focus (intro w hSw; (try dsimp only at hSw); go_simp; all_goals (with_reducible rfl))); (try simp only [Act.put, List.setIfInBounds_toArray, List.set_cons_zero, List.set_cons_succ, List.getElem_toArray, List.getElem_cons_succ, List.getElem_cons_zero])
        (refine wpAnyH_take (i := 16) (v := ?_) rfl (by kernel_rfl) (by kernel_rfl) (by kernel_rfl) (fun _ _ _ h => h) (Or.inl ⟨by rfl, ?_⟩) (by assumption) ?_; rotate_left; focus (intro w hSw; (try dsimp only at hSw); go_simp; all_goals (with_reducible rfl))); (try simp only [Act.put, List.setIfInBounds_toArray, List.set_cons_zero, List.set_cons_succ, List.getElem_toArray, List.getElem_cons_succ, List.getElem_cons_zero])
        (refine wpAnyH_take (i := 17) (v := ?_) rfl (by kernel_rfl) (by kernel_rfl) (by kernel_rfl) (fun _ _ _ h => h) (Or.inl ⟨by rfl, ?_⟩) (by assumption) ?_; rotate_left; focus (intro w hSw; (try dsimp only at hSw); go_simp; all_goals (with_reducible rfl))); (try simp only [Act.put, List.setIfInBounds_toArray, List.set_cons_zero, List.set_cons_succ, List.getElem_toArray, List.getElem_cons_succ, List.getElem_cons_zero])
        (refine wpAnyH_take (i := 18) rfl (by kernel_rfl) (by kernel_rfl) (by kernel_rfl) (fun _ _ _ h => h) ((yieldsIf_load1 (by rfl) 5 _ rfl _ _ (by rfl) _ Tryz.underlying5 rfl _ (fun w h => (h.cellv HC3.out)))) (by assumption) ?_); (try simp only [Act.put, List.setIfInBounds_toArray, List.set_cons_zero, List.set_cons_succ, List.getElem_toArray, List.getElem_cons_succ, List.getElem_cons_zero])
        (refine wpAnyH_take (i := 19) (v := ?_) rfl (by kernel_rfl) (by kernel_rfl) (by kernel_rfl) (fun _ _ _ h => h) (Or.inl ⟨by rfl, ?_⟩) (by assumption) ?_; rotate_left; focus (intro w hSw; (try dsimp only at hSw); go_simp; all_goals (with_reducible rfl))); (try simp only [Act.put, List.setIfInBounds_toArray, List.set_cons_zero, List.set_cons_succ, List.getElem_toArray, List.getElem_cons_succ, List.getElem_cons_zero])
        (refine wpAnyH_take (i := 20) (v := ?_) rfl (by kernel_rfl) (by kernel_rfl) (by kernel_rfl) (fun _ _ _ h => h) (Or.inl ⟨by rfl, ?_⟩) (by assumption) ?_; rotate_left; focus (intro w hSw; (try dsimp only at hSw); go_simp; all_goals (with_reducible rfl))); (try simp only [Act.put, List.setIfInBounds_toArray, List.set_cons_zero, List.set_cons_succ, List.getElem_toArray, List.getElem_cons_succ, List.getElem_cons_zero])
        (refine wpAnyH_take (i := 21) (v := ?_) rfl (by kernel_rfl) (by kernel_rfl) (by kernel_rfl) (fun _ _ _ h => h) (Or.inl ⟨by rfl, ?_⟩) (by assumption) ?_; rotate_left; focus (intro w hSw; (try dsimp only at hSw); go_simp; all_goals (with_reducible rfl))); (try simp only [Act.put, List.setIfInBounds_toArray, List.set_cons_zero, List.set_cons_succ, List.getElem_toArray, List.getElem_cons_succ, List.getElem_cons_zero])
        (refine wpAnyH_take (i := 22) (v := ?_) rfl (by kernel_rfl) (by kernel_rfl) (by kernel_rfl) (fun _ _ _ h => h) (Or.inl ⟨by rfl, ?_⟩) (by assumption) ?_; rotate_left; focus (intro w hSw; (try dsimp only at hSw); go_simp; all_goals (with_reducible rfl))); (try simp only [Act.put, List.setIfInBounds_toArray, List.set_cons_zero, List.set_cons_succ, List.getElem_toArray, List.getElem_cons_succ, List.getElem_cons_zero])
        (refine wpAnyH_done (by kernel_rfl) ?_ _)
        clear hHeld
        go_upto_region 24 with fail
        rw [quadw _ _ _ _ _ HQ.out b0.toNat_lt b1.toNat_lt b2.toNat_lt b3.toNat_lt]
        clear l0 l1 l2 l3 m0 m1 m2 m3 HC0 HC1 HC2 HC3 HQ
        replace H : St NoBlk (fun _ => True) w _ (s3.L ++ [errA, rdA (some ⟨ga, offa, none⟩) (roots.map (Value.int .u32)), rdA p1 (vers.map (Value.int .u64)), ownB gc off (rootB r v)]) := H
        go_loopw [19, 20] (fun yv u wr => ∃ n q : Nat, u = .int .i64 (n : Int) ∧ yv = .int .u64 (q : Int) ∧ 3 ≤ n ∧ n ≤ 11 ∧ q = v / 256 ^ (n - 3) ∧ St NoBlk (fun _ => True) w wr (s3.L ++ [errA, rdA (some ⟨ga, offa, none⟩) (roots.map (Value.int .u32)), rdA p1 (vers.map (Value.int .u64)), ownB gc off (rootB r v)])) (fun _ u _ => (intOf u).toNat)
        case atStart => exact ⟨11, 0, rfl, rfl, by omega, by omega, (Nat.div_eq_of_lt (by have := HVL.out; simpa using this)).symm, H⟩
        case round =>
          clear H
          obtain ⟨n, q, rfl, rfl, hn3, hn11, hq, H⟩ := hrel
          have HQ := Lib.hid hq
          clear hq
          have hn0 : 0 ≤ (n : Int) := by omega
          have hn12 : (n : Int) ≤ 11 := by omega
          rcases Nat.lt_or_ge n 4 with hlt | hge
          · obtain rfl : n = 3 := by omega
            obtain rfl : q = v := by have := HQ.out; simpa using this
            have hvz := HZV.out
            go_wp2
            simp only [HG3.out]
            go_roundw
            case rel => exact ⟨i + 1, s3, congrArg _ (by omega), by have := HI.out; omega, HG3.out, HN3.out, HO3.out, fun k a b => by
              rw [HF3.out k a b]
              show (if k = 2 + i then !decide (k < 2 + i) else decide (k < 2 + i)) = decide (k < 2 + (i + 1))
              by_cases e : k = 2 + i
              · subst e; simp
              · rw [if_neg e]; by_cases e2 : k < 2 + i
                · rw [decide_eq_true e2, decide_eq_true (by omega)]
                · rw [decide_eq_false e2, decide_eq_false (by omega)], H.take 10⟩
            case measure => have := HI.out; simp [intOf]; omega
          · have hn4 : 4 ≤ (n : Int) := by omega
            obtain ⟨b, hb⟩ : ∃ b, (v / 256 ^ (n - 4) % 256).toUInt8 = b := ⟨_, rfl⟩
            have hcell := (ownB_bytes (H.at 10 rfl)).cellv (i := n) (b := b) (by rw [← hb]; have := rootB_v r v (n - 4) (by omega); rwa [show 4 + (n - 4) = n by omega] at this)
            have HB := Lib.hid (show q * 256 + b.toNat = v / 256 ^ (n - 4) by
              rw [← hb, Lib.toUInt8_mod, HQ.out, show n - 3 = (n - 4) + 1 by omega, Nat.pow_succ, ← Nat.div_div_eq_div_mul]; omega)
            have HBL := Lib.hid (Nat.lt_of_le_of_lt (Nat.div_le_self v (256 ^ (n - 4))) HVL.out)
            have hbl : (b.toNat : Int) < 256 := by have := b.toNat_lt; omega
            have hb0 : 0 ≤ (b.toNat : Int) := by omega
            have hn248 : (n : Int) < 248 := by omega
            clear hb
            go_wp2
            go_roundw
            case rel => exact ⟨n - 1, v / 256 ^ (n - 4), congrArg _ (by omega), congrArg _ (by rw [← HB.out]; have h := HBL.out; rw [← HB.out] at h; simp only [IntKind.wrap_u64]; omega), by omega, by omega, by rw [show n - 1 - 3 = n - 4 by omega], H⟩
            case measure => simp [intOf]; omega
      · obtain ⟨z, hz⟩ : ∃ z : Int, (v : Int) = z := ⟨_, rfl⟩
        rw [hz] at hcv
        have HZV := Lib.hid hz
        clear hz
        have hvn : i < vers.length := by omega
        have HRB := Lib.hid (le_root r v HRL.out HVL.out)
        go_upto_region 21 with (first
          | (go_at_call 20; rw [← HG.out]; go_loud ((refine (Take_ok (s := s) (H.take 7).bundle HO.out (2 + i) (by omega) (by rw [HNN.out]; omega) (by rw [HF.out (2 + i) (by omega) (by rw [HNN.out]; omega)]; exact decide_eq_false (by omega)) (fun j a b => by rw [HF.out j a (by rw [HNN.out]; omega)]; exact decide_eq_true b)).mono ?_); rintro e W ⟨rfl, s2, hs2, hto⟩; replace H := hto.front (R := [errA, rdA (some ⟨ga, offa, none⟩) (roots.map (Value.int .u32)), rdA (some ⟨gb, offb, none⟩) (vers.map (Value.int .u64))]) H; clear hto; have HF2 := Lib.hid (HF.out.turn HO.out (2 + i) hs2 (by rw [HNN.out]; omega)); have HO2 := Lib.hid hs2.ok; have HN2 := Lib.hid (hs2.n.trans HNN.out); have HG2 := Lib.hid (hs2.g.trans HG.out); clear hs2))
          | (refine wpList_load1c rfl 37 _ rfl ga (offa + i) rfl _ Tryz.underlying37 rfl (.int .u32 (r : Int)) (rdA_cell (H.at 8 rfl) HCR.out) ?_)
          | (go_at_call 21; simp only [HG.out]; rw [← HG2.out]; go_loud ((refine (SetRoot_ok (s := s2) (H.take 7).bundle HO2.out _ _ r v rfl HZV.out HRL.out HVL.out).mono ?_); rintro e W ⟨rfl, s3, hs3, hto⟩; replace H := hto.front (R := [errA, rdA (some ⟨ga, offa, none⟩) (roots.map (Value.int .u32)), rdA (some ⟨gb, offb, none⟩) (vers.map (Value.int .u64))]) H; clear hto; have HF3 := Lib.hid (HF2.out.keep HO2.out hs3); have HO3 := Lib.hid hs3.ok; have HN3 := Lib.hid (hs3.n.trans HN2.out); have HG3 := Lib.hid (hs3.g.trans HG2.out); have HV3 := Lib.hid (show s3.v 0 = rootB r v from hs3.v 0 (by rw [HN2.out]; omega)); clear hs3))
          | (go_at_call 22; simp only [HG2.out]; rw [← HG3.out]; go_loud ((refine (Root_ok (s := s3) (H.take 7).bundle HO3.out).mono ?_); rintro e W ⟨rfl, hto⟩; replace H := hto.front (R := [errA, rdA (some ⟨ga, offa, none⟩) (roots.map (Value.int .u32)), rdA (some ⟨gb, offb, none⟩) (vers.map (Value.int .u64))]) H; clear hto; rw [HV3.out, HRB.out.1, HRB.out.2, HZV.out]))
          | (go_at_call 23; go_loud ((refine (rd_TX (s := s3) (H.take 7).bundle HO3.out _ 0 rfl (by rw [HN3.out]; omega)).mono ?_); rintro e W ⟨gc, off, cap, rfl, _, hcap, hgc, hto⟩; replace H := hto.front2 (R := [errA, rdA (some ⟨ga, offa, none⟩) (roots.map (Value.int .u32)), rdA (some ⟨gb, offb, none⟩) (vers.map (Value.int .u64))]) H; clear hto; rw [HV3.out] at H)))
        obtain ⟨b0, hb0⟩ : ∃ b, (r / 256 ^ 0 % 256).toUInt8 = b := ⟨_, rfl⟩
        obtain ⟨b1, hb1⟩ : ∃ b, (r / 256 ^ 1 % 256).toUInt8 = b := ⟨_, rfl⟩
        obtain ⟨b2, hb2⟩ : ∃ b, (r / 256 ^ 2 % 256).toUInt8 = b := ⟨_, rfl⟩
        obtain ⟨b3, hb3⟩ : ∃ b, (r / 256 ^ 3 % 256).toUInt8 = b := ⟨_, rfl⟩
        have HC0 := Lib.hid (show (rootB r v)[0]? = some b0 by rw [← hb0]; exact rootB_r r v 0 (by omega))
        have HC1 := Lib.hid (show (rootB r v)[1]? = some b1 by rw [← hb1]; exact rootB_r r v 1 (by omega))
        have HC2 := Lib.hid (show (rootB r v)[2]? = some b2 by rw [← hb2]; exact rootB_r r v 2 (by omega))
        have HC3 := Lib.hid (show (rootB r v)[3]? = some b3 by rw [← hb3]; exact rootB_r r v 3 (by omega))
        have HQ := Lib.hid (show b0.toNat + b1.toNat * 256 + b2.toNat * 65536 + b3.toNat * 16777216 = r by rw [← hb0, ← hb1, ← hb2, ← hb3]; simp only [Lib.toUInt8_mod]; exact quad r HRL.out)
        have l0 : (b0.toNat : Int) < 256 := by have := b0.toNat_lt; omega
        have l1 : (b1.toNat : Int) < 256 := by have := b1.toNat_lt; omega
        have l2 : (b2.toNat : Int) < 256 := by have := b2.toNat_lt; omega
        have l3 : (b3.toNat : Int) < 256 := by have := b3.toNat_lt; omega
        have m0 : 0 ≤ (b0.toNat : Int) := by omega
        have m1 : 0 ≤ (b1.toNat : Int) := by omega
        have m2 : 0 ≤ (b2.toNat : Int) := by omega
        have m3 : 0 ≤ (b3.toNat : Int) := by omega
        clear hb0 hb1 hb2 hb3
        replace H := H.drew
        refine wp_region_held_drew (S := fun w' => BytesAt w' gc off (rootB r v)) (by kernel_rfl) (ownB_bytes (H.at 10 rfl)) (fun hHeld => ?_)
        (refine wpAnyH_take (i := 0) (v := ?_) rfl (by kernel_rfl) (by kernel_rfl) (by kernel_rfl) (fun _ _ _ h => h) (Or.inl ⟨by rfl, ?_⟩) (by assumption) ?_; rotate_left; focus (intro w hSw; (try dsimp only at hSw); go_simp; all_goals (with_reducible rfl))); (try simp only [Act.put, List.setIfInBounds_toArray, List.set_cons_zero, List.set_cons_succ, List.getElem_toArray, List.getElem_cons_succ, List.getElem_cons_zero])
        (refine wpAnyH_take (i := 1) (v := ?_) rfl (by kernel_rfl) (by kernel_rfl) (by kernel_rfl) (fun _ _ _ h => h) (Or.inl ⟨by rfl, ?_⟩) (by assumption) ?_; rotate_left; focus (intro w hSw; (try dsimp only at hSw); go_simp; all_goals (with_reducible rfl))); (try simp only [Act.put, List.setIfInBounds_toArray, List.set_cons_zero, List.set_cons_succ, List.getElem_toArray, List.getElem_cons_succ, List.getElem_cons_zero])
        (refine wpAnyH_take (i := 2) rfl (by kernel_rfl) (by kernel_rfl) (by kernel_rfl) (fun _ _ _ h => h) ((yieldsIf_load1 (by rfl) 5 _ rfl _ _ (by rfl) _ Tryz.underlying5 rfl _ (fun w h => (h.cellv HC0.out)))) (by assumption) ?_); (try simp only [Act.put, List.setIfInBounds_toArray, List.set_cons_zero, List.set_cons_succ, List.getElem_toArray, List.getElem_cons_succ, List.getElem_cons_zero])
        (refine wpAnyH_take (i := 3) (v := ?_) rfl (by kernel_rfl) (by kernel_rfl) (by kernel_rfl) (fun _ _ _ h => h) (Or.inl ⟨by rfl, ?_⟩) (by assumption) ?_; rotate_left; focus (intro w hSw; (try dsimp only at hSw); go_simp; all_goals (with_reducible rfl))); (try simp only [Act.put, List.setIfInBounds_toArray, List.set_cons_zero, List.set_cons_succ, List.getElem_toArray, List.getElem_cons_succ, List.getElem_cons_zero])
        (refine wpAnyH_take (i := 4) (v := ?_) rfl (by kernel_rfl) (by kernel_rfl) (by kernel_rfl) (fun _ _ _ h => h) (Or.inl ⟨by rfl, ?_⟩) (by assumption) ?_; rotate_left; focus (intro w hSw; (try dsimp only at hSw); go_simp; all_goals (with_reducible rfl))); (try simp only [Act.put, List.setIfInBounds_toArray, List.set_cons_zero, List.set_cons_succ, List.getElem_toArray, List.getElem_cons_succ, List.getElem_cons_zero])
        (refine wpAnyH_take (i := 5) (v := ?_) rfl (by kernel_rfl) (by kernel_rfl) (by kernel_rfl) (fun _ _ _ h => h) (Or.inl ⟨by rfl, ?_⟩) (by assumption) ?_; rotate_left; focus (intro w hSw; (try dsimp only at hSw); go_simp; all_goals (with_reducible rfl))); (try simp only [Act.put, List.setIfInBounds_toArray, List.set_cons_zero, List.set_cons_succ, List.getElem_toArray, List.getElem_cons_succ, List.getElem_cons_zero])
        (refine wpAnyH_take (i := 6) rfl (by kernel_rfl) (by kernel_rfl) (by kernel_rfl) (fun _ _ _ h => h) ((yieldsIf_load1 (by rfl) 5 _ rfl _ _ (by rfl) _ Tryz.underlying5 rfl _ (fun w h => (h.cellv HC1.out)))) (by assumption) ?_); (try simp only [Act.put, List.setIfInBounds_toArray, List.set_cons_zero, List.set_cons_succ, List.getElem_toArray, List.getElem_cons_succ, List.getElem_cons_zero])
        (refine wpAnyH_take (i := 7) (v := ?_) rfl (by kernel_rfl) (by kernel_rfl) (by kernel_rfl) (fun _ _ _ h => h) (Or.inl ⟨by rfl, ?_⟩) (by assumption) ?_; rotate_left; focus (intro w hSw; (try dsimp only at hSw); go_simp; all_goals (with_reducible rfl))); (try simp only [Act.put, List.setIfInBounds_toArray, List.set_cons_zero, List.set_cons_succ, List.getElem_toArray, List.getElem_cons_succ, List.getElem_cons_zero])
        (refine wpAnyH_take (i := 8) (v := ?_) rfl (by kernel_rfl) (by kernel_rfl) (by kernel_rfl) (fun _ _ _ h => h) (Or.inl ⟨by rfl, ?_⟩) (by assumption) ?_; rotate_left; focus (intro w hSw; (try dsimp only at hSw); go_simp; all_goals (with_reducible rfl))); (try simp only [Act.put, List.setIfInBounds_toArray, List.set_cons_zero, List.set_cons_succ, List.getElem_toArray, List.getElem_cons_succ, List.getElem_cons_zero])
        (refine wpAnyH_take (i := 9) (v := ?_) rfl (by kernel_rfl) (by kernel_rfl) (by kernel_rfl) (fun _ _ _ h => h) (Or.inl ⟨by rfl, ?_⟩) (by assumption) ?_; rotate_left; focus (intro w hSw; (try dsimp only at hSw); go_simp; all_goals (with_reducible rfl))); (try simp only [Act.put, List.setIfInBounds_toArray, List.set_cons_zero, List.set_cons_succ, List.getElem_toArray, List.getElem_cons_succ, List.getElem_cons_zero])
        (refine wpAnyH_take (i := 10) (v := ?_) rfl (by kernel_rfl) (by kernel_rfl) (by kernel_rfl) (fun _ _ _ h => h) (Or.inl ⟨by rfl, ?_⟩) (by assumption) ?_; rotate_left; focus (intro w hSw; (try dsimp only at hSw); go_simp; all_goals (with_reducible rfl))); (try simp only [Act.put, List.setIfInBounds_toArray, List.set_cons_zero, List.set_cons_succ, List.getElem_toArray, List.getElem_cons_succ, List.getElem_cons_zero])
        (refine wpAnyH_take (i := 11) (v := ?_) rfl (by kernel_rfl) (by kernel_rfl) (by kernel_rfl) (fun _ _ _ h => h) (Or.inl ⟨by rfl, ?_⟩) (by assumption) ?_; rotate_left; focus (intro w hSw; (try dsimp only at hSw); go_simp; all_goals (with_reducible rfl))); (try simp only [Act.put, List.setIfInBounds_toArray, List.set_cons_zero, List.set_cons_succ, List.getElem_toArray, List.getElem_cons_succ, List.getElem_cons_zero])
        (refine wpAnyH_take (i := 12) rfl (by kernel_rfl) (by kernel_rfl) (by kernel_rfl) (fun _ _ _ h => h) ((yieldsIf_load1 (by rfl) 5 _ rfl _ _ (by rfl) _ Tryz.underlying5 rfl _ (fun w h => (h.cellv HC2.out)))) (by assumption) ?_); (try simp only [Act.put, List.setIfInBounds_toArray, List.set_cons_zero, List.set_cons_succ, List.getElem_toArray, List.getElem_cons_succ, List.getElem_cons_zero])
        (refine wpAnyH_take (i := 13) (v := ?_) rfl (by kernel_rfl) (by kernel_rfl) (by kernel_rfl) (fun _ _ _ h => h) (Or.inl ⟨by rfl, ?_⟩) (by assumption) ?_; rotate_left; focus (intro w hSw; (try dsimp only at hSw); go_simp; all_goals (with_reducible rfl))); (try simp only [Act.put, List.setIfInBounds_toArray, List.set_cons_zero, List.set_cons_succ, List.getElem_toArray, List.getElem_cons_succ, List.getElem_cons_zero])
        (refine wpAnyH_take (i := 14) (v := ?_) rfl (by kernel_rfl) (by kernel_rfl) (by kernel_rfl) (fun _ _ _ h => h) (Or.inl ⟨by rfl, ?_⟩) (by assumption) ?_; rotate_left; focus (intro w hSw; (try dsimp only at hSw); go_simp; all_goals (with_reducible rfl))); (try simp only [Act.put, List.setIfInBounds_toArray, List.set_cons_zero, List.set_cons_succ, List.getElem_toArray, List.getElem_cons_succ, List.getElem_cons_zero])
        (refine wpAnyH_take (i := 15) (v := ?_) rfl (by kernel_rfl) (by kernel_rfl) (by kernel_rfl) (fun _ _ _ h => h) (Or.inl ⟨by rfl, ?_⟩) (by assumption) ?_; rotate_left; focus (intro w hSw; (try dsimp only at hSw); go_simp; all_goals (with_reducible rfl))); (try simp only [Act.put, List.setIfInBounds_toArray, List.set_cons_zero, List.set_cons_succ, List.getElem_toArray, List.getElem_cons_succ, List.getElem_cons_zero])
        (refine wpAnyH_take (i := 16) (v := ?_) rfl (by kernel_rfl) (by kernel_rfl) (by kernel_rfl) (fun _ _ _ h => h) (Or.inl ⟨by rfl, ?_⟩) (by assumption) ?_; rotate_left; focus (intro w hSw; (try dsimp only at hSw); go_simp; all_goals (with_reducible rfl))); (try simp only [Act.put, List.setIfInBounds_toArray, List.set_cons_zero, List.set_cons_succ, List.getElem_toArray, List.getElem_cons_succ, List.getElem_cons_zero])
        (refine wpAnyH_take (i := 17) (v := ?_) rfl (by kernel_rfl) (by kernel_rfl) (by kernel_rfl) (fun _ _ _ h => h) (Or.inl ⟨by rfl, ?_⟩) (by assumption) ?_; rotate_left; focus (intro w hSw; (try dsimp only at hSw); go_simp; all_goals (with_reducible rfl))); (try simp only [Act.put, List.setIfInBounds_toArray, List.set_cons_zero, List.set_cons_succ, List.getElem_toArray, List.getElem_cons_succ, List.getElem_cons_zero])
        (refine wpAnyH_take (i := 18) rfl (by kernel_rfl) (by kernel_rfl) (by kernel_rfl) (fun _ _ _ h => h) ((yieldsIf_load1 (by rfl) 5 _ rfl _ _ (by rfl) _ Tryz.underlying5 rfl _ (fun w h => (h.cellv HC3.out)))) (by assumption) ?_); (try simp only [Act.put, List.setIfInBounds_toArray, List.set_cons_zero, List.set_cons_succ, List.getElem_toArray, List.getElem_cons_succ, List.getElem_cons_zero])
        (refine wpAnyH_take (i := 19) (v := ?_) rfl (by kernel_rfl) (by kernel_rfl) (by kernel_rfl) (fun _ _ _ h => h) (Or.inl ⟨by rfl, ?_⟩) (by assumption) ?_; rotate_left; focus (intro w hSw; (try dsimp only at hSw); go_simp; all_goals (with_reducible rfl))); (try simp only [Act.put, List.setIfInBounds_toArray, List.set_cons_zero, List.set_cons_succ, List.getElem_toArray, List.getElem_cons_succ, List.getElem_cons_zero])
        (refine wpAnyH_take (i := 20) (v := ?_) rfl (by kernel_rfl) (by kernel_rfl) (by kernel_rfl) (fun _ _ _ h => h) (Or.inl ⟨by rfl, ?_⟩) (by assumption) ?_; rotate_left; focus (intro w hSw; (try dsimp only at hSw); go_simp; all_goals (with_reducible rfl))); (try simp only [Act.put, List.setIfInBounds_toArray, List.set_cons_zero, List.set_cons_succ, List.getElem_toArray, List.getElem_cons_succ, List.getElem_cons_zero])
        (refine wpAnyH_take (i := 21) (v := ?_) rfl (by kernel_rfl) (by kernel_rfl) (by kernel_rfl) (fun _ _ _ h => h) (Or.inl ⟨by rfl, ?_⟩) (by assumption) ?_; rotate_left; focus (intro w hSw; (try dsimp only at hSw); go_simp; all_goals (with_reducible rfl))); (try simp only [Act.put, List.setIfInBounds_toArray, List.set_cons_zero, List.set_cons_succ, List.getElem_toArray, List.getElem_cons_succ, List.getElem_cons_zero])
        (refine wpAnyH_take (i := 22) (v := ?_) rfl (by kernel_rfl) (by kernel_rfl) (by kernel_rfl) (fun _ _ _ h => h) (Or.inl ⟨by rfl, ?_⟩) (by assumption) ?_; rotate_left; focus (intro w hSw; (try dsimp only at hSw); go_simp; all_goals (with_reducible rfl))); (try simp only [Act.put, List.setIfInBounds_toArray, List.set_cons_zero, List.set_cons_succ, List.getElem_toArray, List.getElem_cons_succ, List.getElem_cons_zero])
        (refine wpAnyH_done (by kernel_rfl) ?_ _)
        clear hHeld
        go_upto_region 24 with fail
        rw [quadw _ _ _ _ _ HQ.out b0.toNat_lt b1.toNat_lt b2.toNat_lt b3.toNat_lt]
        clear l0 l1 l2 l3 m0 m1 m2 m3 HC0 HC1 HC2 HC3 HQ
        replace H : St NoBlk (fun _ => True) w _ (s3.L ++ [errA, rdA (some ⟨ga, offa, none⟩) (roots.map (Value.int .u32)), rdA (some ⟨gb, offb, none⟩) (vers.map (Value.int .u64)), ownB gc off (rootB r v)]) := H
        go_loopw [19, 20] (fun yv u wr => ∃ n q : Nat, u = .int .i64 (n : Int) ∧ yv = .int .u64 (q : Int) ∧ 3 ≤ n ∧ n ≤ 11 ∧ q = v / 256 ^ (n - 3) ∧ St NoBlk (fun _ => True) w wr (s3.L ++ [errA, rdA (some ⟨ga, offa, none⟩) (roots.map (Value.int .u32)), rdA (some ⟨gb, offb, none⟩) (vers.map (Value.int .u64)), ownB gc off (rootB r v)])) (fun _ u _ => (intOf u).toNat)
        case atStart => exact ⟨11, 0, rfl, rfl, by omega, by omega, (Nat.div_eq_of_lt (by have := HVL.out; simpa using this)).symm, H⟩
        case round =>
          clear H
          obtain ⟨n, q, rfl, rfl, hn3, hn11, hq, H⟩ := hrel
          have HQ := Lib.hid hq
          clear hq
          have hn0 : 0 ≤ (n : Int) := by omega
          have hn12 : (n : Int) ≤ 11 := by omega
          rcases Nat.lt_or_ge n 4 with hlt | hge
          · obtain rfl : n = 3 := by omega
            obtain rfl : q = v := by have := HQ.out; simpa using this
            have hvz := HZV.out
            go_wp2
            simp only [HG3.out]
            go_roundw
            case rel => exact ⟨i + 1, s3, congrArg _ (by omega), by have := HI.out; omega, HG3.out, HN3.out, HO3.out, fun k a b => by
              rw [HF3.out k a b]
              show (if k = 2 + i then !decide (k < 2 + i) else decide (k < 2 + i)) = decide (k < 2 + (i + 1))
              by_cases e : k = 2 + i
              · subst e; simp
              · rw [if_neg e]; by_cases e2 : k < 2 + i
                · rw [decide_eq_true e2, decide_eq_true (by omega)]
                · rw [decide_eq_false e2, decide_eq_false (by omega)], H.take 10⟩
            case measure => have := HI.out; simp [intOf]; omega
          · have hn4 : 4 ≤ (n : Int) := by omega
            obtain ⟨b, hb⟩ : ∃ b, (v / 256 ^ (n - 4) % 256).toUInt8 = b := ⟨_, rfl⟩
            have hcell := (ownB_bytes (H.at 10 rfl)).cellv (i := n) (b := b) (by rw [← hb]; have := rootB_v r v (n - 4) (by omega); rwa [show 4 + (n - 4) = n by omega] at this)
            have HB := Lib.hid (show q * 256 + b.toNat = v / 256 ^ (n - 4) by
              rw [← hb, Lib.toUInt8_mod, HQ.out, show n - 3 = (n - 4) + 1 by omega, Nat.pow_succ, ← Nat.div_div_eq_div_mul]; omega)
            have HBL := Lib.hid (Nat.lt_of_le_of_lt (Nat.div_le_self v (256 ^ (n - 4))) HVL.out)
            have hbl : (b.toNat : Int) < 256 := by have := b.toNat_lt; omega
            have hb0 : 0 ≤ (b.toNat : Int) := by omega
            have hn248 : (n : Int) < 248 := by omega
            clear hb
            go_wp2
            go_roundw
            case rel => exact ⟨n - 1, v / 256 ^ (n - 4), congrArg _ (by omega), congrArg _ (by rw [← HB.out]; have h := HBL.out; rw [← HB.out] at h; simp only [IntKind.wrap_u64]; omega), by omega, by omega, by rw [show n - 1 - 3 = n - 4 by omega], H⟩
            case measure => simp [intOf]; omega
    · obtain rfl : i = roots.length := by omega
      have hii : ¬ ((roots.length : Int) < (roots.length : Int)) := by omega
      go_wp2
      go_ret
      exact ⟨rfl, H.fix.below⟩

theorem spaceRoots_calls (p0 : Option Addr) (c0 : Nat) (roots : List Int) (p1 : Option Addr) (c1 : Nat) (vers : List Int) (w : World)
    (hr : ∀ z ∈ roots, 0 ≤ z ∧ z ≤ 4294967295) (hv : ∀ z ∈ vers, 0 ≤ z ∧ z ≤ 18446744073709551615) (hg : errA.prop w) (ha : (rdA p0 (roots.map (Value.int .u32))).prop w) (hb : (rdA p1 (vers.map (Value.int .u64))).prop w) :
    Calls Tryz.prog 3 #[.slice p0 roots.length c0, .slice p1 vers.length c1] w fun e w' => e = .returned (.bool true) ∧ Below w.heap.size w w' := by
  by_cases h1 : roots.length ≤ 20
  · by_cases h2 : vers.length ≤ 20
    · exact spaceRoots_short p0 c0 roots p1 c1 vers w h1 h2 hr hv hg ha hb
    · have H := St.err hg
      have hc0 : ¬ (20 < (roots.length : Int)) := by omega
      have hc : 20 < (vers.length : Int) := by omega
      clear h1 h2 hr hv ha hb hg
      go_enter Tryz.func3, Tryz.ntmps3
      go_wp2_with (first
        | (go_at_call 16; go_loud ((refine (begun20_calls _ (H.at 0 rfl)).mono ?_); rintro e W ⟨rfl, hb⟩; replace H := H.stay (Fix.of_below hb _); clear hb)))
      go_ret
      exact ⟨rfl, H.fix.below⟩
  · have H := St.err hg
    have hc : 20 < (roots.length : Int) := by omega
    clear h1 hr hv ha hb hg
    go_enter Tryz.func3, Tryz.ntmps3
    go_wp2_with (first
      | (go_at_call 16; go_loud ((refine (begun20_calls _ (H.at 0 rfl)).mono ?_); rintro e W ⟨rfl, hb⟩; replace H := H.stay (Fix.of_below hb _); clear hb)))
    go_ret
    exact ⟨rfl, H.fix.below⟩

end Go.Proofs.YtphpegnfcelagaaGreatDoor
