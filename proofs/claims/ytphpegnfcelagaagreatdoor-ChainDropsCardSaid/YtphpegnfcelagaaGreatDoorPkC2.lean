/- Texts of this proof, packed: ChainFull and what follows it. -/
import Derived.Test.YtphpegnfcelagaaGreatDoorPkC1

namespace Go.Proofs.YtphpegnfcelagaaGreatDoor
open Go.RowKit
set_option linter.unusedSimpArgs false
set_option linter.unusedVariables false
set_option maxRecDepth 40000

set_option maxHeartbeats 4000000 in
theorem chainFull_calls (size : Int) (sec : UInt8) (w : World) (hs0 : 0 ≤ size) (hs1 : size ≤ 65535) (hg : errA.prop w) :
    Calls Tryz.prog 12 #[.int .u16 size, .int .u8 (sec.toNat : Int)] w fun e w' => e = .returned (.bool true) ∧ Below w.heap.size w w' := by
  have H := St.err hg
  clear hg
  obtain ⟨m, hm, hm2⟩ : ∃ m : Nat, ((sec.toNat : Int)).tmod 40 = (m : Int) ∧ m < 40 := ⟨sec.toNat % 40, by rw [Int.tmod_eq_emod_of_nonneg (by omega)]; omega, by omega⟩
  obtain ⟨q, hq, hq2⟩ : ∃ q : Nat, size.tmod 9681 = (q : Int) ∧ q < 9681 := ⟨(size % 9681).toNat, by rw [Int.tmod_eq_emod_of_nonneg (by omega)]; omega, by omega⟩
  have hmi : (m : Int) < 40 := by omega
  have hm0 : 0 ≤ (m : Int) := by omega
  have hsb : (sec.toNat : Int) < 256 := by have := sec.toNat_lt; omega
  have hsb0 : 0 ≤ (sec.toNat : Int) := by omega
  have hqi : (q : Int) < 9681 := by omega
  have hq0 : 0 ≤ (q : Int) := by omega
  obtain ⟨n, hn⟩ : ∃ n, 10 + m = n := ⟨_, rfl⟩
  have HN := Lib.hid (show 10 ≤ n ∧ n ≤ 49 by omega)
  have HNM := Lib.hid (show ((n + 26 : Nat) : Int) = 36 + (m : Int) by omega)
  have HQ := Lib.hid hq2
  obtain ⟨lf, hlf⟩ : ∃ lf : Nat, n - 2 = lf := ⟨_, rfl⟩
  have HLF := Lib.hid (show leftOf newB n = lf by rw [leftOf_new n (by omega), hlf])
  obtain ⟨lc, hlc⟩ : ∃ lc : Nat, longC q = lc := ⟨_, rfl⟩
  have HLC := Lib.hid hlc
  have hlf9 : (lf : Int) < 50 := by omega
  clear hn hm2 hq2 hlf hlc
  by_cases hroom : lc ≤ lf
  · have HRO := Lib.hid hroom
    have hri : (lc : Int) ≤ (lf : Int) := by omega
    go_enter Tryz.func12, Tryz.ntmps12
    go_wp2_with (first
      | (go_at_call 37; go_loud ((refine (begun22_calls _ (H.at 0 rfl)).mono ?_); rintro e W ⟨rfl, hb⟩; replace H := H.stay (Fix.of_below hb _); clear hb))
      | (go_at_call 40; go_loud ((refine (new21_calls H _ (n + 26) n HNM.out rfl (by have := HN.out; omega) (by have := HN.out; omega)).mono ?_); clear H; rintro e W ⟨s, rfl, hnew, H⟩; have HS := Lib.hid hnew; clear hnew))
      | (refine wpList_make2_st H rfl 40 _ _ rfl _ Tryz.underlying40 _ _ info_u8 rfl q q rfl rfl (by omega) (by have := HQ.out; omega) (by have := HQ.out; simp only [maxLen]; omega) ?_; clear H; intro W gz H; rw [show List.replicate q (Value.int .u8 0) = byteV (List.replicate q 0) by simp [byteV]] at H; replace H : St _ _ w _ (s.L ++ [errA, blk gz (.cells (byteV (List.replicate q 0)).toArray 5 (0, 0))]) := H; replace H := St.swap (A := s.L) (E := [errA]) (R := [blk gz (.cells (byteV (List.replicate q 0)).toArray 5 (0, 0))]) H)
      | (go_at_call 26; go_loud ((refine (Left_ok (s := s) (H.take 7).bundle HS.out.ok).mono ?_); rintro e W ⟨rfl, hto⟩; replace H := hto.front (R := [blk gz (.cells (byteV (List.replicate q 0)).toArray 5 (0, 0)), errA]) H; clear hto; rw [HS.out.v1, HS.out.cnt, HLF.out]))
      | (go_at_call 43; go_loud ((refine (Put_ok (s := s) (B := blk gz (.cells (byteV (List.replicate q 0)).toArray 5 (0, 0))) (bs := List.replicate q 0) (n := q) H.bundle HS.out.ok (fun W h => blk_rd h) List.length_replicate (Nat.le_refl _) (by have := HQ.out; omega) (by rw [HS.out.v1, HS.out.cnt, HLF.out, HLC.out]; exact HRO.out)).mono ?_); rintro e W ⟨hs, hhs, rfl, s1, hs1, hto⟩; replace H := hto.front (R := []) (by rw [List.append_nil]; exact H); clear hto))
      | (go_at_call 39; go_loud ((refine (refLong_calls _ q (by omega) (by omega) (by have := HQ.out; omega) _).mono ?_); rintro e W' ⟨rfl, rfl⟩; rw [HLC.out])))
    go_ret
    exact ⟨rfl, H.fix.below⟩
  · have HRO := Lib.hid (show lf < lc by omega)
    have hri : ¬ ((lc : Int) ≤ (lf : Int)) := by omega
    go_enter Tryz.func12, Tryz.ntmps12
    go_wp2_with (first
      | (go_at_call 37; go_loud ((refine (begun22_calls _ (H.at 0 rfl)).mono ?_); rintro e W ⟨rfl, hb⟩; replace H := H.stay (Fix.of_below hb _); clear hb))
      | (go_at_call 40; go_loud ((refine (new21_calls H _ (n + 26) n HNM.out rfl (by have := HN.out; omega) (by have := HN.out; omega)).mono ?_); clear H; rintro e W ⟨s, rfl, hnew, H⟩; have HS := Lib.hid hnew; clear hnew))
      | (refine wpList_make2_st H rfl 40 _ _ rfl _ Tryz.underlying40 _ _ info_u8 rfl q q rfl rfl (by omega) (by have := HQ.out; omega) (by have := HQ.out; simp only [maxLen]; omega) ?_; clear H; intro W gz H; rw [show List.replicate q (Value.int .u8 0) = byteV (List.replicate q 0) by simp [byteV]] at H; replace H : St _ _ w _ (s.L ++ [errA, blk gz (.cells (byteV (List.replicate q 0)).toArray 5 (0, 0))]) := H; replace H := St.swap (A := s.L) (E := [errA]) (R := [blk gz (.cells (byteV (List.replicate q 0)).toArray 5 (0, 0))]) H)
      | (go_at_call 26; go_loud ((refine (Left_ok (s := s) (H.take 7).bundle HS.out.ok).mono ?_); rintro e W ⟨rfl, hto⟩; replace H := hto.front (R := [blk gz (.cells (byteV (List.replicate q 0)).toArray 5 (0, 0)), errA]) H; clear hto; rw [HS.out.v1, HS.out.cnt, HLF.out]))
      | (go_at_call 43; go_loud ((refine (Put_full (s := s) (B := blk gz (.cells (byteV (List.replicate q 0)).toArray 5 (0, 0))) (bs := List.replicate q 0) (n := q) H.bundle HS.out.ok (fun W h => blk_rd h) List.length_replicate (Nat.le_refl _) (by have := HQ.out; omega) (by rw [HS.out.v1, HS.out.cnt, HLF.out, HLC.out]; exact HRO.out)).mono ?_); rintro e W ⟨rfl, s1, v1, hs1, hv1, hto⟩; replace H := hto.front (R := []) (by rw [List.append_nil]; exact H); clear hto))
      | (go_at_call 39; go_loud ((refine (refLong_calls _ q (by omega) (by omega) (by have := HQ.out; omega) _).mono ?_); rintro e W' ⟨rfl, rfl⟩; rw [HLC.out])))
    go_ret
    exact ⟨rfl, H.fix.below⟩

end Go.Proofs.YtphpegnfcelagaaGreatDoor

namespace Go.Proofs.YtphpegnfcelagaaGreatDoor
open Go.RowKit
set_option linter.unusedSimpArgs false
set_option linter.unusedVariables false
set_option maxRecDepth 40000

/-- Which are taken behind j that were freed. -/
theorem hasB_turnsT {l : List UInt8} (hl : l.length = 248) : ∀ (hs : List Nat), hs.Nodup → (∀ h ∈ hs, 2 ≤ h ∧ h < 1984 ∧ hasB l h = true) → ∀ k, 2 ≤ k → hasB (turnsB l hs) k = (hasB l k && !decide (k ∈ hs)) := by
  intro hs
  induction hs generalizing l with
  | nil => intro _ _ k _; simp [turnsB]
  | cons h hs ih =>
    intro hnd hall k hk
    have hh := hall h List.mem_cons_self
    have hnd' := List.nodup_cons.1 hnd
    show hasB (turnsB (turnB l h) hs) k = _
    rw [ih (by rw [turnB_len]; exact hl) hnd'.2 (fun q hq => by
      have hq2 := hall q (List.mem_cons_of_mem _ hq)
      refine ⟨hq2.1, hq2.2.1, ?_⟩
      rw [hasB_turn hl hh.2.1 hq2.1, if_neg (fun e : q = h => hnd'.1 (e ▸ hq))]
      exact hq2.2.2) k hk]
    rw [hasB_turn hl hh.2.1 hk]
    by_cases e : k = h
    · subst e
      rw [if_pos rfl, hh.2.2]
      simp
    · rw [if_neg e]
      simp [e]

theorem walkC_congr {v v' : Nat → List UInt8} {n : Nat} (h : ∀ k, 2 ≤ k → k < n → v' k = v k) : ∀ fuel next hs bs, walkC v' n fuel next hs bs = walkC v n fuel next hs bs
  | 0, next, hs, bs => rfl
  | f + 1, next, hs, bs => by
    rw [walkC, walkC]
    by_cases h0 : next = 0
    · rw [if_pos h0, if_pos h0]
    · rw [if_neg h0, if_neg h0]
      by_cases h1 : next < 2 ∨ n ≤ next
      · rw [if_pos h1, if_pos h1]
      · rw [if_neg h1, if_neg h1, h next (by omega) (by omega), walkC_congr h f]

set_option maxHeartbeats 4000000 in
theorem Drop_ok {w : World} {s : TX} {c : Nat} (hb : Bundle w s.L) (h : s.Ok c) (z : Int) (first : Nat) (hz : (first : Int) = z) (hlt : first < 4294967296) (h2 : 2 ≤ first) (hn : first < s.n) {hs : List Nat} {bs : List UInt8} (hR : walkC s.v s.n 40 first [] [] = some (hs, bs))
    (hl40 : hs.length ≤ 40) (hnd : hs.Nodup) (hall : ∀ k ∈ hs, 2 ≤ k ∧ k < s.n ∧ hasB (s.v 1) k = true) :
    Calls Tryz.prog 45 #[.pointer (some ⟨s.g, 0, none⟩), .int .u32 z] w fun e w' => e = .returned (.int .i64 0) ∧ ∃ s', s.To s' c (takV s.V hs hs.length) ∧ BunTo w (ownL s.L) (rdL s.L) s'.L w' := by
  have HG := Lib.hid (gets_some hb h z first hz hlt h2 hn hR)
  have H := hb.open_
  obtain ⟨O, hO⟩ : ∃ O, ownL s.L = O := ⟨_, rfl⟩
  obtain ⟨R0, hR0⟩ : ∃ R, rdL s.L = R := ⟨_, rfl⟩
  rw [hO, hR0] at H HG ⊢
  have HNN := Lib.hid h.nn
  have HO := Lib.hid h
  have HLL := Lib.hid (show (s.v 1).length = 248 from h.lens 1 (by have := h.nn; omega))
  have HND := Lib.hid hnd
  have HALL := Lib.hid hall
  have hhl : (hs.length : Int) ≤ 40 := by omega
  clear hb h hlt h2 hn hR hz hO hR0 hnd hall hl40
  go_enter Tryz.func45, Tryz.ntmps45
  go_upto_region 5 with (first
    | (go_at_call 76; go_loud ((refine HG.out.mono ?_); rintro e W ⟨p1, c1, p2, c2, rfl, hto⟩; clear H; have H := hto.st; clear hto)))
  replace H : St O R0 w W (s.L ++ [ownS 3 1 p1 hs.length c1 (intsV hs)]) := H.take 8
  go_loopw [24] (fun u wr => ∃ (j : Nat) (s1 : TX), u = .int .i64 (j : Int) ∧ j ≤ hs.length ∧ s.To s1 c (takV s.V hs j) ∧ St O R0 w wr (s1.L ++ [ownS 3 1 p1 hs.length c1 (intsV hs)])) (fun u _ => hs.length - (intOf u).toNat)
  case atStart => exact ⟨0, s, rfl, Nat.zero_le _, ⟨HO.out, rfl, rfl, rfl, fun k _ => (takV_zero s.V hs k).symm⟩, H⟩
  case round =>
    clear H HG
    obtain ⟨j, s1, rfl, hj, hto1, H⟩ := hrel
    have HT := Lib.hid hto1
    have HGG := Lib.hid hto1.g
    have hj0 : 0 ≤ (j : Int) := by omega
    rcases Nat.lt_or_ge j hs.length with hlt | hge
    · have hji : (j : Int) < (hs.length : Int) := by omega
      obtain ⟨x, hx⟩ : ∃ x, hs[j]? = some x := ⟨_, List.getElem?_eq_getElem hlt⟩
      obtain ⟨hxl, hxe⟩ := List.getElem?_eq_some_iff.1 hx
      obtain ⟨gq, oq, rfl, hcell⟩ := rdA_at (ownS_rd (H.at 7 rfl)) (i := j) (x := .int .i64 (x : Int)) (by simp [intsV, hx])
      have hx3 := HALL.out x (List.mem_of_getElem? hx)
      have HX2 := Lib.hid hx3.1
      have HX3 := Lib.hid (show x < s1.n by rw [HT.out.n]; exact hx3.2.1)
      have HX4 := Lib.hid (show hasB (s1.v 1) x = true by
        rw [HT.out.v 1 (by have := HNN.out; omega)]
        unfold takV
        rw [if_pos rfl]
        show hasB (turnsB (s.v 1) (hs.take j)) x = true
        rw [hasB_turnsT HLL.out (hs.take j) (HND.out.sublist (List.take_sublist _ _)) (fun q hq => by
          have hq3 := HALL.out q (List.mem_of_mem_take hq)
          have := HNN.out
          exact ⟨hq3.1, by omega, hq3.2.2⟩) x hx3.1, hx3.2.2, decide_eq_false, Bool.not_false, Bool.and_self]
        intro hmem
        obtain ⟨q, hq, e⟩ := List.mem_iff_getElem.1 hmem
        rw [List.length_take] at hq
        rw [List.getElem_take] at e
        exact absurd (e.trans hxe.symm) (List.pairwise_iff_getElem.1 HND.out q j (by omega) hxl (by omega)))
      have HSTEP := Lib.hid (show ∀ s2 : TX, s1.To s2 c (updV s1.V 1 (turnB (s1.v 1) x)) → s.To s2 c (takV s.V hs (j + 1)) from fun s2 h2 => HT.out.then 1 _ h2 (fun k hk => by
        rw [← takV_step s.V hs j hxl k, hxe]
        have : (takV s.V hs j 1).1 = s1.v 1 := (HT.out.v 1 (by have := HNN.out; omega)).symm
        rw [this]))
      have HJ := Lib.hid hlt
      have hx0 : 0 ≤ (x : Int) := by omega
      clear hx hxl hxe hx3 hlt hj hto1
      go_wp2_with (first
        | (go_at_call 25; rw [← HGG.out]; go_loud ((refine (Free_okS (s := s1) (H.take 7).bundle HT.out.ok _ x rfl HX2.out HX3.out HX4.out).mono ?_); rintro e W ⟨rfl, s2, hs2, hto⟩; replace H := hto.front (R := [ownS 3 1 (some ⟨gq, oq, none⟩) hs.length c1 (intsV hs)]) H; clear hto)))
      simp only [HGG.out]
      go_roundw
      case rel => exact ⟨j + 1, s2, congrArg _ (by omega), HJ.out, HSTEP.out s2 hs2, H⟩
      case measure => have := HJ.out; simp [intOf]; omega
    · obtain rfl : j = hs.length := by omega
      have hji : ¬ ((hs.length : Int) < (hs.length : Int)) := by omega
      clear hto1
      go_wp2
      go_ret
      exact ⟨rfl, s1, HT.out, St.bunTo (H.take 7)⟩

set_option maxHeartbeats 4000000 in
theorem Drop_no {w : World} {s : TX} {c : Nat} (hb : Bundle w s.L) (h : s.Ok c) (z : Int) (first : Nat) (hz : (first : Int) = z) (hlt : first < 4294967296) (h2 : 2 ≤ first) (hn : first < s.n) {hs : List Nat} {bs : List UInt8} (hR : walkC s.v s.n 40 first [] [] = some (hs, bs))
    (x : Nat) (hx : hs[0]? = some x) (hl40 : hs.length ≤ 40) (hno : hasB (s.v 1) x = false) :
    Calls Tryz.prog 45 #[.pointer (some ⟨s.g, 0, none⟩), .int .u32 z] w fun e w' => e = .returned (.int .i64 1) ∧ BunTo w (ownL s.L) (rdL s.L) s.L w' := by
  have HG := Lib.hid (gets_some hb h z first hz hlt h2 hn hR)
  have H := hb.open_
  obtain ⟨O, hO⟩ : ∃ O, ownL s.L = O := ⟨_, rfl⟩
  obtain ⟨R0, hR0⟩ : ∃ R, rdL s.L = R := ⟨_, rfl⟩
  rw [hO, hR0] at H HG ⊢
  have HO := Lib.hid h
  have HX := Lib.hid hx
  have HNO := Lib.hid hno
  have hl0 : 0 < hs.length := (List.getElem?_eq_some_iff.1 hx).1
  have hl1 : 0 < (hs.length : Int) := by omega
  have hhl : (hs.length : Int) ≤ 40 := by omega
  have hx0 : 0 ≤ (x : Int) := by omega
  clear hb h hlt h2 hn hR hz hO hR0 hx hno hl40
  go_enter Tryz.func45, Tryz.ntmps45
  go_upto_region 5 with (first
    | (go_at_call 76; go_loud ((refine HG.out.mono ?_); rintro e W ⟨p1, c1, p2, c2, rfl, hto⟩; clear H; have H := hto.st; clear hto)))
  replace H : St O R0 w W (s.L ++ [ownS 3 1 p1 hs.length c1 (intsV hs)]) := H.take 8
  obtain ⟨gq, oq, rfl, _⟩ := rdA_at (ownS_rd (H.at 7 rfl)) (i := 0) (x := .int .i64 (x : Int)) (by simp [intsV, HX.out])
  go_loopw [24] (fun u wr => u = .int .i64 0 ∧ St O R0 w wr (s.L ++ [ownS 3 1 (some ⟨gq, oq, none⟩) hs.length c1 (intsV hs)])) (fun _ _ => 1)
  case atStart => exact ⟨rfl, H⟩
  case round =>
    clear H HG
    obtain ⟨rfl, H⟩ := hrel
    have hcell := rdA_cell (ownS_rd (H.at 7 rfl)) (i := 0) (x := .int .i64 (x : Int)) (by simp [intsV, HX.out])
    rw [Nat.add_zero] at hcell
    go_wp2_with (first
      | (go_at_call 25; go_loud ((refine (Free_noS (s := s) (H.take 7).bundle HO.out _ (.inr (.inr (by simpa using HNO.out)))).mono ?_); rintro e W ⟨rfl, hto⟩; replace H := hto.front (R := [ownS 3 1 (some ⟨gq, oq, none⟩) hs.length c1 (intsV hs)]) H; clear hto)))
    go_ret
    exact ⟨rfl, St.bunTo (H.take 7)⟩

end Go.Proofs.YtphpegnfcelagaaGreatDoor

namespace Go.Proofs.YtphpegnfcelagaaGreatDoor
open Go.RowKit
set_option linter.unusedSimpArgs false
set_option linter.unusedVariables false
set_option maxRecDepth 40000

/-- What Put leaves. -/
theorem put_facts {s s' : TX} {c : Nat} {hs : List Nat} {bs : List UInt8} (h : s.Ok c) (hhs : hs = (freeL (s.v 1) s.n).take (longC bs.length)) (hroom : longC bs.length ≤ leftOf (s.v 1) s.n)
    (hs' : s.To s' c (linksV (takV s.V hs (longC bs.length)) hs bs (longC bs.length))) :
    hs.length = longC bs.length ∧ hs.Nodup ∧ (∀ k, k ∈ hs → 2 ≤ k ∧ k < s.n ∧ hasB (s.v 1) k = false) ∧ s'.v 1 = turnsB (s.v 1) hs ∧ (∀ k, 2 ≤ k → k < s.n → k ∉ hs → s'.v k = s.v k) ∧
      (∀ k, 2 ≤ k → k < s.n → hasB (s'.v 1) k = (hasB (s.v 1) k || decide (k ∈ hs))) := by
  have hlen : hs.length = longC bs.length := by rw [hhs, List.length_take, ← leftOf_free]; omega
  have hnd : hs.Nodup := by rw [hhs]; exact (nodup_of_sorted (freeL_sorted _ _)).sublist (List.take_sublist _ _)
  have hr : ∀ k, k ∈ hs → 2 ≤ k ∧ k < s.n ∧ hasB (s.v 1) k = false := fun k hk => by
    rw [hhs] at hk
    exact freeL_lt (List.mem_of_mem_take hk)
  have hnn := h.nn
  have h1 : s'.v 1 = turnsB (s.v 1) hs := by
    rw [hs'.v 1 (by omega)]
    unfold linksV
    rw [if_neg (fun x => by have := (hr 1 x.2).1; omega)]
    unfold takV
    rw [if_pos rfl]
    show turnsB (s.v 1) (hs.take _) = _
    rw [List.take_of_length_le (by omega)]
  refine ⟨hlen, hnd, hr, h1, fun k h2 hk hm => ?_, fun k h2 hk => ?_⟩
  · rw [hs'.v k hk]
    unfold linksV
    rw [if_neg (fun x => hm x.2)]
    unfold takV
    rw [if_neg (by omega)]; rfl
  · rw [h1]
    exact hasB_turns (h.lens 1 (by omega)) hs hnd (fun q hq => by have := hr q hq; exact ⟨by omega, this.2.2⟩) k h2

theorem drop_facts {s s' : TX} {c : Nat} {hs : List Nat} (h : s.Ok c) (hnd : hs.Nodup) (hall : ∀ k ∈ hs, 2 ≤ k ∧ k < s.n ∧ hasB (s.v 1) k = true) (hs' : s.To s' c (takV s.V hs hs.length)) :
    (∀ k, 2 ≤ k → k < s.n → hasB (s'.v 1) k = (hasB (s.v 1) k && !decide (k ∈ hs))) ∧ (∀ k, k ≠ 1 → k < s.n → s'.v k = s.v k) := by
  have hnn := h.nn
  refine ⟨fun k h2 hk => ?_, fun k h1 hk => ?_⟩
  · rw [hs'.v 1 (by omega)]
    unfold takV
    rw [if_pos rfl]
    show hasB (turnsB (s.v 1) (hs.take _)) k = _
    rw [List.take_length]
    exact hasB_turnsT (h.lens 1 (by omega)) hs hnd (fun q hq => by have := hall q hq; exact ⟨this.1, by omega, this.2.2⟩) k h2
  · rw [hs'.v k hk]
    unfold takV
    rw [if_neg h1]; rfl

set_option maxHeartbeats 4000000 in
theorem chainDrops_calls (size first : Int) (w : World) (hs0 : 0 ≤ size) (hs1 : size ≤ 65535) (hf0 : 0 ≤ first) (hf1 : first ≤ 4294967295) (hg : errA.prop w) :
    Calls Tryz.prog 13 #[.int .u16 size, .int .u32 first] w fun e w' => e = .returned (.bool true) ∧ Below w.heap.size w w' := by
  have H := St.err hg
  clear hg
  obtain ⟨q, hq, hq2⟩ : ∃ q : Nat, size.tmod 2000 = (q : Int) ∧ q < 2000 := ⟨(size % 2000).toNat, by rw [Int.tmod_eq_emod_of_nonneg (by omega)]; omega, by omega⟩
  have hqi : (q : Int) < 2000 := by omega
  have hq0 : 0 ≤ (q : Int) := by omega
  have HQ := Lib.hid hq2
  have HROOM := Lib.hid (show longC q ≤ 32 by unfold longC; omega)
  have HFZ := Lib.hid (show ((first.toNat : Nat) : Int) = first by omega)
  have HF9 := Lib.hid (show first.toNat < 4294967296 by omega)
  have hcase : (decide (first < 2) = true ∧ first < 2) ∨ (decide (first < 2) = false ∧ decide (34 ≤ first) = true ∧ 34 ≤ first) ∨ (decide (first < 2) = false ∧ decide (34 ≤ first) = false) := by
    by_cases h1 : first < 2
    · exact .inl ⟨decide_eq_true h1, h1⟩
    · by_cases h2 : 34 ≤ first
      · exact .inr (.inl ⟨decide_eq_false h1, decide_eq_true h2, h2⟩)
      · exact .inr (.inr ⟨decide_eq_false h1, decide_eq_false h2⟩)
  have tok1 : True := trivial
  clear hq2 hf1
  go_enter Tryz.func13, Tryz.ntmps13
  go_upto_region 7 with (first
    | (go_at_call 37; go_loud ((refine (begun22_calls _ (H.at 0 rfl)).mono ?_); rintro e W ⟨rfl, hb⟩; replace H := H.stay (Fix.of_below hb _); clear hb))
    | (go_at_call 40; go_loud ((refine (new21_calls H _ 60 34 rfl rfl (by omega) (by omega)).mono ?_); clear H; rintro e W ⟨s, rfl, hnew, H⟩; have HS := Lib.hid hnew; clear hnew))
    | (refine wpList_make2_st H rfl 40 _ _ rfl _ Tryz.underlying40 _ _ info_u8 rfl q q rfl rfl (by omega) (by have := HQ.out; omega) (by have := HQ.out; simp only [maxLen]; omega) ?_; clear H; intro W gz H; rw [show List.replicate q (Value.int .u8 0) = byteV (List.replicate q 0) by simp [byteV]] at H; replace H : St _ _ w _ (s.L ++ [errA, blk gz (.cells (byteV (List.replicate q 0)).toArray 5 (0, 0))]) := H; replace H := St.swap (A := s.L) (E := [errA]) (R := [blk gz (.cells (byteV (List.replicate q 0)).toArray 5 (0, 0))]) H)
    | (go_at_call 43; go_loud ((refine (Put_ok (s := s) (B := blk gz (.cells (byteV (List.replicate q 0)).toArray 5 (0, 0))) (bs := List.replicate q 0) (n := q) H.bundle HS.out.ok (fun W h => blk_rd h) List.length_replicate (Nat.le_refl _) (by have := HQ.out; omega) (by rw [HS.out.v1, HS.out.cnt, leftOf_new 34 (by omega)]; exact HROOM.out)).mono ?_); rintro e W ⟨hs, hhs, rfl, s1, hs1, hto⟩; replace H := hto.front (R := []) (by rw [List.append_nil]; exact H); clear hto; rw [List.append_nil] at H; replace H : St _ _ w _ (s1.L ++ [errA]) := (St.swap (A := s1.L) (E := [blk gz (.cells (byteV (List.replicate q 0)).toArray 5 (0, 0))]) (R := [errA]) H).take 8; rw [← hs1.g]; obtain ⟨x, hx⟩ : ∃ x, hs.getD 0 0 = x := ⟨_, rfl⟩; rw [hx]; have HXG := Lib.hid hx; have HHS := Lib.hid hhs; clear hx hhs)))
  have HL : (List.replicate q (0 : UInt8)).length = q := List.length_replicate
  have hrm : longC (List.replicate q (0 : UInt8)).length ≤ leftOf (s.v 1) s.n := by rw [HL, HS.out.v1, HS.out.cnt, leftOf_new 34 (by omega)]; exact HROOM.out
  have hhs' : hs = (freeL (s.v 1) s.n).take (longC (List.replicate q (0 : UInt8)).length) := by rw [HL]; exact HHS.out
  have hs1' : s.To s1 0 (linksV (takV s.V hs (longC (List.replicate q (0 : UInt8)).length)) hs (List.replicate q 0) (longC (List.replicate q (0 : UInt8)).length)) := by rw [HL]; exact hs1
  have HPR := Lib.hid (put_reads HS.out.ok hhs' hrm (by rw [HL]; have := HQ.out; omega) hs1')
  have HPF := Lib.hid (put_facts HS.out.ok hhs' hrm hs1')
  have HN1 := Lib.hid (show s1.n = 34 from hs1.n.trans HS.out.cnt)
  have HO1 := Lib.hid hs1.ok
  have HLQ := Lib.hid (show (List.replicate q (0 : UInt8)).length = q from HL)
  rw [HXG.out] at HPR
  have hx34 : x < 34 := by have := HPR.out.2.2; rw [HN1.out] at this; exact this
  have hxi : (x : Int) < 34 := by omega
  have hx0 : 0 ≤ (x : Int) := by omega
  have HX9 := Lib.hid hx34
  clear hhs' hs1 hs1' hrm HL hx34
  rcases hcase with ⟨f1, f2⟩ | ⟨f1, f2, f3⟩ | ⟨f1, f2⟩
  · have HFB := Lib.hid (show first.toNat < 2 ∨ s1.n ≤ first.toNat by omega)
    clear f2
    go_wp2_with (first
      | (go_at_call 42; go_loud ((refine (Get_bad (s := s1) (cc := 1) H.bundle (fun W hb => gets_arg hb HO1.out _ first.toNat HFZ.out HF9.out HFB.out)).mono ?_); rintro e W ⟨rfl, hto⟩; replace H := hto.front (R := []) (by rw [List.append_nil]; exact H); clear hto; rw [List.append_nil] at H))
      | (go_at_call 45; go_loud ((refine (Drop_bad (s := s1) (cc := 1) H.bundle (fun W hb => gets_arg hb HO1.out _ first.toNat HFZ.out HF9.out HFB.out)).mono ?_); rintro e W ⟨rfl, hto⟩; replace H := hto.front (R := []) (by rw [List.append_nil]; exact H); clear hto; rw [List.append_nil] at H)))
    go_ret
    exact ⟨rfl, H.fix.below⟩
  · have HFB := Lib.hid (show first.toNat < 2 ∨ s1.n ≤ first.toNat by rw [HN1.out]; omega)
    clear f3
    go_wp2_with (first
      | (go_at_call 24; go_loud ((refine (homes_TX (s := s1) (H.take 7).bundle HO1.out (z := 34) (by rw [HN1.out]; rfl)).mono ?_); rintro e W ⟨rfl, hto⟩; replace H := hto.front (R := [errA]) H; clear hto))
      | (go_at_call 42; go_loud ((refine (Get_bad (s := s1) (cc := 1) H.bundle (fun W hb => gets_arg hb HO1.out _ first.toNat HFZ.out HF9.out HFB.out)).mono ?_); rintro e W ⟨rfl, hto⟩; replace H := hto.front (R := []) (by rw [List.append_nil]; exact H); clear hto; rw [List.append_nil] at H))
      | (go_at_call 45; go_loud ((refine (Drop_bad (s := s1) (cc := 1) H.bundle (fun W hb => gets_arg hb HO1.out _ first.toNat HFZ.out HF9.out HFB.out)).mono ?_); rintro e W ⟨rfl, hto⟩; replace H := hto.front (R := []) (by rw [List.append_nil]; exact H); clear hto; rw [List.append_nil] at H)))
    go_ret
    exact ⟨rfl, H.fix.below⟩
  · have HALL := Lib.hid (show ∀ k ∈ hs, 2 ≤ k ∧ k < s1.n ∧ hasB (s1.v 1) k = true from fun k hk => by
      have hp := HPF.out
      have h3 := hp.2.2.1 k hk
      refine ⟨h3.1, by rw [HN1.out, ← HS.out.cnt]; exact h3.2.1, ?_⟩
      rw [hp.2.2.2.2.2 k h3.1 h3.2.1, decide_eq_true hk, Bool.or_true])
    have HL40 := Lib.hid (show hs.length ≤ 40 by rw [HPF.out.1]; exact longC_le _ (by rw [HLQ.out]; have := HQ.out; omega))
    go_wp2_with (first
      | (go_at_call 24; go_loud ((refine (homes_TX (s := s1) (H.take 7).bundle HO1.out (z := 34) (by rw [HN1.out]; rfl)).mono ?_); rintro e W ⟨rfl, hto⟩; replace H := hto.front (R := [errA]) H; clear hto))
      | (go_at_call 45; have _t := tok1; clear _t; go_loud ((refine (Drop_ok (s := s1) (H.take 7).bundle HO1.out _ x rfl (by have := HX9.out; omega) HPR.out.2.1 HPR.out.2.2 HPR.out.1 HL40.out HPF.out.2.1 HALL.out).mono ?_); rintro e W ⟨rfl, s2, hs2, hto⟩; replace H := hto.front (R := [errA]) H; clear hto tok1; have HDF := Lib.hid (drop_facts HO1.out HPF.out.2.1 HALL.out hs2); have HN2 := Lib.hid (show s2.n = s1.n from hs2.n); have HO2 := Lib.hid hs2.ok; rw [← hs2.g]; clear hs2; have HW2 := Lib.hid (show walkC s2.v s2.n 40 x [] [] = some (hs, List.replicate q 0) from ((walkC_congr (fun k h2 hk => HDF.out.2 k (by { omega }) (by { rw [← HN2.out]; exact hk })) 40 x [] []).trans (by { rw [HN2.out]; exact HPR.out.1 }))); have hx0m : hs[0]? = some x := (by { have h1 := HXG.out; have h2 := HPF.out.1; have h3 := longC_pos (List.replicate q (0 : UInt8)).length; rw [List.getD_eq_getElem?_getD, List.getElem?_eq_getElem (by omega)] at h1; rw [List.getElem?_eq_getElem (by omega)]; exact congrArg some h1 }); have HX0 := Lib.hid hx0m; have HXM := Lib.hid (List.mem_of_getElem? hx0m); clear hx0m))
      | (go_at_call 45; go_loud ((refine (Drop_no (s := s2) (H.take 7).bundle HO2.out _ x rfl (by have := HX9.out; omega) HPR.out.2.1 (by rw [HN2.out]; exact HPR.out.2.2) HW2.out x HX0.out HL40.out (by rw [HDF.out.1 x HPR.out.2.1 HPR.out.2.2, decide_eq_true HXM.out, Bool.not_true, Bool.and_false])).mono ?_); rintro e W ⟨rfl, hto⟩; replace H := hto.front (R := [errA]) H; clear hto)))
    go_ret
    exact ⟨rfl, H.fix.below⟩

end Go.Proofs.YtphpegnfcelagaaGreatDoor
