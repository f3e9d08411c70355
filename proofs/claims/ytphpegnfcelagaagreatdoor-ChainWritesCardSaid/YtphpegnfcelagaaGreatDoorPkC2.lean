/- Texts of this proof, packed: ChainFull and what follows it. -/
import Derived.Test.YtphpegnfcelagaaGreatDoorPkC1

namespace Go.Proofs.YtphpegnfcelagaaGreatDoor
open Go.RowKit
set_option linter.unusedSimpArgs false
set_option linter.unusedVariables false
set_option maxRecDepth 40000

set_option maxHeartbeats 4000000 in
theorem chainFull_calls (size : Int) (sec : UInt8) (w : World) (hs0 : 0 ≤ size) (hs1 : size ≤ 65535) (hg : errA.prop w) :
    Calls Tryz.prog 12 #[.int .u16 size, .int .u8 (sec.toNat : Int)] w fun e w' => e = .returned (.bool true) ∧ Below w.heap.size w w' := by
  have H := St.err hg
  clear hg
  obtain ⟨m, hm, hm2⟩ : ∃ m : Nat, ((sec.toNat : Int)).tmod 40 = (m : Int) ∧ m < 40 := ⟨sec.toNat % 40, by rw [Int.tmod_eq_emod_of_nonneg (by omega)]; omega, by omega⟩
  obtain ⟨q, hq, hq2⟩ : ∃ q : Nat, size.tmod 9681 = (q : Int) ∧ q < 9681 := ⟨(size % 9681).toNat, by rw [Int.tmod_eq_emod_of_nonneg (by omega)]; omega, by omega⟩
  have hmi : (m : Int) < 40 := by omega
  have hm0 : 0 ≤ (m : Int) := by omega
  have hsb : (sec.toNat : Int) < 256 := by have := sec.toNat_lt; omega
  have hsb0 : 0 ≤ (sec.toNat : Int) := by omega
  have hqi : (q : Int) < 9681 := by omega
  have hq0 : 0 ≤ (q : Int) := by omega
  obtain ⟨n, hn⟩ : ∃ n, 10 + m = n := ⟨_, rfl⟩
  have HN := Lib.hid (show 10 ≤ n ∧ n ≤ 49 by omega)
  have HNM := Lib.hid (show ((n + 26 : Nat) : Int) = 36 + (m : Int) by omega)
  have HQ := Lib.hid hq2
  obtain ⟨lf, hlf⟩ : ∃ lf : Nat, n - 2 = lf := ⟨_, rfl⟩
  have HLF := Lib.hid (show leftOf newB n = lf by rw [leftOf_new n (by omega), hlf])
  obtain ⟨lc, hlc⟩ : ∃ lc : Nat, longC q = lc := ⟨_, rfl⟩
  have HLC := Lib.hid hlc
  have hlf9 : (lf : Int) < 50 := by omega
  clear hn hm2 hq2 hlf hlc
  by_cases hroom : lc ≤ lf
  · have HRO := Lib.hid hroom
    have hri : (lc : Int) ≤ (lf : Int) := by omega
    go_enter Tryz.func12, Tryz.ntmps12
    go_wp2_with (first
      | (go_at_call 37; go_loud ((refine (begun22_calls _ (H.at 0 rfl)).mono ?_); rintro e W ⟨rfl, hb⟩; replace H := H.stay (Fix.of_below hb _); clear hb))
      | (go_at_call 40; go_loud ((refine (new21_calls H _ (n + 26) n HNM.out rfl (by have := HN.out; omega) (by have := HN.out; omega)).mono ?_); clear H; rintro e W ⟨s, rfl, hnew, H⟩; have HS := Lib.hid hnew; clear hnew))
      | (refine wpList_make2_st H rfl 40 _ _ rfl _ Tryz.underlying40 _ _ info_u8 rfl q q rfl rfl (by omega) (by have := HQ.out; omega) (by have := HQ.out; simp only [maxLen]; omega) ?_; clear H; intro W gz H; rw [show List.replicate q (Value.int .u8 0) = byteV (List.replicate q 0) by simp [byteV]] at H; replace H : St _ _ w _ (s.L ++ [errA, blk gz (.cells (byteV (List.replicate q 0)).toArray 5 (0, 0))]) := H; replace H := St.swap (A := s.L) (E := [errA]) (R := [blk gz (.cells (byteV (List.replicate q 0)).toArray 5 (0, 0))]) H)
      | (go_at_call 26; go_loud ((refine (Left_ok (s := s) (H.take 7).bundle HS.out.ok).mono ?_); rintro e W ⟨rfl, hto⟩; replace H := hto.front (R := [blk gz (.cells (byteV (List.replicate q 0)).toArray 5 (0, 0)), errA]) H; clear hto; rw [HS.out.v1, HS.out.cnt, HLF.out]))
      | (go_at_call 43; go_loud ((refine (Put_ok (s := s) (B := blk gz (.cells (byteV (List.replicate q 0)).toArray 5 (0, 0))) (bs := List.replicate q 0) (n := q) H.bundle HS.out.ok (fun W h => blk_rd h) List.length_replicate (Nat.le_refl _) (by have := HQ.out; omega) (by rw [HS.out.v1, HS.out.cnt, HLF.out, HLC.out]; exact HRO.out)).mono ?_); rintro e W ⟨hs, hhs, rfl, s1, hs1, hto⟩; replace H := hto.front (R := []) (by rw [List.append_nil]; exact H); clear hto))
      | (go_at_call 39; go_loud ((refine (refLong_calls _ q (by omega) (by omega) (by have := HQ.out; omega) _).mono ?_); rintro e W' ⟨rfl, rfl⟩; rw [HLC.out])))
    go_ret
    exact ⟨rfl, H.fix.below⟩
  · have HRO := Lib.hid (show lf < lc by omega)
    have hri : ¬ ((lc : Int) ≤ (lf : Int)) := by omega
    go_enter Tryz.func12, Tryz.ntmps12
    go_wp2_with (first
      | (go_at_call 37; go_loud ((refine (begun22_calls _ (H.at 0 rfl)).mono ?_); rintro e W ⟨rfl, hb⟩; replace H := H.stay (Fix.of_below hb _); clear hb))
      | (go_at_call 40; go_loud ((refine (new21_calls H _ (n + 26) n HNM.out rfl (by have := HN.out; omega) (by have := HN.out; omega)).mono ?_); clear H; rintro e W ⟨s, rfl, hnew, H⟩; have HS := Lib.hid hnew; clear hnew))
      | (refine wpList_make2_st H rfl 40 _ _ rfl _ Tryz.underlying40 _ _ info_u8 rfl q q rfl rfl (by omega) (by have := HQ.out; omega) (by have := HQ.out; simp only [maxLen]; omega) ?_; clear H; intro W gz H; rw [show List.replicate q (Value.int .u8 0) = byteV (List.replicate q 0) by simp [byteV]] at H; replace H : St _ _ w _ (s.L ++ [errA, blk gz (.cells (byteV (List.replicate q 0)).toArray 5 (0, 0))]) := H; replace H := St.swap (A := s.L) (E := [errA]) (R := [blk gz (.cells (byteV (List.replicate q 0)).toArray 5 (0, 0))]) H)
      | (go_at_call 26; go_loud ((refine (Left_ok (s := s) (H.take 7).bundle HS.out.ok).mono ?_); rintro e W ⟨rfl, hto⟩; replace H := hto.front (R := [blk gz (.cells (byteV (List.replicate q 0)).toArray 5 (0, 0)), errA]) H; clear hto; rw [HS.out.v1, HS.out.cnt, HLF.out]))
      | (go_at_call 43; go_loud ((refine (Put_full (s := s) (B := blk gz (.cells (byteV (List.replicate q 0)).toArray 5 (0, 0))) (bs := List.replicate q 0) (n := q) H.bundle HS.out.ok (fun W h => blk_rd h) List.length_replicate (Nat.le_refl _) (by have := HQ.out; omega) (by rw [HS.out.v1, HS.out.cnt, HLF.out, HLC.out]; exact HRO.out)).mono ?_); rintro e W ⟨rfl, s1, v1, hs1, hv1, hto⟩; replace H := hto.front (R := []) (by rw [List.append_nil]; exact H); clear hto))
      | (go_at_call 39; go_loud ((refine (refLong_calls _ q (by omega) (by omega) (by have := HQ.out; omega) _).mono ?_); rintro e W' ⟨rfl, rfl⟩; rw [HLC.out])))
    go_ret
    exact ⟨rfl, H.fix.below⟩

end Go.Proofs.YtphpegnfcelagaaGreatDoor

namespace Go.Proofs.YtphpegnfcelagaaGreatDoor
open Go.RowKit
set_option linter.unusedSimpArgs false
set_option linter.unusedVariables false
set_option maxRecDepth 40000

/-- Which are taken behind j that were freed. -/
theorem hasB_turnsT {l : List UInt8} (hl : l.length = 248) : ∀ (hs : List Nat), hs.Nodup → (∀ h ∈ hs, 2 ≤ h ∧ h < 1984 ∧ hasB l h = true) → ∀ k, 2 ≤ k → hasB (turnsB l hs) k = (hasB l k && !decide (k ∈ hs)) := by
  intro hs
  induction hs generalizing l with
  | nil => intro _ _ k _; simp [turnsB]
  | cons h hs ih =>
    intro hnd hall k hk
    have hh := hall h List.mem_cons_self
    have hnd' := List.nodup_cons.1 hnd
    show hasB (turnsB (turnB l h) hs) k = _
    rw [ih (by rw [turnB_len]; exact hl) hnd'.2 (fun q hq => by
      have hq2 := hall q (List.mem_cons_of_mem _ hq)
      refine ⟨hq2.1, hq2.2.1, ?_⟩
      rw [hasB_turn hl hh.2.1 hq2.1, if_neg (fun e : q = h => hnd'.1 (e ▸ hq))]
      exact hq2.2.2) k hk]
    rw [hasB_turn hl hh.2.1 hk]
    by_cases e : k = h
    · subst e
      rw [if_pos rfl, hh.2.2]
      simp
    · rw [if_neg e]
      simp [e]

theorem walkC_congr {v v' : Nat → List UInt8} {n : Nat} (h : ∀ k, 2 ≤ k → k < n → v' k = v k) : ∀ fuel next hs bs, walkC v' n fuel next hs bs = walkC v n fuel next hs bs
  | 0, next, hs, bs => rfl
  | f + 1, next, hs, bs => by
    rw [walkC, walkC]
    by_cases h0 : next = 0
    · rw [if_pos h0, if_pos h0]
    · rw [if_neg h0, if_neg h0]
      by_cases h1 : next < 2 ∨ n ≤ next
      · rw [if_pos h1, if_pos h1]
      · rw [if_neg h1, if_neg h1, h next (by omega) (by omega), walkC_congr h f]

set_option maxHeartbeats 4000000 in
theorem Drop_ok {w : World} {s : TX} {c : Nat} (hb : Bundle w s.L) (h : s.Ok c) (z : Int) (first : Nat) (hz : (first : Int) = z) (hlt : first < 4294967296) (h2 : 2 ≤ first) (hn : first < s.n) {hs : List Nat} {bs : List UInt8} (hR : walkC s.v s.n 40 first [] [] = some (hs, bs))
    (hl40 : hs.length ≤ 40) (hnd : hs.Nodup) (hall : ∀ k ∈ hs, 2 ≤ k ∧ k < s.n ∧ hasB (s.v 1) k = true) :
    Calls Tryz.prog 45 #[.pointer (some ⟨s.g, 0, none⟩), .int .u32 z] w fun e w' => e = .returned (.int .i64 0) ∧ ∃ s', s.To s' c (takV s.V hs hs.length) ∧ BunTo w (ownL s.L) (rdL s.L) s'.L w' := by
  have HG := Lib.hid (gets_some hb h z first hz hlt h2 hn hR)
  have H := hb.open_
  obtain ⟨O, hO⟩ : ∃ O, ownL s.L = O := ⟨_, rfl⟩
  obtain ⟨R0, hR0⟩ : ∃ R, rdL s.L = R := ⟨_, rfl⟩
  rw [hO, hR0] at H HG ⊢
  have HNN := Lib.hid h.nn
  have HO := Lib.hid h
  have HLL := Lib.hid (show (s.v 1).length = 248 from h.lens 1 (by have := h.nn; omega))
  have HND := Lib.hid hnd
  have HALL := Lib.hid hall
  have hhl : (hs.length : Int) ≤ 40 := by omega
  clear hb h hlt h2 hn hR hz hO hR0 hnd hall hl40
  go_enter Tryz.func45, Tryz.ntmps45
  go_upto_region 5 with (first
    | (go_at_call 76; go_loud ((refine HG.out.mono ?_); rintro e W ⟨p1, c1, p2, c2, rfl, hto⟩; clear H; have H := hto.st; clear hto)))
  replace H : St O R0 w W (s.L ++ [ownS 3 1 p1 hs.length c1 (intsV hs)]) := H.take 8
  go_loopw [24] (fun u wr => ∃ (j : Nat) (s1 : TX), u = .int .i64 (j : Int) ∧ j ≤ hs.length ∧ s.To s1 c (takV s.V hs j) ∧ St O R0 w wr (s1.L ++ [ownS 3 1 p1 hs.length c1 (intsV hs)])) (fun u _ => hs.length - (intOf u).toNat)
  case atStart => exact ⟨0, s, rfl, Nat.zero_le _, ⟨HO.out, rfl, rfl, rfl, fun k _ => (takV_zero s.V hs k).symm⟩, H⟩
  case round =>
    clear H HG
    obtain ⟨j, s1, rfl, hj, hto1, H⟩ := hrel
    have HT := Lib.hid hto1
    have HGG := Lib.hid hto1.g
    have hj0 : 0 ≤ (j : Int) := by omega
    rcases Nat.lt_or_ge j hs.length with hlt | hge
    · have hji : (j : Int) < (hs.length : Int) := by omega
      obtain ⟨x, hx⟩ : ∃ x, hs[j]? = some x := ⟨_, List.getElem?_eq_getElem hlt⟩
      obtain ⟨hxl, hxe⟩ := List.getElem?_eq_some_iff.1 hx
      obtain ⟨gq, oq, rfl, hcell⟩ := rdA_at (ownS_rd (H.at 7 rfl)) (i := j) (x := .int .i64 (x : Int)) (by simp [intsV, hx])
      have hx3 := HALL.out x (List.mem_of_getElem? hx)
      have HX2 := Lib.hid hx3.1
      have HX3 := Lib.hid (show x < s1.n by rw [HT.out.n]; exact hx3.2.1)
      have HX4 := Lib.hid (show hasB (s1.v 1) x = true by
        rw [HT.out.v 1 (by have := HNN.out; omega)]
        unfold takV
        rw [if_pos rfl]
        show hasB (turnsB (s.v 1) (hs.take j)) x = true
        rw [hasB_turnsT HLL.out (hs.take j) (HND.out.sublist (List.take_sublist _ _)) (fun q hq => by
          have hq3 := HALL.out q (List.mem_of_mem_take hq)
          have := HNN.out
          exact ⟨hq3.1, by omega, hq3.2.2⟩) x hx3.1, hx3.2.2, decide_eq_false, Bool.not_false, Bool.and_self]
        intro hmem
        obtain ⟨q, hq, e⟩ := List.mem_iff_getElem.1 hmem
        rw [List.length_take] at hq
        rw [List.getElem_take] at e
        exact absurd (e.trans hxe.symm) (List.pairwise_iff_getElem.1 HND.out q j (by omega) hxl (by omega)))
      have HSTEP := Lib.hid (show ∀ s2 : TX, s1.To s2 c (updV s1.V 1 (turnB (s1.v 1) x)) → s.To s2 c (takV s.V hs (j + 1)) from fun s2 h2 => HT.out.then 1 _ h2 (fun k hk => by
        rw [← takV_step s.V hs j hxl k, hxe]
        have : (takV s.V hs j 1).1 = s1.v 1 := (HT.out.v 1 (by have := HNN.out; omega)).symm
        rw [this]))
      have HJ := Lib.hid hlt
      have hx0 : 0 ≤ (x : Int) := by omega
      clear hx hxl hxe hx3 hlt hj hto1
      go_wp2_with (first
        | (go_at_call 25; rw [← HGG.out]; go_loud ((refine (Free_okS (s := s1) (H.take 7).bundle HT.out.ok _ x rfl HX2.out HX3.out HX4.out).mono ?_); rintro e W ⟨rfl, s2, hs2, hto⟩; replace H := hto.front (R := [ownS 3 1 (some ⟨gq, oq, none⟩) hs.length c1 (intsV hs)]) H; clear hto)))
      simp only [HGG.out]
      go_roundw
      case rel => exact ⟨j + 1, s2, congrArg _ (by omega), HJ.out, HSTEP.out s2 hs2, H⟩
      case measure => have := HJ.out; simp [intOf]; omega
    · obtain rfl : j = hs.length := by omega
      have hji : ¬ ((hs.length : Int) < (hs.length : Int)) := by omega
      clear hto1
      go_wp2
      go_ret
      exact ⟨rfl, s1, HT.out, St.bunTo (H.take 7)⟩

set_option maxHeartbeats 4000000 in
theorem Drop_no {w : World} {s : TX} {c : Nat} (hb : Bundle w s.L) (h : s.Ok c) (z : Int) (first : Nat) (hz : (first : Int) = z) (hlt : first < 4294967296) (h2 : 2 ≤ first) (hn : first < s.n) {hs : List Nat} {bs : List UInt8} (hR : walkC s.v s.n 40 first [] [] = some (hs, bs))
    (x : Nat) (hx : hs[0]? = some x) (hl40 : hs.length ≤ 40) (hno : hasB (s.v 1) x = false) :
    Calls Tryz.prog 45 #[.pointer (some ⟨s.g, 0, none⟩), .int .u32 z] w fun e w' => e = .returned (.int .i64 1) ∧ BunTo w (ownL s.L) (rdL s.L) s.L w' := by
  have HG := Lib.hid (gets_some hb h z first hz hlt h2 hn hR)
  have H := hb.open_
  obtain ⟨O, hO⟩ : ∃ O, ownL s.L = O := ⟨_, rfl⟩
  obtain ⟨R0, hR0⟩ : ∃ R, rdL s.L = R := ⟨_, rfl⟩
  rw [hO, hR0] at H HG ⊢
  have HO := Lib.hid h
  have HX := Lib.hid hx
  have HNO := Lib.hid hno
  have hl0 : 0 < hs.length := (List.getElem?_eq_some_iff.1 hx).1
  have hl1 : 0 < (hs.length : Int) := by omega
  have hhl : (hs.length : Int) ≤ 40 := by omega
  have hx0 : 0 ≤ (x : Int) := by omega
  clear hb h hlt h2 hn hR hz hO hR0 hx hno hl40
  go_enter Tryz.func45, Tryz.ntmps45
  go_upto_region 5 with (first
    | (go_at_call 76; go_loud ((refine HG.out.mono ?_); rintro e W ⟨p1, c1, p2, c2, rfl, hto⟩; clear H; have H := hto.st; clear hto)))
  replace H : St O R0 w W (s.L ++ [ownS 3 1 p1 hs.length c1 (intsV hs)]) := H.take 8
  obtain ⟨gq, oq, rfl, _⟩ := rdA_at (ownS_rd (H.at 7 rfl)) (i := 0) (x := .int .i64 (x : Int)) (by simp [intsV, HX.out])
  go_loopw [24] (fun u wr => u = .int .i64 0 ∧ St O R0 w wr (s.L ++ [ownS 3 1 (some ⟨gq, oq, none⟩) hs.length c1 (intsV hs)])) (fun _ _ => 1)
  case atStart => exact ⟨rfl, H⟩
  case round =>
    clear H HG
    obtain ⟨rfl, H⟩ := hrel
    have hcell := rdA_cell (ownS_rd (H.at 7 rfl)) (i := 0) (x := .int .i64 (x : Int)) (by simp [intsV, HX.out])
    rw [Nat.add_zero] at hcell
    go_wp2_with (first
      | (go_at_call 25; go_loud ((refine (Free_noS (s := s) (H.take 7).bundle HO.out _ (.inr (.inr (by simpa using HNO.out)))).mono ?_); rintro e W ⟨rfl, hto⟩; replace H := hto.front (R := [ownS 3 1 (some ⟨gq, oq, none⟩) hs.length c1 (intsV hs)]) H; clear hto)))
    go_ret
    exact ⟨rfl, St.bunTo (H.take 7)⟩

end Go.Proofs.YtphpegnfcelagaaGreatDoor

namespace Go.Proofs.YtphpegnfcelagaaGreatDoor
open Go.RowKit
set_option linter.unusedSimpArgs false
set_option linter.unusedVariables false
set_option maxRecDepth 40000

/-- What Put leaves. -/
theorem put_facts {s s' : TX} {c : Nat} {hs : List Nat} {bs : List UInt8} (h : s.Ok c) (hhs : hs = (freeL (s.v 1) s.n).take (longC bs.length)) (hroom : longC bs.length ≤ leftOf (s.v 1) s.n)
    (hs' : s.To s' c (linksV (takV s.V hs (longC bs.length)) hs bs (longC bs.length))) :
    hs.length = longC bs.length ∧ hs.Nodup ∧ (∀ k, k ∈ hs → 2 ≤ k ∧ k < s.n ∧ hasB (s.v 1) k = false) ∧ s'.v 1 = turnsB (s.v 1) hs ∧ (∀ k, 2 ≤ k → k < s.n → k ∉ hs → s'.v k = s.v k) ∧
      (∀ k, 2 ≤ k → k < s.n → hasB (s'.v 1) k = (hasB (s.v 1) k || decide (k ∈ hs))) := by
  have hlen : hs.length = longC bs.length := by rw [hhs, List.length_take, ← leftOf_free]; omega
  have hnd : hs.Nodup := by rw [hhs]; exact (nodup_of_sorted (freeL_sorted _ _)).sublist (List.take_sublist _ _)
  have hr : ∀ k, k ∈ hs → 2 ≤ k ∧ k < s.n ∧ hasB (s.v 1) k = false := fun k hk => by
    rw [hhs] at hk
    exact freeL_lt (List.mem_of_mem_take hk)
  have hnn := h.nn
  have h1 : s'.v 1 = turnsB (s.v 1) hs := by
    rw [hs'.v 1 (by omega)]
    unfold linksV
    rw [if_neg (fun x => by have := (hr 1 x.2).1; omega)]
    unfold takV
    rw [if_pos rfl]
    show turnsB (s.v 1) (hs.take _) = _
    rw [List.take_of_length_le (by omega)]
  refine ⟨hlen, hnd, hr, h1, fun k h2 hk hm => ?_, fun k h2 hk => ?_⟩
  · rw [hs'.v k hk]
    unfold linksV
    rw [if_neg (fun x => hm x.2)]
    unfold takV
    rw [if_neg (by omega)]; rfl
  · rw [h1]
    exact hasB_turns (h.lens 1 (by omega)) hs hnd (fun q hq => by have := hr q hq; exact ⟨by omega, this.2.2⟩) k h2

theorem drop_facts {s s' : TX} {c : Nat} {hs : List Nat} (h : s.Ok c) (hnd : hs.Nodup) (hall : ∀ k ∈ hs, 2 ≤ k ∧ k < s.n ∧ hasB (s.v 1) k = true) (hs' : s.To s' c (takV s.V hs hs.length)) :
    (∀ k, 2 ≤ k → k < s.n → hasB (s'.v 1) k = (hasB (s.v 1) k && !decide (k ∈ hs))) ∧ (∀ k, k ≠ 1 → k < s.n → s'.v k = s.v k) := by
  have hnn := h.nn
  refine ⟨fun k h2 hk => ?_, fun k h1 hk => ?_⟩
  · rw [hs'.v 1 (by omega)]
    unfold takV
    rw [if_pos rfl]
    show hasB (turnsB (s.v 1) (hs.take _)) k = _
    rw [List.take_length]
    exact hasB_turnsT (h.lens 1 (by omega)) hs hnd (fun q hq => by have := hall q hq; exact ⟨this.1, by omega, this.2.2⟩) k h2
  · rw [hs'.v k hk]
    unfold takV
    rw [if_neg h1]; rfl

set_option maxHeartbeats 4000000 in
theorem chainDrops_calls (size first : Int) (w : World) (hs0 : 0 ≤ size) (hs1 : size ≤ 65535) (hf0 : 0 ≤ first) (hf1 : first ≤ 4294967295) (hg : errA.prop w) :
    Calls Tryz.prog 13 #[.int .u16 size, .int .u32 first] w fun e w' => e = .returned (.bool true) ∧ Below w.heap.size w w' := by
  have H := St.err hg
  clear hg
  obtain ⟨q, hq, hq2⟩ : ∃ q : Nat, size.tmod 2000 = (q : Int) ∧ q < 2000 := ⟨(size % 2000).toNat, by rw [Int.tmod_eq_emod_of_nonneg (by omega)]; omega, by omega⟩
  have hqi : (q : Int) < 2000 := by omega
  have hq0 : 0 ≤ (q : Int) := by omega
  have HQ := Lib.hid hq2
  have HROOM := Lib.hid (show longC q ≤ 32 by unfold longC; omega)
  have HFZ := Lib.hid (show ((first.toNat : Nat) : Int) = first by omega)
  have HF9 := Lib.hid (show first.toNat < 4294967296 by omega)
  have hcase : (decide (first < 2) = true ∧ first < 2) ∨ (decide (first < 2) = false ∧ decide (34 ≤ first) = true ∧ 34 ≤ first) ∨ (decide (first < 2) = false ∧ decide (34 ≤ first) = false) := by
    by_cases h1 : first < 2
    · exact .inl ⟨decide_eq_true h1, h1⟩
    · by_cases h2 : 34 ≤ first
      · exact .inr (.inl ⟨decide_eq_false h1, decide_eq_true h2, h2⟩)
      · exact .inr (.inr ⟨decide_eq_false h1, decide_eq_false h2⟩)
  have tok1 : True := trivial
  clear hq2 hf1
  go_enter Tryz.func13, Tryz.ntmps13
  go_upto_region 7 with (first
    | (go_at_call 37; go_loud ((refine (begun22_calls _ (H.at 0 rfl)).mono ?_); rintro e W ⟨rfl, hb⟩; replace H := H.stay (Fix.of_below hb _); clear hb))
    | (go_at_call 40; go_loud ((refine (new21_calls H _ 60 34 rfl rfl (by omega) (by omega)).mono ?_); clear H; rintro e W ⟨s, rfl, hnew, H⟩; have HS := Lib.hid hnew; clear hnew))
    | (refine wpList_make2_st H rfl 40 _ _ rfl _ Tryz.underlying40 _ _ info_u8 rfl q q rfl rfl (by omega) (by have := HQ.out; omega) (by have := HQ.out; simp only [maxLen]; omega) ?_; clear H; intro W gz H; rw [show List.replicate q (Value.int .u8 0) = byteV (List.replicate q 0) by simp [byteV]] at H; replace H : St _ _ w _ (s.L ++ [errA, blk gz (.cells (byteV (List.replicate q 0)).toArray 5 (0, 0))]) := H; replace H := St.swap (A := s.L) (E := [errA]) (R := [blk gz (.cells (byteV (List.replicate q 0)).toArray 5 (0, 0))]) H)
    | (go_at_call 43; go_loud ((refine (Put_ok (s := s) (B := blk gz (.cells (byteV (List.replicate q 0)).toArray 5 (0, 0))) (bs := List.replicate q 0) (n := q) H.bundle HS.out.ok (fun W h => blk_rd h) List.length_replicate (Nat.le_refl _) (by have := HQ.out; omega) (by rw [HS.out.v1, HS.out.cnt, leftOf_new 34 (by omega)]; exact HROOM.out)).mono ?_); rintro e W ⟨hs, hhs, rfl, s1, hs1, hto⟩; replace H := hto.front (R := []) (by rw [List.append_nil]; exact H); clear hto; rw [List.append_nil] at H; replace H : St _ _ w _ (s1.L ++ [errA]) := (St.swap (A := s1.L) (E := [blk gz (.cells (byteV (List.replicate q 0)).toArray 5 (0, 0))]) (R := [errA]) H).take 8; rw [← hs1.g]; obtain ⟨x, hx⟩ : ∃ x, hs.getD 0 0 = x := ⟨_, rfl⟩; rw [hx]; have HXG := Lib.hid hx; have HHS := Lib.hid hhs; clear hx hhs)))
  have HL : (List.replicate q (0 : UInt8)).length = q := List.length_replicate
  have hrm : longC (List.replicate q (0 : UInt8)).length ≤ leftOf (s.v 1) s.n := by rw [HL, HS.out.v1, HS.out.cnt, leftOf_new 34 (by omega)]; exact HROOM.out
  have hhs' : hs = (freeL (s.v 1) s.n).take (longC (List.replicate q (0 : UInt8)).length) := by rw [HL]; exact HHS.out
  have hs1' : s.To s1 0 (linksV (takV s.V hs (longC (List.replicate q (0 : UInt8)).length)) hs (List.replicate q 0) (longC (List.replicate q (0 : UInt8)).length)) := by rw [HL]; exact hs1
  have HPR := Lib.hid (put_reads HS.out.ok hhs' hrm (by rw [HL]; have := HQ.out; omega) hs1')
  have HPF := Lib.hid (put_facts HS.out.ok hhs' hrm hs1')
  have HN1 := Lib.hid (show s1.n = 34 from hs1.n.trans HS.out.cnt)
  have HO1 := Lib.hid hs1.ok
  have HLQ := Lib.hid (show (List.replicate q (0 : UInt8)).length = q from HL)
  rw [HXG.out] at HPR
  have hx34 : x < 34 := by have := HPR.out.2.2; rw [HN1.out] at this; exact this
  have hxi : (x : Int) < 34 := by omega
  have hx0 : 0 ≤ (x : Int) := by omega
  have HX9 := Lib.hid hx34
  clear hhs' hs1 hs1' hrm HL hx34
  rcases hcase with ⟨f1, f2⟩ | ⟨f1, f2, f3⟩ | ⟨f1, f2⟩
  · have HFB := Lib.hid (show first.toNat < 2 ∨ s1.n ≤ first.toNat by omega)
    clear f2
    go_wp2_with (first
      | (go_at_call 42; go_loud ((refine (Get_bad (s := s1) (cc := 1) H.bundle (fun W hb => gets_arg hb HO1.out _ first.toNat HFZ.out HF9.out HFB.out)).mono ?_); rintro e W ⟨rfl, hto⟩; replace H := hto.front (R := []) (by rw [List.append_nil]; exact H); clear hto; rw [List.append_nil] at H))
      | (go_at_call 45; go_loud ((refine (Drop_bad (s := s1) (cc := 1) H.bundle (fun W hb => gets_arg hb HO1.out _ first.toNat HFZ.out HF9.out HFB.out)).mono ?_); rintro e W ⟨rfl, hto⟩; replace H := hto.front (R := []) (by rw [List.append_nil]; exact H); clear hto; rw [List.append_nil] at H)))
    go_ret
    exact ⟨rfl, H.fix.below⟩
  · have HFB := Lib.hid (show first.toNat < 2 ∨ s1.n ≤ first.toNat by rw [HN1.out]; omega)
    clear f3
    go_wp2_with (first
      | (go_at_call 24; go_loud ((refine (homes_TX (s := s1) (H.take 7).bundle HO1.out (z := 34) (by rw [HN1.out]; rfl)).mono ?_); rintro e W ⟨rfl, hto⟩; replace H := hto.front (R := [errA]) H; clear hto))
      | (go_at_call 42; go_loud ((refine (Get_bad (s := s1) (cc := 1) H.bundle (fun W hb => gets_arg hb HO1.out _ first.toNat HFZ.out HF9.out HFB.out)).mono ?_); rintro e W ⟨rfl, hto⟩; replace H := hto.front (R := []) (by rw [List.append_nil]; exact H); clear hto; rw [List.append_nil] at H))
      | (go_at_call 45; go_loud ((refine (Drop_bad (s := s1) (cc := 1) H.bundle (fun W hb => gets_arg hb HO1.out _ first.toNat HFZ.out HF9.out HFB.out)).mono ?_); rintro e W ⟨rfl, hto⟩; replace H := hto.front (R := []) (by rw [List.append_nil]; exact H); clear hto; rw [List.append_nil] at H)))
    go_ret
    exact ⟨rfl, H.fix.below⟩
  · have HALL := Lib.hid (show ∀ k ∈ hs, 2 ≤ k ∧ k < s1.n ∧ hasB (s1.v 1) k = true from fun k hk => by
      have hp := HPF.out
      have h3 := hp.2.2.1 k hk
      refine ⟨h3.1, by rw [HN1.out, ← HS.out.cnt]; exact h3.2.1, ?_⟩
      rw [hp.2.2.2.2.2 k h3.1 h3.2.1, decide_eq_true hk, Bool.or_true])
    have HL40 := Lib.hid (show hs.length ≤ 40 by rw [HPF.out.1]; exact longC_le _ (by rw [HLQ.out]; have := HQ.out; omega))
    go_wp2_with (first
      | (go_at_call 24; go_loud ((refine (homes_TX (s := s1) (H.take 7).bundle HO1.out (z := 34) (by rw [HN1.out]; rfl)).mono ?_); rintro e W ⟨rfl, hto⟩; replace H := hto.front (R := [errA]) H; clear hto))
      | (go_at_call 45; have _t := tok1; clear _t; go_loud ((refine (Drop_ok (s := s1) (H.take 7).bundle HO1.out _ x rfl (by have := HX9.out; omega) HPR.out.2.1 HPR.out.2.2 HPR.out.1 HL40.out HPF.out.2.1 HALL.out).mono ?_); rintro e W ⟨rfl, s2, hs2, hto⟩; replace H := hto.front (R := [errA]) H; clear hto tok1; have HDF := Lib.hid (drop_facts HO1.out HPF.out.2.1 HALL.out hs2); have HN2 := Lib.hid (show s2.n = s1.n from hs2.n); have HO2 := Lib.hid hs2.ok; rw [← hs2.g]; clear hs2; have HW2 := Lib.hid (show walkC s2.v s2.n 40 x [] [] = some (hs, List.replicate q 0) from ((walkC_congr (fun k h2 hk => HDF.out.2 k (by { omega }) (by { rw [← HN2.out]; exact hk })) 40 x [] []).trans (by { rw [HN2.out]; exact HPR.out.1 }))); have hx0m : hs[0]? = some x := (by { have h1 := HXG.out; have h2 := HPF.out.1; have h3 := longC_pos (List.replicate q (0 : UInt8)).length; rw [List.getD_eq_getElem?_getD, List.getElem?_eq_getElem (by omega)] at h1; rw [List.getElem?_eq_getElem (by omega)]; exact congrArg some h1 }); have HX0 := Lib.hid hx0m; have HXM := Lib.hid (List.mem_of_getElem? hx0m); clear hx0m))
      | (go_at_call 45; go_loud ((refine (Drop_no (s := s2) (H.take 7).bundle HO2.out _ x rfl (by have := HX9.out; omega) HPR.out.2.1 (by rw [HN2.out]; exact HPR.out.2.2) HW2.out x HX0.out HL40.out (by rw [HDF.out.1 x HPR.out.2.1 HPR.out.2.2, decide_eq_true HXM.out, Bool.not_true, Bool.and_false])).mono ?_); rintro e W ⟨rfl, hto⟩; replace H := hto.front (R := [errA]) H; clear hto)))
    go_ret
    exact ⟨rfl, H.fix.below⟩

end Go.Proofs.YtphpegnfcelagaaGreatDoor

namespace Go.Proofs.YtphpegnfcelagaaGreatDoor
open Go.RowKit
set_option linter.unusedSimpArgs false
set_option linter.unusedVariables false
set_option maxRecDepth 40000

theorem link_get_next (nx : Nat) (c : List UInt8) (k : Nat) (h : k < 4) : (linkB nx c)[k]? = some ((nx / 256 ^ k % 256).toUInt8) := by
  unfold linkB
  rw [List.append_assoc, List.append_assoc, List.getElem?_append_left (by rw [Lib.leBytes_length]; exact h)]
  exact leBytes_get 4 nx k h

theorem link_get_size (nx : Nat) (c : List UInt8) (k : Nat) (h : k < 2) : (linkB nx c)[4 + k]? = some ((c.length / 256 ^ k % 256).toUInt8) := by
  unfold linkB
  rw [List.append_assoc, List.getElem?_append_left (by simp [Lib.leBytes_length]; omega), List.getElem?_append_right (by rw [Lib.leBytes_length]; omega), Lib.leBytes_length, Nat.add_sub_cancel_left]
  exact leBytes_get 2 c.length k h

theorem link_get_rest (nx : Nat) (c : List UInt8) (k : Nat) (h1 : 6 + c.length ≤ k) (h2 : k < 248) (hc : c.length ≤ 242) : (linkB nx c)[k]? = some 0 := by
  unfold linkB
  rw [List.getElem?_append_right (by simp [Lib.leBytes_length]; omega), List.getElem?_replicate, if_pos]
  simp [Lib.leBytes_length]; omega

theorem quadw32 (b0 b1 b2 b3 r : Nat) (h : b0 + b1 * 256 + b2 * 65536 + b3 * 16777216 = r) (h0 : b0 < 256) (h1 : b1 < 256) (h2 : b2 < 256) (h3 : b3 < 256) :
    IntKind.u32.wrap (IntKind.u32.wrap (IntKind.u32.wrap (IntKind.u32.wrap (b0 : Int) + IntKind.u32.wrap (IntKind.u32.wrap (b1 : Int) * 256)) + IntKind.u32.wrap (IntKind.u32.wrap (b2 : Int) * 65536)) + IntKind.u32.wrap (IntKind.u32.wrap (b3 : Int) * 16777216)) = (r : Int) := by
  simp only [IntKind.wrap_u32]
  omega

theorem pairw (b0 b1 r : Nat) (h : b0 + b1 * 256 = r) (h0 : b0 < 256) (h1 : b1 < 256) : IntKind.i64.wrap (IntKind.i64.wrap (b0 : Int) + IntKind.i64.wrap (IntKind.i64.wrap (b1 : Int) * 256)) = (r : Int) := by
  simp only [IntKind.wrap_i64]
  omega

theorem BytesAt.part {W : World} {g off : Nat} {l m : List UInt8} (h : BytesAt W g off l) (d : Nat) (hm : (l.drop d).take m.length = m) : BytesAt W g (off + d) m := fun i hi => by
  have hx : m[i]? = l[d + i]? := by
    rw [← hm, List.getElem?_take, if_pos (by simpa using hi), List.getElem?_drop]
  have : l[d + i]? = some m[i] := by rw [← hx, List.getElem?_eq_getElem hi]
  rw [Nat.add_assoc]
  exact h.cellv this

set_option maxRecDepth 100000 in
set_option maxHeartbeats 16000000 in
theorem chainWrites_calls (size : Int) (x : UInt8) (w : World) (hs0 : 0 ≤ size) (hs1 : size ≤ 65535) (hg : errA.prop w) :
    Calls Tryz.prog 11 #[.int .u16 size, .int .u8 (x.toNat : Int)] w fun e w' => e = .returned (.bool true) ∧ Below w.heap.size w w' := by
  have H := St.err hg
  clear hg
  obtain ⟨q, hq, hq2⟩ : ∃ q : Nat, size.tmod 9681 = (q : Int) ∧ q < 9681 := ⟨(size % 9681).toNat, by rw [Int.tmod_eq_emod_of_nonneg (by omega)]; omega, by omega⟩
  have hqi : (q : Int) < 9681 := by omega
  have hq0 : 0 ≤ (q : Int) := by omega
  have HQ := Lib.hid hq2
  have hxb : (x.toNat : Int) < 256 := by have := x.toNat_lt; omega
  have hxb0 : 0 ≤ (x.toNat : Int) := by omega
  clear hq2
  go_enter Tryz.func11, Tryz.ntmps11
  go_upto_region 6 with (first
    | (go_at_call 37; go_loud ((refine (begun22_calls _ (H.at 0 rfl)).mono ?_); rintro e W ⟨rfl, hb⟩; replace H := H.stay (Fix.of_below hb _); clear hb))
    | (go_at_call 40; go_loud ((refine (new21_calls H _ 120 94 rfl rfl (by omega) (by omega)).mono ?_); clear H; rintro e W ⟨s, rfl, hnew, H⟩; have HS := Lib.hid hnew; clear hnew))
    | (refine wpList_make2_st H rfl 40 _ _ rfl _ Tryz.underlying40 _ _ info_u8 rfl q q rfl rfl (by omega) (by have := HQ.out; omega) (by have := HQ.out; simp only [maxLen]; omega) ?_; clear H; intro W gz H; rw [show List.replicate q (Value.int .u8 0) = byteV (List.replicate q 0) ++ [] by simp [byteV]] at H; replace H := H.recast 8 (A' := ownB gz 0 (List.replicate q 0)) rfl (fun h => ownB_of_row h) (fun k hk => hk) (fun k hk => hk.elim); replace H : St _ _ w _ (s.L ++ [errA, ownB gz 0 (List.replicate q 0)]) := H))
  go_loopw [7] (fun u wr => ∃ (i : Nat) (bs : List UInt8), u = .int .i64 (i : Int) ∧ i ≤ q ∧ bs.length = q ∧ St NoBlk (fun _ => True) w wr (s.L ++ [errA, ownB gz 0 bs])) (fun u _ => q - (intOf u).toNat)
  case atStart => exact ⟨0, List.replicate q 0, rfl, Nat.zero_le _, List.length_replicate, H⟩
  case round =>
    clear H
    obtain ⟨i, bs, rfl, hi, hbl, H⟩ := hrel
    have HBL := Lib.hid hbl
    clear hbl
    have hi0 : 0 ≤ (i : Int) := by omega
    rcases Nat.lt_or_ge i q with hlt | hge
    · have hii : (i : Int) < (q : Int) := by omega
      have HI := Lib.hid hlt
      obtain ⟨u, hu⟩ : ∃ u : UInt8, (u.toNat : Int) = IntKind.u8.wrap ((x.toNat : Int) + IntKind.u8.wrap ((i : Int) * 3)) := ⟨UInt8.ofNat (IntKind.u8.wrap ((x.toNat : Int) + IntKind.u8.wrap ((i : Int) * 3))).toNat, by rw [IntKind.wrap_u8, UInt8.toNat_ofNat']; omega⟩
      have HU := Lib.hid hu
      clear hu hi hlt
      go_wp2_with (first
        | (refine wpList_storeB H 8 rfl 5 _ _ rfl gz 0 i bs (by rw [Nat.zero_add]; rfl) u (by rw [HU.out]; rfl) rfl size_u8 (by rw [HBL.out]; exact HI.out) ?_; clear H; intro W H))
      go_roundw
      case rel => exact ⟨i + 1, bs.set i u, congrArg _ (by omega), HI.out, by rw [List.length_set]; exact HBL.out, H⟩
      case measure => have := HI.out; simp [intOf]; omega
    · obtain rfl : i = q := by omega
      have hii : ¬ ((i : Int) < (i : Int)) := by omega
      replace H := St.swap (A := s.L) (E := [errA]) (R := [ownB gz 0 bs]) H
      have HR := Lib.hid (show longC i ≤ leftOf (s.v 1) s.n by
        rw [HS.out.v1, HS.out.cnt, leftOf_new 94 (by omega)]
        have := longC_le i (by have := HQ.out; omega)
        omega)
      go_upto_region 14 with (first
        | (go_at_call 43; go_loud ((refine (Put_ok (s := s) (B := ownB gz 0 bs) (bs := bs) (n := i) H.bundle HS.out.ok (fun W h => ownB_rd h) HBL.out (Nat.le_refl _) (by have := HQ.out; omega) HR.out).mono ?_); rintro e W ⟨hs, hhs, rfl, s1, hs1, hto⟩; replace H := hto.front (R := []) (by rw [List.append_nil]; exact H); clear hto; rw [List.append_nil] at H; rw [← hs1.g]; obtain ⟨x0, hx⟩ : ∃ x, hs.getD 0 0 = x := ⟨_, rfl⟩; rw [hx]; have HX0 := Lib.hid hx; have HHS := Lib.hid hhs; clear hx hhs)))
      have hlen := HBL.out
      have hrm : longC bs.length ≤ leftOf (s.v 1) s.n := by rw [hlen]; exact HR.out
      have hhs' : hs = (freeL (s.v 1) s.n).take (longC bs.length) := by rw [hlen]; exact HHS.out
      have hs1' : s.To s1 0 (linksV (takV s.V hs (longC bs.length)) hs bs (longC bs.length)) := by rw [hlen]; exact hs1
      have HPF := Lib.hid (put_facts HS.out.ok hhs' hrm hs1')
      have HN1 := Lib.hid (show s1.n = 94 from hs1.n.trans HS.out.cnt)
      have HO1 := Lib.hid hs1.ok
      have HML := Lib.hid (show hs.length = longC i by have := HPF.out.1; rw [hlen] at this; exact this)
      have HM40 := Lib.hid (show longC i ≤ 40 from longC_le i (by have := HQ.out; omega))
      have HLV := Lib.hid (show ∀ j y, hs[j]? = some y → 2 ≤ y ∧ y < s1.n ∧ hasB (s1.v 1) y = true ∧ s1.v y = linkB (hs.getD (j + 1) 0) (chunkC bs j) from fun j y hy => by
        have hp := HPF.out
        obtain ⟨hjl, hye⟩ := List.getElem?_eq_some_iff.1 hy
        have hm := List.mem_of_getElem? hy
        have h3 := hp.2.2.1 y hm
        refine ⟨h3.1, by rw [HN1.out, ← HS.out.cnt]; exact h3.2.1, by rw [hp.2.2.2.2.2 y h3.1 h3.2.1, decide_eq_true hm, Bool.or_true], ?_⟩
        rw [hs1'.v y h3.2.1]
        unfold linksV
        rw [← hye, hp.2.1.idxOf_getElem j hjl, if_pos ⟨by omega, List.getElem_mem hjl⟩])
      have HX00 := Lib.hid (show hs[0]? = some x0 by
        have h1 := HX0.out
        have h2 := longC_pos i
        have h3 := HML.out
        rw [List.getD_eq_getElem?_getD, List.getElem?_eq_getElem (by omega)] at h1
        rw [List.getElem?_eq_getElem (by omega)]; exact congrArg some h1)
      clear hlen hrm hhs' hs1 hs1'
      obtain ⟨G, hG⟩ : ∃ G, s1.g = G := ⟨_, rfl⟩
      have HG := Lib.hid hG
      rw [hG]
      clear hG hge hi
      go_loopw [10, 11, 12] (fun hv av u wr => ∃ (j y : Nat), u = .int .i64 (j : Int) ∧ hv = .int .u32 (y : Int) ∧ av = .int .i64 ((j * 242 : Nat) : Int) ∧ hs[j]? = some y ∧ St NoBlk (fun _ => True) w wr (s1.L ++ [ownB gz 0 bs, errA])) (fun _ _ u _ => 41 - (intOf u).toNat)
      case atStart => exact ⟨0, x0, rfl, rfl, rfl, HX00.out, H⟩
      case round =>
        clear H
        obtain ⟨j, y, rfl, rfl, rfl, hy, H⟩ := hrel
        have HY := Lib.hid hy
        have hjl : j < longC i := by have := (List.getElem?_eq_some_iff.1 hy).1; have := HML.out; omega
        have HJL := Lib.hid hjl
        have hyf := HLV.out j y hy
        have HY1 := Lib.hid hyf
        have hy9 : y < 94 := by have := hyf.2.1; rw [HN1.out] at this; exact this
        have hyi : (y : Int) < 94 := by omega
        have hy0 : 0 ≤ (y : Int) := by omega
        have hj0 : 0 ≤ (j : Int) := by omega
        have hj41 : (j : Int) < 41 := by have := HM40.out; omega
        obtain ⟨nx, hnx⟩ : ∃ nx, hs.getD (j + 1) 0 = nx := ⟨_, rfl⟩
        have HNX := Lib.hid hnx
        have HNXL := Lib.hid (show nx < 94 by
          rw [← hnx, List.getD_eq_getElem?_getD]
          cases hq : hs[j + 1]? with
          | none => simp
          | some z => have := (HLV.out (j + 1) z hq).2.1; rw [HN1.out] at this; simpa using this)
        obtain ⟨ch, hch⟩ : ∃ ch, chunkC bs j = ch := ⟨_, rfl⟩
        have HCH := Lib.hid hch
        obtain ⟨lo, hlo⟩ : ∃ lo, j * 242 = lo := ⟨_, rfl⟩
        have HLO := Lib.hid hlo
        obtain ⟨c1, hc1⟩ : ∃ c1, ch.length = c1 := ⟨_, rfl⟩
        have HC1 := Lib.hid hc1
        have hcl : c1 = min 242 (i - lo) := by rw [← hc1, ← hch, ← hlo, ← HBL.out]; simp [chunkC, List.length_take, List.length_drop]
        have hlo2 : lo ≤ i := by
          rcases Nat.eq_zero_or_pos i with h0 | h0
          · have : longC i = 1 := by rw [h0]; rfl
            omega
          · have := longC_lt i j hjl h0; omega
        have HIL := Lib.hid (show i = lo → lo = 0 from fun h => by
          rcases Nat.eq_zero_or_pos i with h0 | h0
          · omega
          · have := longC_lt i j hjl h0; omega)
        have HHOME := Lib.hid (show s1.v y = linkB nx ch by rw [hyf.2.2.2, hnx, hch])
        have HHB := Lib.hid hyf.2.2.1
        have HYN := Lib.hid hyf.2.1
        have HPART := Lib.hid (show (bs.drop lo).take ch.length = ch by rw [← hch, ← hlo]; simp [chunkC, List.take_take])
        have HC242 := Lib.hid (show c1 ≤ 242 by omega)
        have HLC := Lib.hid (show lo + c1 ≤ i by omega)
        have k0 : (j : Int) * 242 = (lo : Int) := by omega
        have k1 : min ((i : Int) - (lo : Int)) 242 = (c1 : Int) := by omega
        have k2 : 0 ≤ (lo : Int) := by omega
        have k3 : 0 ≤ (c1 : Int) := by omega
        have k4 : (lo : Int) ≤ 9681 := by omega
        have k5 : (c1 : Int) ≤ 242 := by omega
        have HEND := Lib.hid (show (nx = 0 → lo + c1 = i) ∧ (nx ≠ 0 → hs[j + 1]? = some nx ∧ c1 = 242) by
          constructor
          · intro h0
            have hlast : ¬ (j + 1 < longC i) := fun h => by
              have h5 : j + 1 < hs.length := by have := HML.out; omega
              have h6 : hs[j + 1]? = some hs[j + 1] := List.getElem?_eq_getElem h5
              have h7 := (HLV.out (j + 1) _ h6).1
              rw [List.getD_eq_getElem?_getD, h6] at hnx
              simp at hnx
              omega
            have := longC_mul i
            have h8 : longC i = j + 1 := by omega
            rw [h8] at this
            omega
          · intro h0
            have h5 : j + 1 < hs.length := by
              rcases Nat.lt_or_ge (j + 1) hs.length with h | h
              · exact h
              · rw [List.getD_eq_getElem?_getD, List.getElem?_eq_none h] at hnx
                exact absurd hnx.symm h0
            have h6 : hs[j + 1]? = some hs[j + 1] := List.getElem?_eq_getElem h5
            refine ⟨by rw [← hnx, List.getD_eq_getElem?_getD, h6]; rfl, ?_⟩
            have := longC_next i j (by have := HML.out; omega)
            omega)
        have HNXZ := Lib.hid (show linkB (hs.getD (j + 1) 0) (chunkC bs j) = linkB nx ch by rw [hnx, hch])
        clear hy hjl hyf hy9 hnx hch hlo hc1 hcl hlo2
        go_upto_region 20 with (first
          | (go_at_call 23; rw [← HG.out]; go_loud ((refine (rd_TX (s := s1) (H.take 7).bundle HO1.out _ y rfl HYN.out).mono ?_); rintro e W ⟨gc, off, cap, rfl, _, hcap, hgc, hto⟩; replace H := hto.front2 (R := [ownB gz 0 bs, errA]) H; clear hto; rw [HHOME.out] at H))
          | (go_at_call 44; go_loud ((refine (Taken_ok (s := s1) (H.take 7).bundle HO1.out _ y rfl HYN.out).mono ?_); rintro e W ⟨rfl, hto⟩; replace H := hto.front (R := [ownB gz 0 bs, errA, ownB gc off (linkB nx ch)]) H; clear hto; rw [HHB.out])))
        obtain ⟨b0, hb0⟩ : ∃ b, (nx / 256 ^ 0 % 256).toUInt8 = b := ⟨_, rfl⟩
        obtain ⟨b1, hb1⟩ : ∃ b, (nx / 256 ^ 1 % 256).toUInt8 = b := ⟨_, rfl⟩
        obtain ⟨b2, hb2⟩ : ∃ b, (nx / 256 ^ 2 % 256).toUInt8 = b := ⟨_, rfl⟩
        obtain ⟨b3, hb3⟩ : ∃ b, (nx / 256 ^ 3 % 256).toUInt8 = b := ⟨_, rfl⟩
        have HN10 := Lib.hid (show (linkB nx ch)[0]? = some b0 by rw [← hb0]; exact link_get_next nx ch 0 (by omega))
        have HN11 := Lib.hid (show (linkB nx ch)[1]? = some b1 by rw [← hb1]; exact link_get_next nx ch 1 (by omega))
        have HN12 := Lib.hid (show (linkB nx ch)[2]? = some b2 by rw [← hb2]; exact link_get_next nx ch 2 (by omega))
        have HN13 := Lib.hid (show (linkB nx ch)[3]? = some b3 by rw [← hb3]; exact link_get_next nx ch 3 (by omega))
        have HQ4 := Lib.hid (show b0.toNat + b1.toNat * 256 + b2.toNat * 65536 + b3.toNat * 16777216 = nx by rw [← hb0, ← hb1, ← hb2, ← hb3]; simp only [Lib.toUInt8_mod]; exact quad nx (by have := HNXL.out; omega))
        obtain ⟨d0, hd0⟩ : ∃ b, (ch.length / 256 ^ 0 % 256).toUInt8 = b := ⟨_, rfl⟩
        obtain ⟨d1, hd1⟩ : ∃ b, (ch.length / 256 ^ 1 % 256).toUInt8 = b := ⟨_, rfl⟩
        have HD0 := Lib.hid (show (linkB nx ch)[4 + 0]? = some d0 by rw [← hd0]; exact link_get_size nx ch 0 (by omega))
        have HD1 := Lib.hid (show (linkB nx ch)[4 + 1]? = some d1 by rw [← hd1]; exact link_get_size nx ch 1 (by omega))
        have HQ2 := Lib.hid (show d0.toNat + d1.toNat * 256 = c1 by rw [← hd0, ← hd1, HC1.out]; simp only [Lib.toUInt8_mod]; have := HC242.out; simp; omega)
        clear hb0 hb1 hb2 hb3 hd0 hd1
        replace H : St NoBlk (fun _ => True) w W (s1.L ++ [ownB gz 0 bs, errA, ownB gc off (linkB nx ch)]) := H
        replace H := H.drew
        refine wp_region_held_drew (S := fun w' => BytesAt w' gc off (linkB nx ch)) (by kernel_rfl) (ownB_bytes (H.at 9 rfl)) (fun hHeld => ?_)
        (refine wpAnyH_take (i := 0) (v := ?_) rfl (by kernel_rfl) (by kernel_rfl) (by kernel_rfl) (fun _ _ _ h => h) (Or.inl ⟨by rfl, ?_⟩) (by assumption) ?_; rotate_left; focus (intro w hSw; (try dsimp only at hSw); go_simp; all_goals (with_reducible rfl))); (try simp only [Act.put, List.setIfInBounds_toArray, List.set_cons_zero, List.set_cons_succ, List.getElem_toArray, List.getElem_cons_succ, List.getElem_cons_zero])
        (refine wpAnyH_take (i := 1) (v := ?_) rfl (by kernel_rfl) (by kernel_rfl) (by kernel_rfl) (fun _ _ _ h => h) (Or.inl ⟨by rfl, ?_⟩) (by assumption) ?_; rotate_left; focus (intro w hSw; (try dsimp only at hSw); go_simp; all_goals (with_reducible rfl))); (try simp only [Act.put, List.setIfInBounds_toArray, List.set_cons_zero, List.set_cons_succ, List.getElem_toArray, List.getElem_cons_succ, List.getElem_cons_zero])
        (refine wpAnyH_take (i := 2) rfl (by kernel_rfl) (by kernel_rfl) (by kernel_rfl) (fun _ _ _ h => h) ((yieldsIf_load1 (by rfl) 5 _ rfl _ _ (by rfl) _ Tryz.underlying5 rfl _ (fun w h => (h.cellv HD0.out)))) (by assumption) ?_); (try simp only [Act.put, List.setIfInBounds_toArray, List.set_cons_zero, List.set_cons_succ, List.getElem_toArray, List.getElem_cons_succ, List.getElem_cons_zero])
        (refine wpAnyH_take (i := 3) (v := ?_) rfl (by kernel_rfl) (by kernel_rfl) (by kernel_rfl) (fun _ _ _ h => h) (Or.inl ⟨by rfl, ?_⟩) (by assumption) ?_; rotate_left; focus (intro w hSw; (try dsimp only at hSw); go_simp; all_goals (with_reducible rfl))); (try simp only [Act.put, List.setIfInBounds_toArray, List.set_cons_zero, List.set_cons_succ, List.getElem_toArray, List.getElem_cons_succ, List.getElem_cons_zero])
        (refine wpAnyH_take (i := 4) (v := ?_) rfl (by kernel_rfl) (by kernel_rfl) (by kernel_rfl) (fun _ _ _ h => h) (Or.inl ⟨by rfl, ?_⟩) (by assumption) ?_; rotate_left; focus (intro w hSw; (try dsimp only at hSw); go_simp; all_goals (with_reducible rfl))); (try simp only [Act.put, List.setIfInBounds_toArray, List.set_cons_zero, List.set_cons_succ, List.getElem_toArray, List.getElem_cons_succ, List.getElem_cons_zero])
        (refine wpAnyH_take (i := 5) (v := ?_) rfl (by kernel_rfl) (by kernel_rfl) (by kernel_rfl) (fun _ _ _ h => h) (Or.inl ⟨by rfl, ?_⟩) (by assumption) ?_; rotate_left; focus (intro w hSw; (try dsimp only at hSw); go_simp; all_goals (with_reducible rfl))); (try simp only [Act.put, List.setIfInBounds_toArray, List.set_cons_zero, List.set_cons_succ, List.getElem_toArray, List.getElem_cons_succ, List.getElem_cons_zero])
        (refine wpAnyH_take (i := 6) rfl (by kernel_rfl) (by kernel_rfl) (by kernel_rfl) (fun _ _ _ h => h) ((yieldsIf_load1 (by rfl) 5 _ rfl _ _ (by rfl) _ Tryz.underlying5 rfl _ (fun w h => (h.cellv HD1.out)))) (by assumption) ?_); (try simp only [Act.put, List.setIfInBounds_toArray, List.set_cons_zero, List.set_cons_succ, List.getElem_toArray, List.getElem_cons_succ, List.getElem_cons_zero])
        (refine wpAnyH_take (i := 7) (v := ?_) rfl (by kernel_rfl) (by kernel_rfl) (by kernel_rfl) (fun _ _ _ h => h) (Or.inl ⟨by rfl, ?_⟩) (by assumption) ?_; rotate_left; focus (intro w hSw; (try dsimp only at hSw); go_simp; all_goals (with_reducible rfl))); (try simp only [Act.put, List.setIfInBounds_toArray, List.set_cons_zero, List.set_cons_succ, List.getElem_toArray, List.getElem_cons_succ, List.getElem_cons_zero])
        (refine wpAnyH_take (i := 8) (v := ?_) rfl (by kernel_rfl) (by kernel_rfl) (by kernel_rfl) (fun _ _ _ h => h) (Or.inl ⟨by rfl, ?_⟩) (by assumption) ?_; rotate_left; focus (intro w hSw; (try dsimp only at hSw); go_simp; all_goals (with_reducible rfl))); (try simp only [Act.put, List.setIfInBounds_toArray, List.set_cons_zero, List.set_cons_succ, List.getElem_toArray, List.getElem_cons_succ, List.getElem_cons_zero])
        (refine wpAnyH_take (i := 9) (v := ?_) rfl (by kernel_rfl) (by kernel_rfl) (by kernel_rfl) (fun _ _ _ h => h) (Or.inl ⟨by rfl, ?_⟩) (by assumption) ?_; rotate_left; focus (intro w hSw; (try dsimp only at hSw); go_simp; all_goals (with_reducible rfl))); (try simp only [Act.put, List.setIfInBounds_toArray, List.set_cons_zero, List.set_cons_succ, List.getElem_toArray, List.getElem_cons_succ, List.getElem_cons_zero])
        (refine wpAnyH_take (i := 10) (v := ?_) rfl (by kernel_rfl) (by kernel_rfl) (by kernel_rfl) (fun _ _ _ h => h) (Or.inl ⟨by rfl, ?_⟩) (by assumption) ?_; rotate_left; focus (intro w hSw; (try dsimp only at hSw); go_simp; all_goals (with_reducible rfl))); (try simp only [Act.put, List.setIfInBounds_toArray, List.set_cons_zero, List.set_cons_succ, List.getElem_toArray, List.getElem_cons_succ, List.getElem_cons_zero])
        (refine wpAnyH_done (by kernel_rfl) ?_ _)
        clear hHeld
        go_upto_region 21 with fail
        rw [pairw _ _ _ HQ2.out d0.toNat_lt d1.toNat_lt]
        replace H := H.drew
        refine wp_region_held_drew (S := fun w' => BytesAt w' gc off (linkB nx ch)) (by kernel_rfl) (ownB_bytes (H.at 9 rfl)) (fun hHeld => ?_)
        (refine wpAnyH_take (i := 0) (v := ?_) rfl (by kernel_rfl) (by kernel_rfl) (by kernel_rfl) (fun _ _ _ h => h) (Or.inl ⟨by rfl, ?_⟩) (by assumption) ?_; rotate_left; focus (intro w hSw; (try dsimp only at hSw); go_simp; all_goals (with_reducible rfl))); (try simp only [Act.put, List.setIfInBounds_toArray, List.set_cons_zero, List.set_cons_succ, List.getElem_toArray, List.getElem_cons_succ, List.getElem_cons_zero])
        (refine wpAnyH_take (i := 1) (v := ?_) rfl (by kernel_rfl) (by kernel_rfl) (by kernel_rfl) (fun _ _ _ h => h) (Or.inl ⟨by rfl, ?_⟩) (by assumption) ?_; rotate_left; focus (intro w hSw; (try dsimp only at hSw); go_simp; all_goals (with_reducible rfl))); (try simp only [Act.put, List.setIfInBounds_toArray, List.set_cons_zero, List.set_cons_succ, List.getElem_toArray, List.getElem_cons_succ, List.getElem_cons_zero])
        (refine wpAnyH_take (i := 2) rfl (by kernel_rfl) (by kernel_rfl) (by kernel_rfl) (fun _ _ _ h => h) ((yieldsIf_load1 (by rfl) 5 _ rfl _ _ (by rfl) _ Tryz.underlying5 rfl _ (fun w h => (h.cellv HN10.out)))) (by assumption) ?_); (try simp only [Act.put, List.setIfInBounds_toArray, List.set_cons_zero, List.set_cons_succ, List.getElem_toArray, List.getElem_cons_succ, List.getElem_cons_zero])
        (refine wpAnyH_take (i := 3) (v := ?_) rfl (by kernel_rfl) (by kernel_rfl) (by kernel_rfl) (fun _ _ _ h => h) (Or.inl ⟨by rfl, ?_⟩) (by assumption) ?_; rotate_left; focus (intro w hSw; (try dsimp only at hSw); go_simp; all_goals (with_reducible rfl))); (try simp only [Act.put, List.setIfInBounds_toArray, List.set_cons_zero, List.set_cons_succ, List.getElem_toArray, List.getElem_cons_succ, List.getElem_cons_zero])
        (refine wpAnyH_take (i := 4) (v := ?_) rfl (by kernel_rfl) (by kernel_rfl) (by kernel_rfl) (fun _ _ _ h => h) (Or.inl ⟨by rfl, ?_⟩) (by assumption) ?_; rotate_left; focus (intro w hSw; (try dsimp only at hSw); go_simp; all_goals (with_reducible rfl))); (try simp only [Act.put, List.setIfInBounds_toArray, List.set_cons_zero, List.set_cons_succ, List.getElem_toArray, List.getElem_cons_succ, List.getElem_cons_zero])
        (refine wpAnyH_take (i := 5) (v := ?_) rfl (by kernel_rfl) (by kernel_rfl) (by kernel_rfl) (fun _ _ _ h => h) (Or.inl ⟨by rfl, ?_⟩) (by assumption) ?_; rotate_left; focus (intro w hSw; (try dsimp only at hSw); go_simp; all_goals (with_reducible rfl))); (try simp only [Act.put, List.setIfInBounds_toArray, List.set_cons_zero, List.set_cons_succ, List.getElem_toArray, List.getElem_cons_succ, List.getElem_cons_zero])
        (refine wpAnyH_take (i := 6) rfl (by kernel_rfl) (by kernel_rfl) (by kernel_rfl) (fun _ _ _ h => h) ((yieldsIf_load1 (by rfl) 5 _ rfl _ _ (by rfl) _ Tryz.underlying5 rfl _ (fun w h => (h.cellv HN11.out)))) (by assumption) ?_); (try simp only [Act.put, List.setIfInBounds_toArray, List.set_cons_zero, List.set_cons_succ, List.getElem_toArray, List.getElem_cons_succ, List.getElem_cons_zero])
        (refine wpAnyH_take (i := 7) (v := ?_) rfl (by kernel_rfl) (by kernel_rfl) (by kernel_rfl) (fun _ _ _ h => h) (Or.inl ⟨by rfl, ?_⟩) (by assumption) ?_; rotate_left; focus (intro w hSw; (try dsimp only at hSw); go_simp; all_goals (with_reducible rfl))); (try simp only [Act.put, List.setIfInBounds_toArray, List.set_cons_zero, List.set_cons_succ, List.getElem_toArray, List.getElem_cons_succ, List.getElem_cons_zero])
        (refine wpAnyH_take (i := 8) (v := ?_) rfl (by kernel_rfl) (by kernel_rfl) (by kernel_rfl) (fun _ _ _ h => h) (Or.inl ⟨by rfl, ?_⟩) (by assumption) ?_; rotate_left; focus (intro w hSw; (try dsimp only at hSw); go_simp; all_goals (with_reducible rfl))); (try simp only [Act.put, List.setIfInBounds_toArray, List.set_cons_zero, List.set_cons_succ, List.getElem_toArray, List.getElem_cons_succ, List.getElem_cons_zero])
        (refine wpAnyH_take (i := 9) (v := ?_) rfl (by kernel_rfl) (by kernel_rfl) (by kernel_rfl) (fun _ _ _ h => h) (Or.inl ⟨by rfl, ?_⟩) (by assumption) ?_; rotate_left; focus (intro w hSw; (try dsimp only at hSw); go_simp; all_goals (with_reducible rfl))); (try simp only [Act.put, List.setIfInBounds_toArray, List.set_cons_zero, List.set_cons_succ, List.getElem_toArray, List.getElem_cons_succ, List.getElem_cons_zero])
        (refine wpAnyH_take (i := 10) (v := ?_) rfl (by kernel_rfl) (by kernel_rfl) (by kernel_rfl) (fun _ _ _ h => h) (Or.inl ⟨by rfl, ?_⟩) (by assumption) ?_; rotate_left; focus (intro w hSw; (try dsimp only at hSw); go_simp; all_goals (with_reducible rfl))); (try simp only [Act.put, List.setIfInBounds_toArray, List.set_cons_zero, List.set_cons_succ, List.getElem_toArray, List.getElem_cons_succ, List.getElem_cons_zero])
        (refine wpAnyH_take (i := 11) (v := ?_) rfl (by kernel_rfl) (by kernel_rfl) (by kernel_rfl) (fun _ _ _ h => h) (Or.inl ⟨by rfl, ?_⟩) (by assumption) ?_; rotate_left; focus (intro w hSw; (try dsimp only at hSw); go_simp; all_goals (with_reducible rfl))); (try simp only [Act.put, List.setIfInBounds_toArray, List.set_cons_zero, List.set_cons_succ, List.getElem_toArray, List.getElem_cons_succ, List.getElem_cons_zero])
        (refine wpAnyH_take (i := 12) rfl (by kernel_rfl) (by kernel_rfl) (by kernel_rfl) (fun _ _ _ h => h) ((yieldsIf_load1 (by rfl) 5 _ rfl _ _ (by rfl) _ Tryz.underlying5 rfl _ (fun w h => (h.cellv HN12.out)))) (by assumption) ?_); (try simp only [Act.put, List.setIfInBounds_toArray, List.set_cons_zero, List.set_cons_succ, List.getElem_toArray, List.getElem_cons_succ, List.getElem_cons_zero])
        (refine wpAnyH_take (i := 13) (v := ?_) rfl (by kernel_rfl) (by kernel_rfl) (by kernel_rfl) (fun _ _ _ h => h) (Or.inl ⟨by rfl, ?_⟩) (by assumption) ?_; rotate_left; focus (intro w hSw; (try dsimp only at hSw); go_simp; all_goals (with_reducible rfl))); (try simp only [Act.put, List.setIfInBounds_toArray, List.set_cons_zero, List.set_cons_succ, List.getElem_toArray, List.getElem_cons_succ, List.getElem_cons_zero])
        (refine wpAnyH_take (i := 14) (v := ?_) rfl (by kernel_rfl) (by kernel_rfl) (by kernel_rfl) (fun _ _ _ h => h) (Or.inl ⟨by rfl, ?_⟩) (by assumption) ?_; rotate_left; focus (intro w hSw; (try dsimp only at hSw); go_simp; all_goals (with_reducible rfl))); (try simp only [Act.put, List.setIfInBounds_toArray, List.set_cons_zero, List.set_cons_succ, List.getElem_toArray, List.getElem_cons_succ, List.getElem_cons_zero])
        (refine wpAnyH_take (i := 15) (v := ?_) rfl (by kernel_rfl) (by kernel_rfl) (by kernel_rfl) (fun _ _ _ h => h) (Or.inl ⟨by rfl, ?_⟩) (by assumption) ?_; rotate_left; focus (intro w hSw; (try dsimp only at hSw); go_simp; all_goals (with_reducible rfl))); (try simp only [Act.put, List.setIfInBounds_toArray, List.set_cons_zero, List.set_cons_succ, List.getElem_toArray, List.getElem_cons_succ, List.getElem_cons_zero])
        (refine wpAnyH_take (i := 16) (v := ?_) rfl (by kernel_rfl) (by kernel_rfl) (by kernel_rfl) (fun _ _ _ h => h) (Or.inl ⟨by rfl, ?_⟩) (by assumption) ?_; rotate_left; focus (intro w hSw; (try dsimp only at hSw); go_simp; all_goals (with_reducible rfl))); (try simp only [Act.put, List.setIfInBounds_toArray, List.set_cons_zero, List.set_cons_succ, List.getElem_toArray, List.getElem_cons_succ, List.getElem_cons_zero])
        (refine wpAnyH_take (i := 17) (v := ?_) rfl (by kernel_rfl) (by kernel_rfl) (by kernel_rfl) (fun _ _ _ h => h) (Or.inl ⟨by rfl, ?_⟩) (by assumption) ?_; rotate_left; focus (intro w hSw; (try dsimp only at hSw); go_simp; all_goals (with_reducible rfl))); (try simp only [Act.put, List.setIfInBounds_toArray, List.set_cons_zero, List.set_cons_succ, List.getElem_toArray, List.getElem_cons_succ, List.getElem_cons_zero])
        (refine wpAnyH_take (i := 18) rfl (by kernel_rfl) (by kernel_rfl) (by kernel_rfl) (fun _ _ _ h => h) ((yieldsIf_load1 (by rfl) 5 _ rfl _ _ (by rfl) _ Tryz.underlying5 rfl _ (fun w h => (h.cellv HN13.out)))) (by assumption) ?_); (try simp only [Act.put, List.setIfInBounds_toArray, List.set_cons_zero, List.set_cons_succ, List.getElem_toArray, List.getElem_cons_succ, List.getElem_cons_zero])
        (refine wpAnyH_take (i := 19) (v := ?_) rfl (by kernel_rfl) (by kernel_rfl) (by kernel_rfl) (fun _ _ _ h => h) (Or.inl ⟨by rfl, ?_⟩) (by assumption) ?_; rotate_left; focus (intro w hSw; (try dsimp only at hSw); go_simp; all_goals (with_reducible rfl))); (try simp only [Act.put, List.setIfInBounds_toArray, List.set_cons_zero, List.set_cons_succ, List.getElem_toArray, List.getElem_cons_succ, List.getElem_cons_zero])
        (refine wpAnyH_take (i := 20) (v := ?_) rfl (by kernel_rfl) (by kernel_rfl) (by kernel_rfl) (fun _ _ _ h => h) (Or.inl ⟨by rfl, ?_⟩) (by assumption) ?_; rotate_left; focus (intro w hSw; (try dsimp only at hSw); go_simp; all_goals (with_reducible rfl))); (try simp only [Act.put, List.setIfInBounds_toArray, List.set_cons_zero, List.set_cons_succ, List.getElem_toArray, List.getElem_cons_succ, List.getElem_cons_zero])
        (refine wpAnyH_take (i := 21) (v := ?_) rfl (by kernel_rfl) (by kernel_rfl) (by kernel_rfl) (fun _ _ _ h => h) (Or.inl ⟨by rfl, ?_⟩) (by assumption) ?_; rotate_left; focus (intro w hSw; (try dsimp only at hSw); go_simp; all_goals (with_reducible rfl))); (try simp only [Act.put, List.setIfInBounds_toArray, List.set_cons_zero, List.set_cons_succ, List.getElem_toArray, List.getElem_cons_succ, List.getElem_cons_zero])
        (refine wpAnyH_take (i := 22) (v := ?_) rfl (by kernel_rfl) (by kernel_rfl) (by kernel_rfl) (fun _ _ _ h => h) (Or.inl ⟨by rfl, ?_⟩) (by assumption) ?_; rotate_left; focus (intro w hSw; (try dsimp only at hSw); go_simp; all_goals (with_reducible rfl))); (try simp only [Act.put, List.setIfInBounds_toArray, List.set_cons_zero, List.set_cons_succ, List.getElem_toArray, List.getElem_cons_succ, List.getElem_cons_zero])
        (refine wpAnyH_done (by kernel_rfl) ?_ _)
        clear hHeld
        go_upto_region 23 with fail
        rw [quadw32 _ _ _ _ _ HQ4.out b0.toNat_lt b1.toNat_lt b2.toNat_lt b3.toNat_lt]
        have HLB := Lib.hid (link_bytes nx ch)
        have hw1 : IntKind.i64.wrap (6 + (c1 : Int)) = 6 + (c1 : Int) := by rw [IntKind.wrap_i64]; omega
        have hw2 : IntKind.i64.wrap ((lo : Int) + (c1 : Int)) = (lo : Int) + (c1 : Int) := by rw [IntKind.wrap_i64]; omega
        have hg1 : decide (248 < 6 + (c1 : Int)) = false := decide_eq_false (by omega)
        have hg2 : ¬ (248 < 6 + (c1 : Int)) := by omega
        clear k0 k1
        replace H := H.drew
        refine wp_region_held_drew (S := fun w' => BytesAt w' gc off (linkB nx ch) ∧ BytesAt w' gz 0 bs) (by kernel_rfl) ⟨ownB_bytes (H.at 9 rfl), ownB_bytes (H.at 7 rfl)⟩ (fun hHeld => ?_)
        (refine wpAnyH_take (i := 0) (v := ?_) rfl (by kernel_rfl) (by kernel_rfl) (by kernel_rfl) (fun _ _ _ h => h) (Or.inl ⟨by rfl, ?_⟩) (by assumption) ?_; rotate_left; focus (intro w hSw; (try dsimp only at hSw); go_simp; all_goals (with_reducible rfl))); (try simp only [Act.put, List.setIfInBounds_toArray, List.set_cons_zero, List.set_cons_succ, List.getElem_toArray, List.getElem_cons_succ, List.getElem_cons_zero])
        (refine wpAnyH_take (i := 1) (v := ?_) rfl (by kernel_rfl) (by kernel_rfl) (by kernel_rfl) (fun _ _ _ h => h) (Or.inl ⟨by rfl, ?_⟩) (by assumption) ?_; rotate_left; focus (intro w hSw; (try dsimp only at hSw); go_simp; all_goals (with_reducible rfl))); (try simp only [Act.put, List.setIfInBounds_toArray, List.set_cons_zero, List.set_cons_succ, List.getElem_toArray, List.getElem_cons_succ, List.getElem_cons_zero])
        (refine wpAnyH_take (i := 2) (v := ?_) rfl (by kernel_rfl) (by kernel_rfl) (by kernel_rfl) (fun _ _ _ h => h) (Or.inl ⟨by rfl, ?_⟩) (by assumption) ?_; rotate_left; focus (intro w hSw; (try dsimp only at hSw); go_simp; all_goals (with_reducible rfl))); (try simp only [Act.put, List.setIfInBounds_toArray, List.set_cons_zero, List.set_cons_succ, List.getElem_toArray, List.getElem_cons_succ, List.getElem_cons_zero])
        (refine wpAnyH_take (i := 3) (v := ?_) rfl (by kernel_rfl) (by kernel_rfl) (by kernel_rfl) (fun _ _ _ h => h) (Or.inl ⟨by rfl, ?_⟩) (by assumption) ?_; rotate_left; focus (intro w hSw; (try dsimp only at hSw); go_simp; all_goals (with_reducible rfl))); (try simp only [Act.put, List.setIfInBounds_toArray, List.set_cons_zero, List.set_cons_succ, List.getElem_toArray, List.getElem_cons_succ, List.getElem_cons_zero])
        (refine wpAnyH_take (i := 4) (v := ?_) rfl (by kernel_rfl) (by kernel_rfl) (by kernel_rfl) (fun _ _ _ h => h) (Or.inl ⟨by rfl, ?_⟩) (by assumption) ?_; rotate_left; focus (intro w hSw; (try dsimp only at hSw); go_simp; all_goals (with_reducible rfl))); (try simp only [Act.put, List.setIfInBounds_toArray, List.set_cons_zero, List.set_cons_succ, List.getElem_toArray, List.getElem_cons_succ, List.getElem_cons_zero])
        (refine wpAnyH_take (i := 5) (v := ?_) rfl (by kernel_rfl) (by kernel_rfl) (by kernel_rfl) (fun _ _ _ h => h) (Or.inl ⟨by rfl, ?_⟩) (by assumption) ?_; rotate_left; focus (intro w hSw; (try dsimp only at hSw); go_simp; all_goals (with_reducible rfl))); (try simp only [Act.put, List.setIfInBounds_toArray, List.set_cons_zero, List.set_cons_succ, List.getElem_toArray, List.getElem_cons_succ, List.getElem_cons_zero])
        (refine wpAnyH_take (i := 6) (v := ?_) rfl (by kernel_rfl) (by kernel_rfl) (by kernel_rfl) (fun _ _ _ h => h) (Or.inl ⟨by rfl, ?_⟩) (by assumption) ?_; rotate_left; focus (intro w hSw; (try dsimp only at hSw); go_simp; all_goals (with_reducible rfl))); (try simp only [Act.put, List.setIfInBounds_toArray, List.set_cons_zero, List.set_cons_succ, List.getElem_toArray, List.getElem_cons_succ, List.getElem_cons_zero])
        (refine wpAnyH_take (i := 7) (v := ?_) rfl (by kernel_rfl) (by kernel_rfl) (by kernel_rfl) (fun _ _ _ h => h) (Or.inl ⟨by rfl, ?_⟩) (by assumption) ?_; rotate_left; focus (intro w hSw; (try dsimp only at hSw); go_simp; all_goals (with_reducible rfl))); (try simp only [Act.put, List.setIfInBounds_toArray, List.set_cons_zero, List.set_cons_succ, List.getElem_toArray, List.getElem_cons_succ, List.getElem_cons_zero])
        (refine wpAnyH_take (i := 8) (v := ?_) rfl (by kernel_rfl) (by kernel_rfl) (by kernel_rfl) (fun _ _ _ h => h) (Or.inl ⟨by rfl, ?_⟩) (by assumption) ?_; rotate_left; focus (intro w hSw; (try dsimp only at hSw); go_simp; all_goals (with_reducible rfl))); (try simp only [Act.put, List.setIfInBounds_toArray, List.set_cons_zero, List.set_cons_succ, List.getElem_toArray, List.getElem_cons_succ, List.getElem_cons_zero])
        (refine wpAnyH_take (i := 9) (v := ?_) rfl (by kernel_rfl) (by kernel_rfl) (by kernel_rfl) (fun _ _ _ h => h) (Or.inl ⟨by rfl, ?_⟩) (by assumption) ?_; rotate_left; focus (intro w hSw; (try dsimp only at hSw); go_simp; all_goals (with_reducible rfl))); (try simp only [Act.put, List.setIfInBounds_toArray, List.set_cons_zero, List.set_cons_succ, List.getElem_toArray, List.getElem_cons_succ, List.getElem_cons_zero])
        (refine wpAnyH_take (i := 10) (v := ?_) rfl (by kernel_rfl) (by kernel_rfl) (by kernel_rfl) (fun _ _ _ h => h) (Or.inl ⟨by rfl, ?_⟩) (by assumption) ?_; rotate_left; focus (intro w hSw; (try dsimp only at hSw); go_simp; all_goals (with_reducible rfl))); (try simp only [Act.put, List.setIfInBounds_toArray, List.set_cons_zero, List.set_cons_succ, List.getElem_toArray, List.getElem_cons_succ, List.getElem_cons_zero])
        (refine wpAnyH_take (i := 11) (v := ?_) rfl (by kernel_rfl) (by kernel_rfl) (by kernel_rfl) (fun _ _ _ h => h) (Or.inl ⟨by rfl, ?_⟩) (by assumption) ?_; rotate_left; focus (intro w hSw; (try dsimp only at hSw); go_simp; all_goals (with_reducible rfl))); (try simp only [Act.put, List.setIfInBounds_toArray, List.set_cons_zero, List.set_cons_succ, List.getElem_toArray, List.getElem_cons_succ, List.getElem_cons_zero])
        (refine wpAnyH_take (i := 12) (v := ?_) rfl (by kernel_rfl) (by kernel_rfl) (by kernel_rfl) (fun _ _ _ h => h) (Or.inl ⟨by rfl, ?_⟩) (by assumption) ?_; rotate_left; focus (intro w hSw; (try dsimp only at hSw); go_simp; all_goals (with_reducible rfl))); (try simp only [Act.put, List.setIfInBounds_toArray, List.set_cons_zero, List.set_cons_succ, List.getElem_toArray, List.getElem_cons_succ, List.getElem_cons_zero])
        (refine wpAnyH_take (i := 13) (v := ?_) rfl (by kernel_rfl) (by kernel_rfl) (by kernel_rfl) (fun _ _ _ h => h) (Or.inl ⟨by rfl, ?_⟩) (by assumption) ?_; rotate_left; focus (intro w hSw; (try dsimp only at hSw); go_simp; all_goals (with_reducible rfl))); (try simp only [Act.put, List.setIfInBounds_toArray, List.set_cons_zero, List.set_cons_succ, List.getElem_toArray, List.getElem_cons_succ, List.getElem_cons_zero])
        refine wpAnyH_take (i := 14) (v := .slice (some ⟨gc, off + 6, none⟩) c1 (cap - 6)) rfl (by kernel_rfl) (by kernel_rfl) (by kernel_rfl) (fun _ _ _ h => h) (Or.inl ⟨by rfl, fun w hSw => by dsimp only at hSw; go_simp; rw [if_pos (by omega), if_pos (by omega), if_neg (show ¬ cap = 6 by omega), show (6 + (c1 : Int)).toNat - 6 = c1 by omega]⟩) (by assumption) ?_
        (try simp only [Act.put, List.setIfInBounds_toArray, List.set_cons_zero, List.set_cons_succ, List.getElem_toArray, List.getElem_cons_succ, List.getElem_cons_zero])
        (refine wpAnyH_take (i := 15) rfl (by kernel_rfl) (by kernel_rfl) (by kernel_rfl) (fun _ _ _ h => h) ((yieldsIf_bytes_str (by rfl) 40 9 _ rfl _ _ _ _ (by rfl) 5 Tryz.underlying40 Tryz.underlying5 Tryz.underlying9 ch HC1.out.symm (fun w h => h.1.part 6 HLB.out))) (by assumption) ?_); (try simp only [Act.put, List.setIfInBounds_toArray, List.set_cons_zero, List.set_cons_succ, List.getElem_toArray, List.getElem_cons_succ, List.getElem_cons_zero])
        (refine wpAnyH_take (i := 16) (v := ?_) rfl (by kernel_rfl) (by kernel_rfl) (by kernel_rfl) (fun _ _ _ h => h) (Or.inl ⟨by rfl, ?_⟩) (by assumption) ?_; rotate_left; focus (intro w hSw; (try dsimp only at hSw); go_simp; all_goals (with_reducible rfl))); (try simp only [Act.put, List.setIfInBounds_toArray, List.set_cons_zero, List.set_cons_succ, List.getElem_toArray, List.getElem_cons_succ, List.getElem_cons_zero])
        (refine wpAnyH_take (i := 17) (v := ?_) rfl (by kernel_rfl) (by kernel_rfl) (by kernel_rfl) (fun _ _ _ h => h) (Or.inl ⟨by rfl, ?_⟩) (by assumption) ?_; rotate_left; focus (intro w hSw; (try dsimp only at hSw); go_simp; all_goals (with_reducible rfl))); (try simp only [Act.put, List.setIfInBounds_toArray, List.set_cons_zero, List.set_cons_succ, List.getElem_toArray, List.getElem_cons_succ, List.getElem_cons_zero])
        (refine wpAnyH_take (i := 18) (v := ?_) rfl (by kernel_rfl) (by kernel_rfl) (by kernel_rfl) (fun _ _ _ h => h) (Or.inl ⟨by rfl, ?_⟩) (by assumption) ?_; rotate_left; focus (intro w hSw; (try dsimp only at hSw); go_simp; all_goals (with_reducible rfl))); (try simp only [Act.put, List.setIfInBounds_toArray, List.set_cons_zero, List.set_cons_succ, List.getElem_toArray, List.getElem_cons_succ, List.getElem_cons_zero])
        (refine wpAnyH_take (i := 19) (v := ?_) rfl (by kernel_rfl) (by kernel_rfl) (by kernel_rfl) (fun _ _ _ h => h) (Or.inl ⟨by rfl, ?_⟩) (by assumption) ?_; rotate_left; focus (intro w hSw; (try dsimp only at hSw); go_simp; all_goals (with_reducible rfl))); (try simp only [Act.put, List.setIfInBounds_toArray, List.set_cons_zero, List.set_cons_succ, List.getElem_toArray, List.getElem_cons_succ, List.getElem_cons_zero])
        (refine wpAnyH_take (i := 20) (v := ?_) rfl (by kernel_rfl) (by kernel_rfl) (by kernel_rfl) (fun _ _ _ h => h) (Or.inl ⟨by rfl, ?_⟩) (by assumption) ?_; rotate_left; focus (intro w hSw; (try dsimp only at hSw); go_simp; all_goals (with_reducible rfl))); (try simp only [Act.put, List.setIfInBounds_toArray, List.set_cons_zero, List.set_cons_succ, List.getElem_toArray, List.getElem_cons_succ, List.getElem_cons_zero])
        refine wpAnyH_take (i := 21) (v := .slice (some ⟨gz, lo, none⟩) c1 (i - lo)) rfl (by kernel_rfl) (by kernel_rfl) (by kernel_rfl) (fun _ _ _ h => h) (Or.inl ⟨by rfl, fun w hSw => by dsimp only at hSw; go_simp; have e1 := HLC.out; have e2 := HIL.out; rw [if_pos ⟨by omega, by omega⟩, if_pos (by omega), show ((lo : Int) + (c1 : Int)).toNat - lo = c1 by omega]; by_cases e3 : i = lo; { rw [if_pos e3, e2 e3] }; { rw [if_neg e3] }⟩) (by assumption) ?_
        (try simp only [Act.put, List.setIfInBounds_toArray, List.set_cons_zero, List.set_cons_succ, List.getElem_toArray, List.getElem_cons_succ, List.getElem_cons_zero])
        (refine wpAnyH_take (i := 22) rfl (by kernel_rfl) (by kernel_rfl) (by kernel_rfl) (fun _ _ _ h => h) ((yieldsIf_bytes_str (by rfl) 40 9 _ rfl _ _ _ _ (by rfl) 5 Tryz.underlying40 Tryz.underlying5 Tryz.underlying9 ch HC1.out.symm (fun w h => by have := h.2.part lo HPART.out; rwa [Nat.zero_add] at this))) (by assumption) ?_); (try simp only [Act.put, List.setIfInBounds_toArray, List.set_cons_zero, List.set_cons_succ, List.getElem_toArray, List.getElem_cons_succ, List.getElem_cons_zero])
        (refine wpAnyH_take (i := 23) (v := ?_) rfl (by kernel_rfl) (by kernel_rfl) (by kernel_rfl) (fun _ _ _ h => h) (Or.inl ⟨by rfl, ?_⟩) (by assumption) ?_; rotate_left; focus (intro w hSw; (try dsimp only at hSw); go_simp; all_goals (with_reducible rfl))); (try simp only [Act.put, List.setIfInBounds_toArray, List.set_cons_zero, List.set_cons_succ, List.getElem_toArray, List.getElem_cons_succ, List.getElem_cons_zero])
        (refine wpAnyH_take (i := 24) (v := ?_) rfl (by kernel_rfl) (by kernel_rfl) (by kernel_rfl) (fun _ _ _ h => h) (Or.inl ⟨by rfl, ?_⟩) (by assumption) ?_; rotate_left; focus (intro w hSw; (try dsimp only at hSw); go_simp; all_goals (with_reducible rfl))); (try simp only [Act.put, List.setIfInBounds_toArray, List.set_cons_zero, List.set_cons_succ, List.getElem_toArray, List.getElem_cons_succ, List.getElem_cons_zero])
        (refine wpAnyH_done (by kernel_rfl) ?_ _)
        clear hHeld hw1 hw2 hg1 hg2
        go_upto_region 26 with fail
        clear HD0 HD1 HQ2 HN10 HN11 HN12 HN13 HQ4
        replace H : St NoBlk (fun _ => True) w _ (s1.L ++ [ownB gz 0 bs, errA, ownB gc off (linkB nx ch)]) := H
        have hn12 : (nx : Int) < 94 := by have := HNXL.out; omega
        have hn10 : 0 ≤ (nx : Int) := by omega
        go_loopw [20] (fun u wr => ∃ k : Nat, u = .int .i64 (k : Int) ∧ 6 + c1 ≤ k ∧ k ≤ 248 ∧ St NoBlk (fun _ => True) w wr (s1.L ++ [ownB gz 0 bs, errA, ownB gc off (linkB nx ch)])) (fun u _ => 248 - (intOf u).toNat)
        case atStart => exact ⟨6 + c1, by rw [Int.natCast_add]; rfl, Nat.le_refl _, by have := HC242.out; omega, H⟩
        case round =>
          clear H
          obtain ⟨k, rfl, hk6, hk248, H⟩ := hrel
          have hk0 : 0 ≤ (k : Int) := by omega
          rcases Nat.lt_or_ge k 248 with hlt | hge
          · have hk9 : (k : Int) < 248 := by omega
            have hcell := (ownB_bytes (H.at 9 rfl)).cellv (i := k) (b := 0) (link_get_rest nx ch k (by rw [HC1.out]; exact hk6) hlt (by rw [HC1.out]; exact HC242.out))
            rw [show (((0 : UInt8).toNat : Nat) : Int) = 0 from rfl] at hcell
            have HK := Lib.hid (show k + 1 ≤ 248 ∧ 6 + c1 ≤ k + 1 by omega)
            clear hk6 hk248 hlt
            go_wp2
            go_roundw
            case rel => exact ⟨k + 1, congrArg _ (by omega), HK.out.2, HK.out.1, H⟩
            case measure => simp [intOf]; omega
          · obtain rfl : k = 248 := by omega
            clear hk6 hk248 hge
            rcases Nat.eq_zero_or_pos nx with h0 | h0
            · subst h0
              have hend : (lo : Int) + (c1 : Int) = (i : Int) := by have := HEND.out.1 rfl; omega
              have hwr : IntKind.i64.wrap ((lo : Int) + (c1 : Int)) = (i : Int) := by rw [IntKind.wrap_i64]; omega
              go_wp2
              go_ret
              exact ⟨by simp, H.fix.below⟩
            · have hnz : ¬ ((nx : Int) = 0) := by omega
              have hnz2 : (nx : Int) ≠ 0 := hnz
              have HNZ := Lib.hid (HEND.out.2 (by omega))
              clear h0
              go_wp2
              simp only [HG.out]
              go_roundw
              case rel => exact ⟨j + 1, nx, congrArg _ (by omega), rfl, congrArg _ (by have := HLO.out; have := HNZ.out.2; omega), HNZ.out.1, H.take 9⟩
              case measure => have := HJL.out; have := HM40.out; simp [intOf]; omega

end Go.Proofs.YtphpegnfcelagaaGreatDoor
