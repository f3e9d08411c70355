/- A group's mark. -/
import Derived.Test.YtajlhloapglafaaGreatDoorLgD
namespace Go.Proofs.YtajlhloapglafaaGreatDoor
open Go.RowKit
set_option linter.unusedSimpArgs false
set_option linter.unusedVariables false
set_option maxRecDepth 4000

set_option maxHeartbeats 2000000 in
theorem markOf_ok {w : World} {g gd gm : Nat} {X : LS} {M : DataW Value} {rm : Nat → Prop} {n : Nat} {D : DS} {own rd : Nat → Prop} {p : Option Addr} {cap : Nat} {ps : List PutS} {rp : Nat → Prop}
    (hb : Bundle w (logL g gd gm X M rm n D own rd ++ [rdA p (putV ps), putsA rp ps])) {N u : Nat} (hf : LogFine X n D N u) (hg : Good ps n X.ring) (ht : X.turn < 2305843009213693952) :
    Calls Tryz.prog 91 #[.pointer (some ⟨g, 0, none⟩), .slice p ps.length cap] w fun e w' => ∃ gk capk l junk, e = .returned (.slice (some ⟨gk, 0, none⟩) 256 capk) ∧ l.length = 256 ∧ 256 ≤ capk ∧
      BunTo w (ownL (logL g gd gm X M rm n D own rd ++ [rdA p (putV ps), putsA rp ps])) (rdL (logL g gd gm X M rm n D own rd ++ [rdA p (putV ps), putsA rp ps]))
        ((logL g gd gm X M rm n D own rd ++ [rdA p (putV ps), putsA rp ps]) ++ [blk gk (.cells (byteV l ++ junk).toArray 5 (0, 0))]) w' := by
  have H := hb.open_
  obtain ⟨O, hO⟩ : ∃ O, ownL (logL g gd gm X M rm n D own rd ++ [rdA p (putV ps), putsA rp ps]) = O := ⟨_, rfl⟩
  obtain ⟨R, hR⟩ : ∃ R, rdL (logL g gd gm X M rm n D own rd ++ [rdA p (putV ps), putsA rp ps]) = R := ⟨_, rfl⟩
  rw [hO, hR] at H ⊢
  clear hO hR hb
  have HF := Lib.hid hf
  have HG := Lib.hid hg
  have hli : (ps.length : Int) ≤ 119 := by have := hg.most; omega
  have ht1 : (X.turn : Int) < 2305843009213693952 := by omega
  have ht0 : 0 ≤ (X.turn : Int) := by omega
  have HT := Lib.hid ht
  clear hf hg ht
  have tok1 : True := trivial
  have tok2 : True := trivial
  go_enter Tryz.func91, Tryz.ntmps91
  go_wp2_with (first
    | (refine wpList_load1_st rfl 33 _ rfl _ _ rfl _ _ _ (H.at 0 rfl) _ Tryz.underlying33 rfl _ (lRow4 _ _ _ _ _ _ _ _ _) ?_)
    | (go_at_call 79; have _t := tok1; clear _t; go_loud ((refine (put_at _ [] (2 * (X.turn : Int) + 1) 8 (2 * X.turn + 1) 8 8 _ (.inl ⟨rfl, rfl⟩) (by omega) rfl rfl (by simp) (by omega) (by omega) (by have := HT.out; omega)).mono ?_); rintro e W1 ⟨g1, cap1, junk1, rfl, hl1, hc1, hj1, hm1, hg1, hb1, hbl⟩; replace H := H.add (Fix.of_below hbl _) (blk g1 _) hb1 (fun k hk => by rw [show k = g1 from hk]; exact hg1) (fun k hk => hk.elim); clear hb1 hbl tok1; simp only [logL, List.nil_append, List.cons_append] at H hl1))
    | (go_at_call 79; have _t := tok2; clear _t; go_loud ((refine (put_at _ (Lib.leBytes 8 (2 * X.turn + 1)) (ps.length : Int) 2 ps.length 2 10 _ (argS_front (H.at 6 rfl) hl1 hc1) rfl rfl (by rw [hl1]) (by rw [hl1]; omega) (by omega) (by omega) (by have := HG.out.most; omega)).mono ?_); rintro e W1 ⟨g2, cap2, junk2, rfl, hl2, hc2, hj2, hm2, hg2, hb2, hbl⟩; replace H := (H.take 6).add (Fix.of_below hbl _) (blk g2 _) hb2 (fun k hk => by rw [show k = g2 from hk]; exact hg2) (fun k hk => hk.elim); clear hb2 hbl tok2; simp only [logL, List.take_succ_cons, List.take_zero, List.nil_append, List.cons_append] at H)))
  go_loopw [24, 6, 8] (fun i b _ wr => ∃ (j gb capb : Nat) (l : List UInt8) (junk : List Value), i = .int .i64 (j : Int) ∧ j ≤ ps.length ∧ b = .slice (some ⟨gb, 0, none⟩) (10 + 2 * j) capb ∧ l.length = 10 + 2 * j ∧ 10 + 2 * j ≤ capb ∧ (byteV l ++ junk).length = capb ∧ capb ≤ maxLen ∧
      St O R w wr ((logL g gd gm X M rm n D own rd ++ [rdA p (putV ps), putsA rp ps]) ++ [blk gb (.cells (byteV l ++ junk).toArray 5 (0, 0))])) (fun i _ _ _ => ps.length - (intOf i).toNat)
  case atStart => exact ⟨0, g2, cap2, _, junk2, rfl, Nat.zero_le _, rfl, hl2, hc2, hj2, hm2, H⟩
  case round =>
    clear H
    obtain ⟨j, gb, capb, l, junk, rfl, hj, rfl, hl, hc, hjl, hcm, H⟩ := hrel
    rcases Nat.lt_or_ge j ps.length with hlt | hge
    · obtain ⟨ga, offa, rfl, hcell0⟩ := rdA_at (H.at 4 rfl) (putV_at ps j hlt).1
      obtain ⟨ga', offa', e1, hcell1⟩ := rdA_at (H.at 4 rfl) (putV_at ps j hlt).2
      simp only [Option.some.injEq, Addr.mk.injEq] at e1
      obtain ⟨rfl, rfl, _⟩ := e1
      obtain ⟨gv, offv, capv, hval, hcv, hrv, hbv⟩ := (H.at 5 rfl : PutsIs wr rp ps).val j hlt (HG.out.len _ (List.getElem_mem hlt))
      rw [hval, ← Nat.add_assoc] at hcell1
      have hhn : ps[j].home < n := HG.out.home _ (List.getElem_mem hlt)
      obtain ⟨h, hh⟩ : ∃ h, ps[j].home = h := ⟨_, rfl⟩
      rw [hh] at hcell0 hhn
      have hji : (j : Int) < (ps.length : Int) := by omega
      have hj0 : 0 ≤ (j : Int) := by omega
      have hh0 : 0 ≤ (h : Int) := by omega
      have hhi : (h : Int) < 1900 := by have := HF.out.fits; have := HF.out.top; omega
      have HH := Lib.hid (show h < 18446744073709551616 by have := HF.out.fits; have := HF.out.top; omega)
      have HL := Lib.hid hl
      have HC := Lib.hid hc
      have HJ := Lib.hid (show j ≤ 119 by have := HG.out.most; omega)
      clear hbv hval hl hc hcv hhn
      go_wp2_with (first
        | (refine wpList_alloc_st H rfl 36 rfl _ zero_put ?_; clear H; intro W g7 H; rw [cells_put] at H; simp only [logL, List.nil_append, List.cons_append] at H)
        | (refine wpList_storerow_st H 7 rfl 36 _ _ rfl _ (pR (h : Int) (.slice (some ⟨gv, offv, none⟩) 248 capv)).toArray rfl rfl _ _ rfl size_put rfl (pR_all _ _ _ _) ?_; clear H; intro W H; simp only [List.set_cons_zero, List.set_cons_succ] at H)
        | (refine wpList_load1_st rfl 3 _ rfl _ _ rfl _ _ _ (H.at 7 rfl) _ Tryz.underlying3 rfl _ (pR0 _ _) ?_)
        | (go_at_call 79; go_loud ((refine (put_at _ l (h : Int) 2 h 2 (10 + 2 * (j + 1)) _ (argS_front (H.at 6 rfl) HL.out HC.out) rfl rfl (by rw [HL.out]; omega) (by rw [HL.out]; have := HJ.out; omega) (by omega) (by omega) HH.out).mono ?_); rintro e W1 ⟨g2, cap2, junk2, rfl, hl2, hc2, hj2, hm2, hg2, hb2, hbl⟩; replace H := (H.take 6).add (Fix.of_below hbl _) (blk g2 _) hb2 (fun k hk => by rw [show k = g2 from hk]; exact hg2) (fun k hk => hk.elim); clear hb2 hbl; simp only [logL, List.take_succ_cons, List.take_zero, List.nil_append, List.cons_append] at H)))
      go_roundw
      case rel => exact ⟨j + 1, g2, cap2, _, junk2, congrArg _ (by omega), by omega, rfl, hl2, hc2, hj2, hm2, H⟩
      case measure => simp [intOf]; omega
    · obtain rfl : j = ps.length := by omega
      have hji : ¬ ((ps.length : Int) < (ps.length : Int)) := by omega
      have HL := Lib.hid hl
      have HC := Lib.hid hc
      by_cases hz : ps.length = 119
      · have e1 : 10 + 2 * ps.length = 248 := by omega
        rw [e1] at HL HC ⊢
        clear hl hc
        go_wp2_with (first
          | (refine wpList_appz0 rfl _ _ 22 3 rfl _ Tryz.underlying22 _ Tryz.underlying3 size_u8 gb 248 capb rfl HC.out _ rfl ?_)
          | (go_at_call 79; go_loud ((refine (put_at _ (l) (2 * (X.turn : Int) + 1) 8 (2 * X.turn + 1) 8 256 _ (argS_front (H.at 6 rfl) (HL.out) (HC.out)) (by omega) rfl (by rw [HL.out]) (by rw [HL.out]; omega) (by omega) (by omega) (by have := HT.out; omega)).mono ?_); rintro e W1 ⟨g2, cap2, junk2, rfl, hl2, hc2, hj2, hm2, hg2, hb2, hbl⟩; replace H := (H.take 6).add (Fix.of_below hbl _) (blk g2 _) hb2 (fun k hk => by rw [show k = g2 from hk]; exact hg2) (fun k hk => hk.elim); clear hb2 hbl; simp only [logL, List.take_succ_cons, List.take_zero, List.nil_append, List.cons_append] at H)))
        go_ret
        exact ⟨g2, cap2, _, junk2, rfl, hl2, hc2, H.bunTo⟩
      · obtain ⟨q, hq⟩ : ∃ q, 10 + 2 * ps.length = q := ⟨_, rfl⟩
        obtain ⟨k, hk⟩ : ∃ k, 248 - q = k := ⟨_, rfl⟩
        have hmo := HG.out.most
        have hk0 : 0 < k := by omega
        have e3 := Lib.hid (show (248 : Int) - (q : Int) = (k : Int) by omega)
        have e2 := Lib.hid (show q + k = 248 by omega)
        have hqi : (q : Int) < 248 := by omega
        have hq0 : 0 ≤ (q : Int) := by omega
        rw [hq] at HL HC ⊢
        clear hl hc hq hk
        have hzr : (List.replicate k (Value.int .u8 0)) = byteV (List.replicate k 0) := by simp [byteV]
        go_wp2_with (first
          | go_loud (refine wpList_appz_st H 6 rfl _ _ 22 3 rfl _ Tryz.underlying22 _ Tryz.underlying3 _ _ info_u8 rfl rfl gb q capb rfl _ rfl HC.out hjl hcm .i64 k (congrArg (Value.int .i64) e3.out) hk0 (by have := e2.out; simp only [maxLen]; omega) (by have := e2.out; omega) ?_; clear H; intro W g5 cap5 junk5 H hj5 hc5 hm5; simp only [List.set_cons_zero, List.set_cons_succ, logL, List.nil_append, List.cons_append] at H; rw [take_byteV _ _ _ HL.out, hzr] at H hj5; rw [show byteV l ++ byteV (List.replicate k 0) = byteV (l ++ List.replicate k 0) by simp [byteV]] at H hj5; rw [e2.out] at hc5 ⊢; have HL5 := Lib.hid (show (l ++ List.replicate k 0).length = 248 by rw [List.length_append, HL.out, List.length_replicate]; exact e2.out))
          | (go_at_call 79; go_loud ((refine (put_at _ (l ++ List.replicate k 0) (2 * (X.turn : Int) + 1) 8 (2 * X.turn + 1) 8 256 _ (argS_front (H.at 6 rfl) (HL5.out) (hc5)) (by omega) rfl (by rw [HL5.out]) (by rw [HL5.out]; omega) (by omega) (by omega) (by have := HT.out; omega)).mono ?_); rintro e W1 ⟨g2, cap2, junk2, rfl, hl2, hc2, hj2, hm2, hg2, hb2, hbl⟩; replace H := (H.take 6).add (Fix.of_below hbl _) (blk g2 _) hb2 (fun k hk => by rw [show k = g2 from hk]; exact hg2) (fun k hk => hk.elim); clear hb2 hbl; simp only [logL, List.take_succ_cons, List.take_zero, List.nil_append, List.cons_append] at H)))
        go_ret
        exact ⟨g2, cap2, _, junk2, rfl, hl2, hc2, H.bunTo⟩

end Go.Proofs.YtajlhloapglafaaGreatDoor
