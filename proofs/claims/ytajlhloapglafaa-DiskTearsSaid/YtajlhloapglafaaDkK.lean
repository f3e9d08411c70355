/- DiskTears, walked. -/
import Derived.Test.YtajlhloapglafaaDkJ
import Derived.Test.YtajlhloapglafaaDkL
namespace Go.Proofs.Ytajlhloapglafaa
open Go.RowKit
set_option linter.unusedSimpArgs false
set_option linter.unusedVariables false
set_option maxRecDepth 4000

theorem tD0_calm : Calm (DS.new 40) 40 0 := ⟨List.length_replicate, rfl, rfl, rfl⟩
theorem tD3_calm (was now : UInt8) : Calm (tD3 was now) 40 2 := ((((⟨List.length_replicate, rfl, rfl, rfl⟩ : Calm (DS.new 40) 40 0).put 5 (fullB was)).flushed).put 6 (fullB now))
theorem tD1_calm (was : UInt8) : Calm (tD1 was) 40 1 := (⟨List.length_replicate, rfl, rfl, rfl⟩ : Calm (DS.new 40) 40 0).put 5 (fullB was)

theorem tD2_calm (was : UInt8) : Calm (tD2 was) 40 1 := (tD1_calm was).flushed

theorem argL_one {w : World} {own : Nat → Prop} {g : Nat} {b : Bool} {t : TypeId} (hg : w.heap[g]? = some (.cells #[.bool b] t (0, 0))) (hno : ¬ own g) : ArgL w own (.slice (some ⟨g, 0, none⟩) 1 1) (([b] : List Bool).map Value.bool) :=
  ⟨⟨some ⟨g, 0, none⟩, 1, rfl, .inr ⟨g, 0, rfl, (Array.getElem?_eq_some_iff.1 hg).1, fun i x hi => by
    rw [Nat.zero_add, cell_of_row w g i _ _ _ hg, ← hi]; simp⟩, fun k hk => by
    obtain ⟨_, ad, e, rfl⟩ := hk
    cases e; exact hno⟩⟩

theorem fill_bool (b : Bool) : Instr.fill (fun i => some (i * 1, 1)) ((Array.range (1 * 1)).map ((Value.bool false).cells[· % (Value.bool false).cells.size]!)) [(0, .bool b)] = some #[.bool b] := by kernel_rfl
theorem zero_bool : (Try.prog.info? 4).bind (·.zero) = some (.bool false) := by kernel_rfl

theorem tA4 (was now : UInt8) (p : Int) : (tD3 was now).arm 0 p = tD4 was now p := rfl
theorem tDd4 (was now : UInt8) (p : Int) : (tD4 was now p).dead = false := rfl
theorem tB4 (was now : UInt8) (p : Int) : (tD4 was now p).failsB = true := rfl
theorem tA5 (was now : UInt8) (p : Int) : { (tD4 was now p).failsD with way := ((5 : Nat) : Int), torn := (fullB now).take (tD4 was now p).part.toNat } = tD5 was now p := rfl
theorem tDd5 (was now : UInt8) (p : Int) : (tD5 was now p).dead = true := rfl

theorem tLv5 (was now : UInt8) (p : Int) : 0 ≤ (tD5 was now p).lives ∧ (tD5 was now p).lives < 1000000 := by
  have : (tD5 was now p).lives = 0 := rfl
  rw [this]; decide
theorem tP6 (was now : UInt8) (p : Int) (keep : Bool) : (tD5 was now p).power [keep] = tD6 was now p keep := rfl
theorem tDd6 (was now : UInt8) (p : Int) (keep : Bool) : (tD6 was now p keep).dead = false := rfl

theorem tLv6 (was now : UInt8) (p : Int) (keep : Bool) : (tD6 was now p keep).lives = 1 := rfl
theorem tWr6 (was now : UInt8) (p : Int) (keep : Bool) : (tD6 was now p keep).writes = 2 := rfl
theorem BytesAt.whole {W : World} {g : Nat} {l : List UInt8} {t : TypeId} {fr : Nat × Nat} (hg : W.heap[g]? = some (.cells (byteV l).toArray t fr)) : BytesAt W g 0 l :=
  BytesAt.front (junk := []) (by rw [List.append_nil]; exact hg)

set_option maxHeartbeats 4000000 in
theorem diskTears_at (was now : UInt8) (p : Int) (keep : Bool) (hp : -9223372036854775808 ≤ p ∧ p ≤ 9223372036854775807) (w : World) :
    Calls Try.prog 4 #[.int .u8 (was.toNat : Int), .int .u8 (now.toNat : Int), .int .i64 p, .bool keep] w fun e w' => e = .returned (.bool true) ∧ Below w.heap.size w w' := by
  have H := St.nil NoBlk NoBlk w
  obtain ⟨hp1, hp2⟩ := hp
  obtain ⟨n, hn⟩ : ∃ n, (tD4 was now p).part.toNat = n := ⟨_, rfl⟩
  have hpt : (tD4 was now p).part = min (max p 0) 256 := rfl
  have hn2 : n ≤ 256 := by omega
  have H5 := Lib.hid (tD6_five was now p keep n hn hn2)
  have HL4 := Lib.hid (show 5 < (tD4 was now p).last.length by rw [show (tD4 was now p).last = (tD2 was).last from rfl, tD2_len]; omega)
  have tok1 : True := trivial
  have tok2 : True := trivial
  have tok3 : True := trivial
  have tok4 : True := trivial
  have tok5 : True := trivial
  have tok6 : True := trivial
  have tok7 : True := trivial
  have HL6 := Lib.hid (show 5 < (tD6 was now p keep).last.length by rw [tD6_len]; omega)
  have HL7 := Lib.hid (show 6 < (tD6 was now p keep).last.length by rw [tD6_len]; omega)
  go_enter Try.func4, Try.ntmps4
  go_wp2_with (first
    | (go_at_call 7; (with_reducible refine (begun_calls _).mono ?_); rintro e W ⟨rfl, hb⟩; replace H := H.stay (Fix.of_below hb _); clear hb)
    | (go_at_call 8; go_loud ((with_reducible refine (new_at 40 40 (by decide) (by omega) (by omega) _).mono ?_); rintro e W ⟨gd, own, rd, rfl, hd, hb, hn⟩; replace H := H.add (Fix.of_below hb NoBlk) (dA gd (DS.new 40) own rd) hd (fun k hk => hn k (.inl hk)) (fun k hk => .inl (hn k (.inr hk))); clear hd hb hn; simp only [List.nil_append, List.cons_append] at H))
    | (go_at_call 10; (with_reducible refine (full_calls _ _).mono ?_); rintro e W ⟨gf, rfl, hfg, hff, hb⟩; replace H := (H.take 1).add (Fix.of_below hb NoBlk) (blk gf _) hff (fun k hk => by rw [show k = gf from hk]; exact hfg) (fun k hk => hk.elim); clear hfg hff hb; simp only [List.take_succ_cons, List.take_zero, List.nil_append, List.cons_append] at H)
    | (go_at_call 9; have _t := tok1; clear _t; (with_reducible refine (write_calm (H.at 0 rfl) tD0_calm (by omega) 5 5 (by decide) (by omega) _ (fullB was) (argB_own (fullB_len _) (by omega) (H.at 1 rfl) (H.notown 1 0 rfl rfl (by decide))) (fullB_len _)).mono ?_); rintro e W ⟨rfl, hto⟩; obtain ⟨own1, rd1, H'⟩ := DiskTo.step (D' := (tD1 was)) H 0 rfl hto; clear H; have H := H'; clear H' hto tok1; simp only [List.set_cons_zero, List.set_cons_succ] at H)
    | (go_at_call 11; have _t := tok2; clear _t; (with_reducible refine (flush_calm (H.at 0 rfl) (tD1_calm was)).mono ?_); rintro e W ⟨rfl, hto⟩; obtain ⟨own1, rd1, H'⟩ := DiskTo.step (D' := (tD2 was)) H 0 rfl hto; clear H; have H := H'; clear H' hto tok2; simp only [List.set_cons_zero, List.set_cons_succ] at H)
    | (go_at_call 9; have _t := tok3; clear _t; (with_reducible refine (write_calm (H.at 0 rfl) (tD2_calm was) (by omega) 6 6 (by decide) (by omega) _ (fullB now) (argB_own (fullB_len _) (by omega) (H.at 1 rfl) (H.notown 1 0 rfl rfl (by decide))) (fullB_len _)).mono ?_); rintro e W ⟨rfl, hto⟩; obtain ⟨own1, rd1, H'⟩ := DiskTo.step (D' := (tD3 was now)) H 0 rfl hto; clear H; have H := H'; clear H' hto tok3; simp only [List.set_cons_zero, List.set_cons_succ] at H)
    | (go_at_call 13; (with_reducible refine (arm_at (H.at 0 rfl) 0 p (by decide) ⟨hp1, hp2⟩ (D' := tD4 was now p) (tA4 was now p)).mono ?_); rintro e W ⟨rfl, hto⟩; obtain ⟨own1, rd1, H'⟩ := DiskTo.step (D' := (tD4 was now p)) H 0 rfl hto; clear H; have H := H'; clear H' hto; simp only [List.set_cons_zero, List.set_cons_succ] at H)
    | (go_at_call 9; have _t := tok4; clear _t; go_loud ((with_reducible refine (write_fail_at (H.at 0 rfl) 5 5 (by decide) HL4.out (tDd4 was now p) _ (fullB now) (argB_own (fullB_len _) (by omega) (H.at 1 rfl) (H.notown 1 0 rfl rfl (by decide))) (fullB_len _) (tB4 was now p) (D' := tD5 was now p) (tA5 was now p)).mono ?_); rintro e W ⟨rfl, hto⟩; obtain ⟨own1, rd1, H'⟩ := DiskTo.step (D' := (tD5 was now p)) H 0 rfl hto; clear H; have H := H'; clear H' hto tok4; simp only [List.set_cons_zero, List.set_cons_succ] at H))
    | (go_at_call 14; go_loud ((with_reducible refine (dead_at (H.at 0 rfl) (b := true) (tDd5 was now p)).mono ?_); rintro e W' ⟨rfl, rfl⟩))
    | (go_at_call 15; have _t := tok7; clear _t; (with_reducible refine (read_dead (H.at 0 rfl) 6 (tDd5 was now p)).mono ?_); rintro e W' ⟨rfl, rfl⟩; clear tok7)
    | (go_at_call 11; go_loud ((with_reducible refine (flush_no (H.at 0 rfl) (tDd5 was now p)).mono ?_); rintro e W' ⟨rfl, rfl⟩))
    | (refine wpList_buildslice_st H rfl 38 4 _ _ rfl Try.underlying38 _ size_bool _ zero_bool (by decide) (by decide) [(0, .bool keep)] (by simp [Act.eval]) #[.bool keep] (fill_bool keep) ?_; clear H; intro W g H; (try simp only [cells_arrV, List.nil_append, List.cons_append, List.set_cons_zero, List.set_cons_succ] at H))
    | (go_at_call 16; go_loud ((with_reducible refine (power_at (H.at 0 rfl) _ [keep] (argL_one (H.at 2 rfl) (H.notown 2 0 rfl rfl (by decide))) (tLv5 was now p) (D' := tD6 was now p keep) (tP6 was now p keep)).mono ?_); rintro e W ⟨rfl, hto⟩; obtain ⟨own1, rd1, H'⟩ := DiskTo.step (D' := tD6 was now p keep) H 0 rfl hto; clear H; have H := H'; clear H' hto; simp only [List.set_cons_zero, List.set_cons_succ] at H))
    | (go_at_call 15; have _t := tok5; clear _t; go_loud ((with_reducible refine (read_at (H.at 0 rfl) 5 5 (by decide) HL6.out (tDd6 was now p keep) H5.out).mono ?_); rintro e W ⟨ga, capa, junka, rfl, _, ha2, hag, hac, hbl⟩; replace H := (H.take 1).add (Fix.of_below hbl NoBlk) (blk ga _) hac (fun k hk => by rw [show k = ga from hk]; exact hag) (fun k hk => hk.elim); clear hac hag hbl tok5; simp only [List.take_succ_cons, List.take_zero, List.nil_append, List.cons_append] at H))
    | (go_at_call 15; have _t := tok6; clear _t; go_loud ((with_reducible refine (read_at (H.at 0 rfl) 6 6 (by decide) HL7.out (tDd6 was now p keep) (tD6_six was now p keep)).mono ?_); rintro e W ⟨gb, capb, junkb, rfl, _, hb2, hbg, hbc, hbl⟩; replace H := H.add (Fix.of_below hbl NoBlk) (blk gb _) hbc (fun k hk => by rw [show k = gb from hk]; exact hbg) (fun k hk => hk.elim); clear hbc hbg hbl tok6; simp only [List.nil_append, List.cons_append] at H)))
  have hpn : min (max p 0) 256 = (n : Int) := by omega
  rw [hpn]
  go_loop [18] (fun u => ∃ i : Nat, u = .int .i64 (i : Int) ∧ i ≤ 256) (fun u => 256 - (intOf u).toNat)
  case atStart => exact ⟨0, rfl, by omega⟩
  case round =>
    obtain ⟨i, rfl, hi⟩ := hrel
    rcases Nat.lt_or_ge i 256 with hlt | hge
    · have hii : (i : Int) < 256 := by omega
      have hi0 : 0 ≤ (i : Int) := by omega
      obtain ⟨b, hb⟩ : ∃ b, ((now.toNat : Int) != (was.toNat : Int)) = b := ⟨_, rfl⟩
      obtain ⟨c, hc⟩ : ∃ c, ((was.toNat : Int) != (now.toNat : Int)) = c := ⟨_, rfl⟩
      by_cases hin : i < n
      · have HV := Lib.hid (show (byteV (tearB was now n) ++ junka).toArray[i]? = some (.int .u8 (now.toNat : Int)) by
          rw [tear_at was now n junka i hlt hn2, if_pos hin])
        have g1 : (i : Int) < (n : Int) := by omega
        have g2 : ¬ (n ≤ i) := by omega
        have g3 : ¬ ((n : Int) ≤ (i : Int)) := by omega
        clear hc
        cases b <;> (
          go_wp2_with (first | (refine wpList_load1_st rfl 5 _ rfl _ _ rfl _ _ _ (H.at 1 rfl) _ Try.underlying5 rfl _ HV.out ?_))
          go_round
          case rel => exact ⟨i + 1, congrArg _ (by omega), by omega⟩
          case measure => simp [intOf]; omega)
      · have HV := Lib.hid (show (byteV (tearB was now n) ++ junka).toArray[i]? = some (.int .u8 (was.toNat : Int)) by
          rw [tear_at was now n junka i hlt hn2, if_neg hin])
        have g1 : ¬ ((i : Int) < (n : Int)) := by omega
        have g2 : n ≤ i := by omega
        have g3 : (n : Int) ≤ (i : Int) := by omega
        clear hb
        cases c <;> (
          go_wp2_with (first | (refine wpList_load1_st rfl 5 _ rfl _ _ rfl _ _ _ (H.at 1 rfl) _ Try.underlying5 rfl _ HV.out ?_))
          go_round
          case rel => exact ⟨i + 1, congrArg _ (by omega), by omega⟩
          case measure => simp [intOf]; omega)
    · obtain rfl : i = 256 := by omega
      have hji : ¬ ((256 : Int) < 256) := by omega
      have tokA : True := trivial
      cases keep
      · rw [if_neg (by decide), show noSect = fullB 0 from rfl] at H
        go_wp2_with (first
          | (go_at_call 10; have _t := tokA; clear _t; go_loud ((with_reducible refine (full_at 0 0 (by decide) _).mono ?_); rintro e W ⟨gf, rfl, hfg, hff, hb⟩; replace H := H.add (Fix.of_below hb NoBlk) (blk gf _) hff (fun k hk => by rw [show k = gf from hk]; exact hfg) (fun k hk => hk.elim); clear hfg hff hb tokA; simp only [List.nil_append, List.cons_append] at H))
          | (refine wpList_bytes_str rfl 22 9 _ rfl _ _ _ _ rfl 5 Try.underlying22 Try.underlying5 Try.underlying9 _ (BytesAt.front (H.at 2 rfl)) rfl ?_)
          | (refine wpList_bytes_str rfl 22 9 _ rfl _ _ _ _ rfl 5 Try.underlying22 Try.underlying5 Try.underlying9 _ (BytesAt.whole (H.at 3 rfl)) rfl ?_)
          | (go_at_call 17; go_loud ((with_reducible refine (lives_at (H.at 0 rfl) (z := 1) (tLv6 was now p _)).mono ?_); rintro e W' ⟨rfl, rfl⟩))
          | (go_at_call 18; go_loud ((with_reducible refine (writes_at (H.at 0 rfl) (z := 2) (tWr6 was now p _)).mono ?_); rintro e W' ⟨rfl, rfl⟩)))
        go_ret
        exact ⟨rfl, H.fix.below⟩
      · rw [if_pos rfl] at H
        go_wp2_with (first
          | (go_at_call 10; have _t := tokA; clear _t; go_loud ((with_reducible refine (full_at 0 0 (by decide) _).mono ?_); rintro e W ⟨gf, rfl, hfg, hff, hb⟩; replace H := H.add (Fix.of_below hb NoBlk) (blk gf _) hff (fun k hk => by rw [show k = gf from hk]; exact hfg) (fun k hk => hk.elim); clear hfg hff hb tokA; simp only [List.nil_append, List.cons_append] at H))
          | (go_at_call 10; go_loud ((with_reducible refine (full_calls now _).mono ?_); rintro e W ⟨gf, rfl, hfg, hff, hb⟩; replace H := H.add (Fix.of_below hb NoBlk) (blk gf _) hff (fun k hk => by rw [show k = gf from hk]; exact hfg) (fun k hk => hk.elim); clear hfg hff hb; simp only [List.nil_append, List.cons_append] at H))
          | (refine wpList_bytes_str rfl 22 9 _ rfl _ _ _ _ rfl 5 Try.underlying22 Try.underlying5 Try.underlying9 _ (BytesAt.front (H.at 2 rfl)) rfl ?_)
          | (refine wpList_bytes_str rfl 22 9 _ rfl _ _ _ _ rfl 5 Try.underlying22 Try.underlying5 Try.underlying9 _ (BytesAt.whole (H.at 4 rfl)) rfl ?_)
          | (go_at_call 17; go_loud ((with_reducible refine (lives_at (H.at 0 rfl) (z := 1) (tLv6 was now p _)).mono ?_); rintro e W' ⟨rfl, rfl⟩))
          | (go_at_call 18; go_loud ((with_reducible refine (writes_at (H.at 0 rfl) (z := 2) (tWr6 was now p _)).mono ?_); rintro e W' ⟨rfl, rfl⟩)))
        go_ret
        exact ⟨rfl, H.fix.below⟩

theorem diskTears_calls (was now : UInt8) (p : Int) (keep : Bool) (hp : -9223372036854775808 ≤ p ∧ p ≤ 9223372036854775807) (w : World) :
    Calls Try.prog 4 #[.int .u8 (was.toNat : Int), .int .u8 (now.toNat : Int), .int .i64 p, .bool keep] w fun e w' => e = .returned (.bool true) ∧ Below w.heap.size w w' :=
  diskTears_at was now p keep hp w

end Go.Proofs.Ytajlhloapglafaa
