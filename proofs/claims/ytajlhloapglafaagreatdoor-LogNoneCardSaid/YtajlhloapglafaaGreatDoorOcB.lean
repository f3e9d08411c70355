/- octet.Put, walked. -/
import Derived.Test.YtajlhloapglafaaGreatDoorOcA
import Derived.Test.YtajlhloapglafaaGreatDoorMk
import Derived.Test.YtajlhloapglafaaGreatDoorDkCo
namespace Go.Proofs.YtajlhloapglafaaGreatDoor
open Go.RowKit
set_option linter.unusedSimpArgs false
set_option linter.unusedVariables false
set_option maxRecDepth 4000

/-- A slice of bytes that comes in. -/
def ArgS (w : World) (v : Value) (l : List UInt8) : Prop :=
  (l = [] ∧ v = .slice none 0 0) ∨ ∃ g off cap, v = .slice (some ⟨g, off, none⟩) l.length cap ∧ l.length ≤ cap ∧ g < w.heap.size ∧ BytesAt w g off l

theorem leBytes_succ (j v : Nat) : Lib.leBytes (j + 1) v = Lib.leBytes j v ++ [(v / 256 ^ j % 256).toUInt8] := by
  induction j generalizing v with
  | zero => simp [Lib.leBytes]
  | succ j ih =>
    rw [Lib.leBytes, ih (v / 256), Lib.leBytes, Nat.div_div_eq_div_mul, ← Nat.pow_succ', List.cons_append]

theorem fill_byte (x : UInt8) : Instr.fill (fun i => some (i * 1, 1)) ((Array.range (1 * 1)).map ((Value.int .u8 0).cells[· % (Value.int .u8 0).cells.size]!)) [(0, .int .u8 (x.toNat : Int))] = some #[.int .u8 (x.toNat : Int)] := by kernel_rfl
theorem zero_u8 : (Tryz.prog.info? 5).bind (·.zero) = some (.int .u8 0) := by kernel_rfl
theorem byte_news {W : World} {g : Nat} {x : Value} {t : TypeId} {fr : Nat × Nat} (hg : W.heap[g]? = some (.cells #[x] t fr)) : ∀ j u, ([x] : List Value)[j]? = some u → W.cell? ((⟨g, 0, none⟩ : Addr).add j) = some u := by
  intro j u hu
  rw [Addr.add_lit, Nat.zero_add, cell_of_row W g j _ _ _ hg]
  simpa using hu

theorem take_byteV (l : List UInt8) (junk : List Value) (n : Nat) (h : l.length = n) : (byteV l ++ junk).take n = byteV l := by
  rw [List.take_append_of_le_length (by rw [byteV_length]; omega), List.take_of_length_le (by rw [byteV_length]; omega)]

theorem byteV_snoc (l : List UInt8) (x : UInt8) : byteV l ++ [Value.int .u8 (x.toNat : Int)] = byteV (l ++ [x]) := by simp [byteV]

set_option maxHeartbeats 1000000 in
theorem put_calls (v : Value) (l : List UInt8) (u n : Nat) (w : World) (hv : ArgS w v l) (hl : l.length ≤ 100000) (hn : n ≤ 8) (hn0 : 0 < n) (hu : u < 18446744073709551616) :
    Calls Tryz.prog 79 #[v, .int .u64 (u : Int), .int .i64 (n : Int)] w fun e w' => ∃ g cap junk, e = .returned (.slice (some ⟨g, 0, none⟩) (l.length + n) cap) ∧ (byteV (l ++ Lib.leBytes n u) ++ junk).length = cap ∧ cap ≤ maxLen ∧ w.heap.size ≤ g ∧
      w'.heap[g]? = some (.cells (byteV (l ++ Lib.leBytes n u) ++ junk).toArray 5 (0, 0)) ∧ Below w.heap.size w w' := by
  have H := St.nil NoBlk NoBlk w
  have hn1 : (n : Int) ≤ 8 := by omega
  have hn2 : 0 ≤ (n : Int) := by omega
  have hl1 : (l.length : Int) ≤ 100000 := by omega
  have E1 := Lib.hid (show (l.length : Int) + (n : Int) = ((l.length + n : Nat) : Int) by omega)
  have HM := Lib.hid hn
  have HL := Lib.hid hl
  have hmm : (if 8 < (if (n : Int) < 0 then 0 else (n : Int)) then 8 else (if (n : Int) < 0 then 0 else (n : Int))) = (n : Int) := by (repeat' split) <;> omega
  have hmm2 : min (max (n : Int) 0) 8 = (n : Int) := by omega
  rcases hv with ⟨hl0, rfl⟩ | ⟨g, off, cap, rfl, hc, hlt, hb⟩
  · have HL0 := Lib.hid hl0
    clear hl0
    go_enter Tryz.func79, Tryz.ntmps79
    go_wp2_with (first
      | (refine wpList_make2_st H rfl 22 _ _ rfl _ Tryz.underlying22 _ _ info_u8 rfl 0 n rfl rfl (Nat.zero_le _) (by have := HM.out; omega) (by have := HM.out; simp only [maxLen]; omega) ?_; clear H; intro W g0 H; simp only [List.nil_append] at H))
    go_loopw [7, 1, 19] (fun o v i wr => ∃ (j g' cap' : Nat) (junk : List Value), i = .int .i64 (j : Int) ∧ j ≤ n ∧ v = .int .u64 ((u / 256 ^ j : Nat) : Int) ∧ o = .slice (some ⟨g', 0, none⟩) (l.length + j) cap' ∧
        (byteV (l ++ Lib.leBytes j u) ++ junk).length = cap' ∧ cap' ≤ maxLen ∧ St NoBlk NoBlk w wr [blk g' (.cells (byteV (l ++ Lib.leBytes j u) ++ junk).toArray 5 (0, 0))]) (fun _ _ i _ => n - (intOf i).toNat)
    case atStart => exact ⟨0, g0, n, List.replicate n (.int .u8 0), rfl, Nat.zero_le _, by simp, by rw [HL0.out]; rfl, by simp [HL0.out, byteV, Lib.leBytes], by have := HM.out; simp only [maxLen]; omega, by simpa [HL0.out, byteV, Lib.leBytes] using H⟩
    case round =>
      clear H
      obtain ⟨j, g', cap', junk, rfl, hj, rfl, rfl, hlen, hcm, H⟩ := hrel
      have hL : (l ++ Lib.leBytes j u).length = l.length + j := by rw [List.length_append, Lib.leBytes_length]
      rcases Nat.lt_or_ge j n with hlt | hge
      · obtain ⟨q, hq⟩ : ∃ q, u / 256 ^ j = q := ⟨_, rfl⟩
        have HQ := Lib.hid hq
        have hq2 : q < 18446744073709551616 := by rw [← hq]; exact Nat.lt_of_le_of_lt (Nat.div_le_self _ _) hu
        rw [hq]
        have hx : IntKind.u8.wrap (q : Int) = (((q % 256).toUInt8).toNat : Int) := by rw [Lib.toUInt8_mod, IntKind.wrap_u8]; omega
        obtain ⟨x, hxx⟩ : ∃ x, (q % 256).toUInt8 = x := ⟨_, rfl⟩
        have HX := Lib.hid hxx
        rw [hxx] at hx
        have hji : (j : Int) < (n : Int) := by omega
        have hj0 : 0 ≤ (j : Int) := by omega
        have HA := Lib.hid (show l.length + j ≤ cap' by rw [← hlen, List.length_append, byteV_length, hL]; omega)
        have HB := Lib.hid hlen
        have HC := Lib.hid hcm
        have HD := Lib.hid hL
        have HJ := Lib.hid hj
        clear hq hxx hlen hcm hL hj
        go_wp2_with (first
          | (refine wpList_buildslice_st H rfl 22 5 _ _ rfl Tryz.underlying22 _ size_u8 _ zero_u8 (by decide) (by decide) [(0, .int .u8 (x.toNat : Int))] (by simp [Act.eval]) #[.int .u8 (x.toNat : Int)] (fill_byte x) ?_; clear H; intro W g H; (try simp only [cells_arrV, List.nil_append, List.cons_append, List.set_cons_zero, List.set_cons_succ] at H))
          | (refine wpList_append_st H 0 rfl _ _ 22 rfl _ Tryz.underlying22 _ _ info_u8 rfl g' (l.length + j) cap' rfl _ rfl HA.out HB.out HC.out _ 1 1 rfl [.int .u8 (x.toNat : Int)] rfl (byte_news (H.at 1 rfl)) (by simp [Value.oneCell']) (by have := HJ.out; have := HM.out; have := HL.out; simp only [maxLen] at *; omega) (by have := HJ.out; have := HM.out; have := HL.out; omega) ?_; clear H; intro W g2 cap2 junk2 H hl2 hc2 hm2; simp only [List.set_cons_zero] at H))
        rw [take_byteV _ _ _ HD.out, byteV_snoc, List.append_assoc l, ← HX.out, ← HQ.out, ← leBytes_succ] at H hl2
        replace H := H.take 1
        simp only [List.take_succ_cons, List.take_zero] at H
        (try simp only [Act.put])
        go_roundw
        case rel => exact ⟨j + 1, g2, cap2, junk2, congrArg _ (by omega), by omega, congrArg _ (by rw [← HQ.out, Nat.pow_succ, ← Nat.div_div_eq_div_mul]; omega), rfl, hl2, hm2, H⟩
        case measure => simp [intOf]; omega
      · obtain rfl : j = n := by omega
        have hji : ¬ ((j : Int) < (j : Int)) := by omega
        go_wp2
        go_ret
        refine ⟨g', cap', rfl, junk, by simpa [Lib.leBytes_length] using hlen, hcm, ?_, H.at 0 rfl, H.fix.below⟩
        rcases H.mine 0 _ rfl g' rfl with h | h
        · exact h
        · exact h.elim
  · go_enter Tryz.func79, Tryz.ntmps79
    go_wp2_with (first
      | (refine wpList_make2_st H rfl 22 _ _ rfl _ Tryz.underlying22 _ _ info_u8 rfl 0 (l.length + n) rfl (congrArg (Value.int .i64) E1.out) (Nat.zero_le _) (by have := HM.out; have := HL.out; omega) (by have := HM.out; have := HL.out; simp only [maxLen]; omega) ?_; clear H; intro W g0 H; simp only [List.nil_append] at H)
      | (refine wpList_append_st H 0 rfl _ _ 22 rfl _ Tryz.underlying22 _ _ info_u8 rfl g0 0 (l.length + n) rfl _ rfl (Nat.zero_le _) List.length_replicate (by have := HM.out; have := HL.out; simp only [maxLen]; omega) _ l.length cap rfl (byteV l) (byteV_length l) (hb.news H.fix (.inr hlt)) (byteV_one l) (by have := HL.out; simp only [maxLen]; omega) (by have := HL.out; omega) ?_; clear H; intro W g1 cap1 junk1 H hl1 hc1 hm1; simp only [List.set_cons_zero, List.take_zero, List.nil_append] at H hl1))
    go_loopw [7, 1, 19] (fun o v i wr => ∃ (j g' cap' : Nat) (junk : List Value), i = .int .i64 (j : Int) ∧ j ≤ n ∧ v = .int .u64 ((u / 256 ^ j : Nat) : Int) ∧ o = .slice (some ⟨g', 0, none⟩) (l.length + j) cap' ∧
        (byteV (l ++ Lib.leBytes j u) ++ junk).length = cap' ∧ cap' ≤ maxLen ∧ St NoBlk NoBlk w wr [blk g' (.cells (byteV (l ++ Lib.leBytes j u) ++ junk).toArray 5 (0, 0))]) (fun _ _ i _ => n - (intOf i).toNat)
    case atStart => exact ⟨0, g1, cap1, junk1, rfl, Nat.zero_le _, by simp, rfl, by simpa [Lib.leBytes] using hl1, hm1, by simpa [Lib.leBytes] using H⟩
    case round =>
      clear H
      obtain ⟨j, g', cap', junk, rfl, hj, rfl, rfl, hlen, hcm, H⟩ := hrel
      have hL : (l ++ Lib.leBytes j u).length = l.length + j := by rw [List.length_append, Lib.leBytes_length]
      rcases Nat.lt_or_ge j n with hlt | hge
      · obtain ⟨q, hq⟩ : ∃ q, u / 256 ^ j = q := ⟨_, rfl⟩
        have HQ := Lib.hid hq
        have hq2 : q < 18446744073709551616 := by rw [← hq]; exact Nat.lt_of_le_of_lt (Nat.div_le_self _ _) hu
        rw [hq]
        have hx : IntKind.u8.wrap (q : Int) = (((q % 256).toUInt8).toNat : Int) := by rw [Lib.toUInt8_mod, IntKind.wrap_u8]; omega
        obtain ⟨x, hxx⟩ : ∃ x, (q % 256).toUInt8 = x := ⟨_, rfl⟩
        have HX := Lib.hid hxx
        rw [hxx] at hx
        have hji : (j : Int) < (n : Int) := by omega
        have hj0 : 0 ≤ (j : Int) := by omega
        have HA := Lib.hid (show l.length + j ≤ cap' by rw [← hlen, List.length_append, byteV_length, hL]; omega)
        have HB := Lib.hid hlen
        have HC := Lib.hid hcm
        have HD := Lib.hid hL
        have HJ := Lib.hid hj
        clear hq hxx hlen hcm hL hj
        go_wp2_with (first
          | (refine wpList_buildslice_st H rfl 22 5 _ _ rfl Tryz.underlying22 _ size_u8 _ zero_u8 (by decide) (by decide) [(0, .int .u8 (x.toNat : Int))] (by simp [Act.eval]) #[.int .u8 (x.toNat : Int)] (fill_byte x) ?_; clear H; intro W g H; (try simp only [cells_arrV, List.nil_append, List.cons_append, List.set_cons_zero, List.set_cons_succ] at H))
          | (refine wpList_append_st H 0 rfl _ _ 22 rfl _ Tryz.underlying22 _ _ info_u8 rfl g' (l.length + j) cap' rfl _ rfl HA.out HB.out HC.out _ 1 1 rfl [.int .u8 (x.toNat : Int)] rfl (byte_news (H.at 1 rfl)) (by simp [Value.oneCell']) (by have := HJ.out; have := HM.out; have := HL.out; simp only [maxLen] at *; omega) (by have := HJ.out; have := HM.out; have := HL.out; omega) ?_; clear H; intro W g2 cap2 junk2 H hl2 hc2 hm2; simp only [List.set_cons_zero] at H))
        rw [take_byteV _ _ _ HD.out, byteV_snoc, List.append_assoc l, ← HX.out, ← HQ.out, ← leBytes_succ] at H hl2
        replace H := H.take 1
        simp only [List.take_succ_cons, List.take_zero] at H
        (try simp only [Act.put])
        go_roundw
        case rel => exact ⟨j + 1, g2, cap2, junk2, congrArg _ (by omega), by omega, congrArg _ (by rw [← HQ.out, Nat.pow_succ, ← Nat.div_div_eq_div_mul]; omega), rfl, hl2, hm2, H⟩
        case measure => simp [intOf]; omega
      · obtain rfl : j = n := by omega
        have hji : ¬ ((j : Int) < (j : Int)) := by omega
        go_wp2
        go_ret
        refine ⟨g', cap', rfl, junk, by simpa [Lib.leBytes_length] using hlen, hcm, ?_, H.at 0 rfl, H.fix.below⟩
        rcases H.mine 0 _ rfl g' rfl with h | h
        · exact h
        · exact h.elim

/-- Put, as its callers want it. -/
theorem put_at (v : Value) (l : List UInt8) (zu zn : Int) (u n m : Nat) (w : World) (hv : ArgS w v l) (hzu : (u : Int) = zu) (hzn : (n : Int) = zn) (hm : l.length + n = m) (hl : l.length ≤ 100000) (hn : n ≤ 8) (hn0 : 0 < n) (hu : u < 18446744073709551616) :
    Calls Tryz.prog 79 #[v, .int .u64 zu, .int .i64 zn] w fun e w' => ∃ g cap junk, e = .returned (.slice (some ⟨g, 0, none⟩) m cap) ∧ (l ++ Lib.leBytes n u).length = m ∧ m ≤ cap ∧ (byteV (l ++ Lib.leBytes n u) ++ junk).length = cap ∧ cap ≤ maxLen ∧ w.heap.size ≤ g ∧
      w'.heap[g]? = some (.cells (byteV (l ++ Lib.leBytes n u) ++ junk).toArray 5 (0, 0)) ∧ Below w.heap.size w w' := by
  subst hzu hzn hm
  refine (put_calls v l u n w hv hl hn hn0 hu).mono ?_
  rintro e w' ⟨g, cap, junk, rfl, h1, h2, h3, h4, h5⟩
  have hL : (l ++ Lib.leBytes n u).length = l.length + n := by rw [List.length_append, Lib.leBytes_length]
  exact ⟨g, cap, junk, rfl, hL, by rw [← h1, List.length_append, byteV_length, hL]; omega, h1, h2, h3, h4, h5⟩

/-- A slice that stands in front of a block. -/
theorem argS_front {w : World} {g m cap : Nat} {l : List UInt8} {junk : List Value} {t : TypeId} {fr : Nat × Nat} (hg : w.heap[g]? = some (.cells (byteV l ++ junk).toArray t fr)) (hl : l.length = m) (hc : m ≤ cap) : ArgS w (.slice (some ⟨g, 0, none⟩) m cap) l :=
  .inr ⟨g, 0, cap, by rw [hl], by omega, (Array.getElem?_eq_some_iff.1 hg).1, BytesAt.front hg⟩

end Go.Proofs.YtajlhloapglafaaGreatDoor
