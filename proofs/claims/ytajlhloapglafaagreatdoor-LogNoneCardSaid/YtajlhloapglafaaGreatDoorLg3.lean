/- An anchor's bytes. -/
import Derived.Test.YtajlhloapglafaaGreatDoorLg2
namespace Go.Proofs.YtajlhloapglafaaGreatDoor
open Go.RowKit
set_option linter.unusedSimpArgs false
set_option linter.unusedVariables false
set_option maxRecDepth 4000

/-- A call that returns a new slice of m bytes. -/
def OutB (w w' : World) (e : Ending) (l : List UInt8) (m : Nat) : Prop :=
  ∃ g cap junk, e = .returned (.slice (some ⟨g, 0, none⟩) m cap) ∧ l.length = m ∧ m ≤ cap ∧ (byteV l ++ junk).length = cap ∧ cap ≤ maxLen ∧ w.heap.size ≤ g ∧
    w'.heap[g]? = some (.cells (byteV l ++ junk).toArray 5 (0, 0)) ∧ Below w.heap.size w w'

def anchorB (s turn place ring : Nat) : List UInt8 :=
  ((((Lib.leBytes 8 s ++ Lib.leBytes 8 turn) ++ Lib.leBytes 4 place) ++ Lib.leBytes 4 ring) ++ List.replicate 224 0) ++ Lib.leBytes 8 s
theorem anchorB_len (s turn place ring : Nat) : (anchorB s turn place ring).length = 256 := by simp [anchorB, Lib.leBytes_length]

def anchorV (s turn place ring : Nat) : Value := .agg #[.int .u64 (s : Int), .int .u64 (turn : Int), .int .i64 (place : Int), .int .i64 (ring : Int)]
def anchorR (s turn place ring : Nat) : List Value := [.int .u64 (s : Int), .int .u64 (turn : Int), .int .i64 (place : Int), .int .i64 (ring : Int)]
theorem anchorR0 (a b c d : Nat) : (anchorR a b c d).toArray[0]? = some (.int .u64 (a : Int)) := rfl
theorem anchorR1 (a b c d : Nat) : (anchorR a b c d).toArray[1]? = some (.int .u64 (b : Int)) := rfl
theorem anchorR2 (a b c d : Nat) : (anchorR a b c d).toArray[2]? = some (.int .i64 (c : Int)) := rfl
theorem anchorR3 (a b c d : Nat) : (anchorR a b c d).toArray[3]? = some (.int .i64 (d : Int)) := rfl

set_option maxHeartbeats 1000000 in
theorem bytes_calls (s turn place ring : Nat) (w : World) (hs : s < 9223372036854775808) (ht : turn < 9223372036854775808) (hp : place < 1000000) (hr : ring < 1000000) :
    Calls Tryz.prog 45 #[anchorV s turn place ring] w fun e w' => OutB w w' e (anchorB s turn place ring) 256 := by
  have H := St.nil NoBlk NoBlk w
  have tok1 : True := trivial
  have tok2 : True := trivial
  have tok3 : True := trivial
  have tok4 : True := trivial
  have tok5 : True := trivial
  have hs1 : s < 18446744073709551616 := by omega
  have ht1 : turn < 18446744073709551616 := by omega
  have hp1 : IntKind.u64.wrap (place : Int) = (place : Int) := by rw [IntKind.wrap_u64]; omega
  have hr1 : IntKind.u64.wrap (ring : Int) = (ring : Int) := by rw [IntKind.wrap_u64]; omega
  unfold anchorV
  go_enter Tryz.func45, Tryz.ntmps45
  go_wp2_with (first
    | (refine wpList_box_st H rfl 80 _ rfl _ rfl ?_; clear H; intro W g0 H; replace H : St NoBlk NoBlk w W [blk g0 (.cells (anchorR s turn place ring).toArray 80 (0, 0))] := H))
  replace H := H.drew
  have c0 := row_cell (H.at 0 rfl) (anchorR0 _ _ _ _)
  have c1 := row_cell (H.at 0 rfl) (anchorR1 _ _ _ _)
  go_region_held3 (fun w' => w'.cell? ⟨g0, 0, none⟩ = some (.int .u64 (s : Int)) ∧ w'.cell? ⟨g0, 1, none⟩ = some (.int .u64 (turn : Int))) (first | exact ⟨c0, c1⟩ | exact ⟨d0, d1⟩ | exact ⟨e0, e1⟩) (first
    | (go_at_call 79; have _t := tok1; clear _t; (refine (put_at _ [] _ _ s 8 8 _ (.inl ⟨rfl, rfl⟩) rfl rfl rfl (by simp) (by omega) (by omega) hs1).mono ?_); rintro e W1 ⟨g1, cap1, junk1, rfl, hl1, hc1, hj1, hm1, hg1, hb1, hbl⟩; replace H := H.add (Fix.of_below hbl _) (blk g1 _) hb1 (fun k hk => by rw [show k = g1 from hk]; exact hg1) (fun k hk => hk.elim); clear hb1 hbl tok1; simp only [List.nil_append, List.cons_append] at H hl1; have d0 := row_cell (H.at 0 rfl) (anchorR0 _ _ _ _); have d1 := row_cell (H.at 0 rfl) (anchorR1 _ _ _ _))
    | (go_at_call 79; have _t := tok2; clear _t; go_loud ((refine (put_at _ (Lib.leBytes 8 s) _ _ turn 8 16 _ (argS_front (H.at 1 rfl) hl1 hc1) rfl rfl (by rw [hl1]) (by rw [hl1]; omega) (by omega) (by omega) ht1).mono ?_); rintro e W2 ⟨g2, cap2, junk2, rfl, hl2, hc2, hj2, hm2, hg2, hb2, hbl⟩; replace H := (H.take 1).add (Fix.of_below hbl _) (blk g2 _) hb2 (fun k hk => by rw [show k = g2 from hk]; exact hg2) (fun k hk => hk.elim); clear hb2 hbl tok2; simp only [List.take_succ_cons, List.take_zero, List.nil_append, List.cons_append] at H; have e0 := row_cell (H.at 0 rfl) (anchorR0 _ _ _ _); have e1 := row_cell (H.at 0 rfl) (anchorR1 _ _ _ _))))
  clear c0 c1 d0 d1 e0 e1
  go_wp2
  replace H := H.drew
  have c0 := row_cell (H.at 0 rfl) (anchorR2 _ _ _ _)
  have c1 := row_cell (H.at 0 rfl) (anchorR3 _ _ _ _)
  have hp2 : place < 18446744073709551616 := by omega
  have hr2 : ring < 18446744073709551616 := by omega
  go_region_held3 (fun w' => w'.cell? ⟨g0, 2, none⟩ = some (.int .i64 (place : Int)) ∧ w'.cell? ⟨g0, 3, none⟩ = some (.int .i64 (ring : Int))) (first | exact ⟨c0, c1⟩ | exact ⟨d0, d1⟩ | exact ⟨e0, e1⟩) (first
    | (go_at_call 79; have _t := tok3; clear _t; go_loud ((refine (put_at _ (Lib.leBytes 8 s ++ Lib.leBytes 8 turn) _ _ place 4 20 _ (argS_front (H.at 1 rfl) hl2 hc2) rfl rfl (by rw [hl2]) (by rw [hl2]; omega) (by omega) (by omega) hp2).mono ?_); rintro e W2 ⟨g3, cap3, junk3, rfl, hl3, hc3, hj3, hm3, hg3, hb3, hbl⟩; replace H := (H.take 1).add (Fix.of_below hbl _) (blk g3 _) hb3 (fun k hk => by rw [show k = g3 from hk]; exact hg3) (fun k hk => hk.elim); clear hb3 hbl tok3; simp only [List.take_succ_cons, List.take_zero, List.nil_append, List.cons_append] at H; have d0 := row_cell (H.at 0 rfl) (anchorR2 _ _ _ _); have d1 := row_cell (H.at 0 rfl) (anchorR3 _ _ _ _)))
    | (go_at_call 79; have _t := tok4; clear _t; go_loud ((refine (put_at _ ((Lib.leBytes 8 s ++ Lib.leBytes 8 turn) ++ Lib.leBytes 4 place) _ _ ring 4 24 _ (argS_front (H.at 1 rfl) hl3 hc3) rfl rfl (by rw [hl3]) (by rw [hl3]; omega) (by omega) (by omega) hr2).mono ?_); rintro e W2 ⟨g4, cap4, junk4, rfl, hl4, hc4, hj4, hm4, hg4, hb4, hbl⟩; replace H := (H.take 1).add (Fix.of_below hbl _) (blk g4 _) hb4 (fun k hk => by rw [show k = g4 from hk]; exact hg4) (fun k hk => hk.elim); clear hb4 hbl tok4; simp only [List.take_succ_cons, List.take_zero, List.nil_append, List.cons_append] at H; have e0 := row_cell (H.at 0 rfl) (anchorR2 _ _ _ _); have e1 := row_cell (H.at 0 rfl) (anchorR3 _ _ _ _))))
  clear c0 c1 d0 d1 e0 e1
  have hz : (List.replicate 224 (Value.int .u8 0)) = byteV (List.replicate 224 0) := by simp [byteV]
  go_wp2_with (first
    | (refine wpList_appz_st H 1 rfl _ _ 22 3 rfl _ Tryz.underlying22 _ Tryz.underlying3 _ _ info_u8 rfl rfl g4 24 cap4 rfl _ rfl hc4 hj4 hm4 _ 224 rfl (by omega) (by simp only [maxLen]; omega) (by omega) ?_; clear H; intro W g5 cap5 junk5 H hj5 hc5 hm5; simp only [List.set_cons_zero, List.set_cons_succ] at H; rw [take_byteV _ _ _ hl4, hz] at H hj5; rw [show byteV (((Lib.leBytes 8 s ++ Lib.leBytes 8 turn) ++ Lib.leBytes 4 place) ++ Lib.leBytes 4 ring) ++ byteV (List.replicate 224 0) = byteV ((((Lib.leBytes 8 s ++ Lib.leBytes 8 turn) ++ Lib.leBytes 4 place) ++ Lib.leBytes 4 ring) ++ List.replicate 224 0) by simp [byteV]] at H hj5)
    | (refine wpList_load1_st rfl 33 _ rfl _ _ rfl _ _ _ (H.at 0 rfl) _ Tryz.underlying33 rfl _ (anchorR0 _ _ _ _) ?_)
    | (go_at_call 79; have _t := tok5; clear _t; go_loud ((refine (put_at _ ((((Lib.leBytes 8 s ++ Lib.leBytes 8 turn) ++ Lib.leBytes 4 place) ++ Lib.leBytes 4 ring) ++ List.replicate 224 0) _ _ s 8 256 _ (argS_front (H.at 1 rfl) (by rw [List.length_append, hl4, List.length_replicate]) hc5) rfl rfl (by rw [List.length_append, hl4, List.length_replicate]) (by rw [List.length_append, hl4, List.length_replicate]; omega) (by omega) (by omega) hs1).mono ?_); rintro e W2 ⟨g6, cap6, junk6, rfl, hl6, hc6, hj6, hm6, hg6, hb6, hbl⟩; have hsz := H.fix.size; clear tok5; replace H := H.stay (Fix.of_below hbl NoBlk))))
  go_ret
  exact ⟨g6, cap6, junk6, rfl, hl6, hc6, hj6, hm6, Nat.le_trans hsz hg6, hb6, H.fix.below⟩

end Go.Proofs.YtajlhloapglafaaGreatDoor
