/- TxnNone. -/
import Derived.Test.YtphpegnfcelagaaGreatDoorPkBase4

namespace Go.Proofs.YtphpegnfcelagaaGreatDoor
open Go.RowKit
set_option linter.unusedSimpArgs false
set_option linter.unusedVariables false
set_option maxRecDepth 40000

theorem lhomes_nil (w : World) : Calls Tryz.prog 34 #[.pointer none] w fun e w' => e = .returned (.int .i64 0) ∧ w = w' := by
  go_enter Tryz.func34, Tryz.ntmps34
  go_wp2_with (first | (go_at_call 75; (with_reducible refine (none_nil _).mono ?_); rintro e W' ⟨rfl, rfl⟩))
  go_ret
  exact ⟨rfl, rfl⟩

set_option maxHeartbeats 1000000 in
theorem tmay_nolog {w : World} {g : Nat} {A : Asrt} {mv : Value} (hb : Bundle w [blk g (.cells (tRow (.pointer none) mv false).toArray 99 (0, 0)), A]) :
    Calls Tryz.prog 61 #[.pointer (some ⟨g, 0, none⟩)] w fun e w' => ∃ ge, e = .returned (faultVT ge) ∧ w'.heap[ge]? = some (faultOT 1 .nilIface) ∧ Below w.heap.size w w' := by
  have H := hb.open_
  have HB := St.nil NoBlk NoBlk w
  clear hb
  go_enter Tryz.func61, Tryz.ntmps61
  go_wp2_with (first
    | (refine wpList_load1_st rfl 26 _ rfl _ _ rfl _ _ _ (H.at 0 rfl) _ Tryz.underlying26 rfl _ (tRow0 _ _ _) ?_)
    | (go_at_call 34; go_loud ((refine (lhomes_nil _).mono ?_); rintro e W ⟨rfl, rfl⟩))
    | (refine wpList_alloc_st HB rfl 116 rfl _ zero_faultST ?_; clear HB H; intro W ge HB)
    | (refine wpList_store1_st HB 0 rfl 31 _ _ rfl _ _ (.int .i64 1) rfl rfl rfl _ _ rfl rfl (by simp [Value.cells]) ?_; clear HB; intro W HB)
    | (refine wpList_box_st HB rfl 116 _ rfl (.agg #[.int .i64 1, .nilIface]) rfl ?_; clear HB H; intro W ge HB))
  go_ret
  exact ⟨ge, rfl, HB.at 0 rfl, HB.fix.below⟩



def noLogL (g gm : Nat) : List Asrt := [blk g (.cells (tRow (.pointer none) (.map (some gm)) false).toArray 99 (0, 0)), mapA gm 0 (.map [])]

theorem tread_nolog {w : World} {g gm : Nat} (hb : Bundle w (noLogL g gm ++ [errA])) (z : Int) :
    Calls Tryz.prog 23 #[.pointer (some ⟨g, 0, none⟩), .int .i64 z] w fun e w' => e = .returned (.tuple #[.slice none 0 0, .int .i64 1]) ∧ Below w.heap.size w w' := by
  have hg : errA.prop w := hb.all 2 _ rfl
  have H := St.err hg
  have HM := Lib.hid (tmay_nolog (hb.open_.take 2).bundle)
  clear hb hg
  go_enter Tryz.func23, Tryz.ntmps23
  go_wp2_with (first
    | (go_at_call 61; go_loud ((refine HM.out.mono ?_); rintro e W ⟨ge, rfl, hgo, hbl⟩; replace H := H.stay (Fix.of_below hbl _); clear hbl; unfold faultVT))
    | (go_at_call 62; go_loud ((refine (code_faultT ge 1 .nilIface _ (H.at 0 rfl) hgo).mono ?_); rintro e W2 ⟨rfl, hbl⟩; replace H := H.stay (Fix.of_below hbl _); clear hbl)))
  refine bodyPost_ret (results_tmp2 rfl _ _ _) rfl ?_
  exact ⟨rfl, H.fix.below⟩

theorem twrite_nolog {w : World} {g gm : Nat} (hb : Bundle w (noLogL g gm ++ [errA])) (z : Int) (v : Value) :
    Calls Tryz.prog 28 #[.pointer (some ⟨g, 0, none⟩), .int .i64 z, v] w fun e w' => e = .returned (.int .i64 1) ∧ Below w.heap.size w w' := by
  have hg : errA.prop w := hb.all 2 _ rfl
  have H := St.err hg
  have HM := Lib.hid (tmay_nolog (hb.open_.take 2).bundle)
  clear hb hg
  go_enter Tryz.func28, Tryz.ntmps28
  go_wp2_with (first
    | (go_at_call 61; go_loud ((refine HM.out.mono ?_); rintro e W ⟨ge, rfl, hgo, hbl⟩; replace H := H.stay (Fix.of_below hbl _); clear hbl; unfold faultVT))
    | (go_at_call 62; go_loud ((refine (code_faultT ge 1 .nilIface _ (H.at 0 rfl) hgo).mono ?_); rintro e W2 ⟨rfl, hbl⟩; replace H := H.stay (Fix.of_below hbl _); clear hbl)))
  go_ret
  exact ⟨rfl, H.fix.below⟩

theorem twrites_nolog {w : World} {g gm : Nat} (hb : Bundle w (noLogL g gm ++ [errA])) :
    Calls Tryz.prog 30 #[.pointer (some ⟨g, 0, none⟩)] w fun e w' => e = .returned (.int .i64 0) ∧ w = w' := by
  have H := hb.open_
  have hlen : ∀ ty, (Builtin.len_ #[97] ty #[.map (some gm)]).run Tryz.prog w = .ok (.int .i64 0) w := fun ty =>
    (H.at 1 rfl : w.ownsMap Tryz.prog 3 RV gm 0 (.map [])).len Tryz.underlying97 ty
  clear hb
  go_enter Tryz.func30, Tryz.ntmps30
  go_wp2_with (first
    | (refine wpList_load1_st rfl 4 _ rfl _ _ rfl _ _ _ (H.at 0 rfl) _ Tryz.underlying4 rfl _ (tRow2 _ _ _) ?_)
    | (refine wpList_load1_st rfl 97 _ rfl _ _ rfl _ _ _ (H.at 0 rfl) _ Tryz.underlying97 rfl _ (tRow1 _ _ _) ?_))
  go_ret
  exact ⟨rfl, rfl⟩

/-- What Commit does with a transaction that cannot be asked. -/
theorem tcommit_bad {w : World} {a : Option Addr} {g gm : Nat} (hb : Bundle w (noLogL g gm ++ [errA])) (ha : a = none ∨ a = some ⟨g, 0, none⟩) :
    Calls Tryz.prog 31 #[.pointer a] w fun e w' => e = .returned (.int .i64 1) ∧ Below w.heap.size w w' := by
  have hg : errA.prop w := hb.all 2 _ rfl
  have H := St.err hg
  have HM := Lib.hid (show Calls Tryz.prog 61 #[.pointer a] w fun e w' => ∃ ge, e = .returned (faultVT ge) ∧ w'.heap[ge]? = some (faultOT 1 .nilIface) ∧ Below w.heap.size w w' by
    rcases ha with rfl | rfl
    · exact tmay_nil w
    · exact tmay_nolog (hb.open_.take 2).bundle)
  clear hb hg ha
  have tok1 : True := trivial
  go_enter Tryz.func31, Tryz.ntmps31
  go_wp2_with (first
    | (go_at_call 61; go_loud ((refine HM.out.mono ?_); rintro e W ⟨ge, rfl, hgo, hbl⟩; replace H := (H.stay (Fix.of_below hbl _)).add (Fix.refl _ _) (imm ge (faultOT 1 .nilIface)) hgo (fun k hk => hk.elim) (fun k hk => .inr ⟨.inr (.inr trivial), fun B hB => by obtain rfl := List.mem_singleton.1 hB; exact fun h => h⟩); clear hbl; unfold faultVT))
    | (go_at_call 62; have _t := tok1; clear _t; go_loud ((refine (code_faultT ge 1 .nilIface _ (H.at 0 rfl) (H.at 1 rfl)).mono ?_); rintro e W2 ⟨rfl, hbl⟩; replace H := H.stay (Fix.of_below hbl _); clear hbl tok1))
    | (refine wpList_box_st H rfl 116 _ rfl (.agg #[.int .i64 1, faultVT ge]) rfl ?_; clear H; intro W ge2 H)
    | (go_at_call 62; go_loud ((refine (code_faultT ge2 1 (faultVT ge) _ (H.at 0 rfl) (H.at 2 rfl)).mono ?_); rintro e W2 ⟨rfl, hbl⟩; replace H := H.stay (Fix.of_below hbl _); clear hbl)))
  go_ret
  exact ⟨rfl, H.fix.below⟩

set_option maxHeartbeats 4000000 in
theorem txnNone_calls (w : World) (hg : errA.prop w) : Calls Tryz.prog 8 #[] w fun e w' => e = .returned (.bool true) ∧ Below w.heap.size w w' := by
  have H := St.err hg
  clear hg
  have tok1 : True := trivial
  have tok2 : True := trivial
  have tok3 : True := trivial
  have tok4 : True := trivial
  go_enter Tryz.func8, Tryz.ntmps8
  go_wp2_with (first
    | (go_at_call 18; go_loud ((refine (begin_nolog _).mono ?_); rintro e W ⟨g, gm, rfl, hs⟩; replace H := (BunTo.fresh (Ls := noLogL g gm) hs.bunTo H).rotate; clear hs))
    | (go_at_call 23; have _t := tok1; clear _t; go_loud ((refine (tread_nil _ _ (H.at 2 rfl)).mono ?_); rintro e W ⟨rfl, hb⟩; replace H := H.stay (Fix.of_below hb _); clear hb tok1))
    | (go_at_call 23; go_loud ((refine (tread_nolog H.bundle _).mono ?_); rintro e W ⟨rfl, hb⟩; replace H := H.stay (Fix.of_below hb _); clear hb))
    | (go_at_call 33; go_loud ((refine (tabort_nil _).mono ?_); rintro e W' ⟨rfl, rfl⟩))
    | (go_at_call 27; go_loud ((refine (begun19_calls _ (H.at 2 rfl)).mono ?_); rintro e W ⟨rfl, hb⟩; replace H := H.stay (Fix.of_below hb _); clear hb))
    | (go_at_call 28; have _t := tok2; clear _t; go_loud ((refine (twrite_nil _ _ _ (H.at 2 rfl)).mono ?_); rintro e W ⟨rfl, hb⟩; replace H := H.stay (Fix.of_below hb _); clear hb tok2))
    | (go_at_call 28; go_loud ((refine (twrite_nolog H.bundle _ _).mono ?_); rintro e W ⟨rfl, hb⟩; replace H := H.stay (Fix.of_below hb _); clear hb))
    | (go_at_call 31; have _t := tok3; clear _t; go_loud ((refine (tcommit_bad H.bundle (.inl rfl)).mono ?_); rintro e W ⟨rfl, hb⟩; replace H := H.stay (Fix.of_below hb _); clear hb tok3))
    | (go_at_call 31; go_loud ((refine (tcommit_bad H.bundle (.inr rfl)).mono ?_); rintro e W ⟨rfl, hb⟩; replace H := H.stay (Fix.of_below hb _); clear hb))
    | (go_at_call 30; have _t := tok4; clear _t; go_loud ((refine (twrites_nil _).mono ?_); rintro e W' ⟨rfl, rfl⟩; clear tok4))
    | (go_at_call 30; go_loud ((refine (twrites_nolog H.bundle).mono ?_); rintro e W' ⟨rfl, rfl⟩))
    | (go_at_call 24; go_loud ((refine (thomes_nil _).mono ?_); rintro e W' ⟨rfl, rfl⟩)))
  go_ret
  exact ⟨rfl, H.fix.below⟩

end Go.Proofs.YtphpegnfcelagaaGreatDoor
