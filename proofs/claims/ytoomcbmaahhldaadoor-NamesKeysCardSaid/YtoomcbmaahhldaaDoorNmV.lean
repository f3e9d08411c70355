/- The walks of layer 3 (names), part 6: less, Place, begun. -/
import Derived.Test.YtoomcbmaahhldaaDoorNmU
namespace Go.Proofs.YtoomcbmaahhldaaDoor
open Go.RowKit
set_option linter.unusedSimpArgs false
set_option linter.unusedVariables false

set_option maxHeartbeats 1000000 in
theorem lawLess_calls (x y : List UInt8) (hx : x.length = 32) (hy : y.length = 32) (w : World) :
    Calls Tryd.prog 18 #[arrV x, arrV y] w fun e w' => e = .returned (.bool (lessB x y)) ∧ Below w.heap.size w w' := by
  have H := St.nil NoBlk NoBlk w
  have tok1 : True := trivial
  have HX := Lib.hid hx; clear hx
  have HY := Lib.hid hy; clear hy
  go_enter Tryd.func18, Tryd.ntmps18
  go_wp2_with (first | (have _t := tok1; clear _t; refine wpList_box_st H rfl 23 _ rfl (arrV _) rfl ?_; clear H tok1; intro W gx H; (try simp only [cells_arrV, List.nil_append, List.cons_append, List.set_cons_zero, List.set_cons_succ] at H)) | (refine wpList_box_st H rfl 23 _ rfl (arrV _) rfl ?_; clear H; intro W g H; (try simp only [cells_arrV, List.nil_append, List.cons_append, List.set_cons_zero, List.set_cons_succ] at H)))
  go_loopw [5] (fun i wr => ∃ k n : Nat, k ≤ 32 ∧ i = .int .i64 k ∧ wr = W.drewN n ∧ Hid (lessB x y = lessB (x.drop k) (y.drop k))) (fun i _ => 32 - (intOf i).toNat)
  case atStart => exact ⟨0, 0, Nat.zero_le _, rfl, rfl, Lib.hid rfl⟩
  case round =>
    obtain ⟨k, n, hk, rfl, rfl, HL⟩ := hrel
    by_cases hlt : k < 32
    · have hd := lessB_drop x y k (by rw [HX.out]; exact hlt) (by rw [HY.out]; exact hlt)
      have hcx : W.cell? ⟨gx, k, none⟩ = some (.int .u8 ((x[k]'(by rw [HX.out]; exact hlt)).toNat : Int)) := by
        rw [cell_of_row W gx k _ _ _ (H.at 0 rfl)]; simp [byteV, HX.out, hlt]
      have hcy : W.cell? ⟨g, k, none⟩ = some (.int .u8 ((y[k]'(by rw [HY.out]; exact hlt)).toNat : Int)) := by
        rw [cell_of_row W g k _ _ _ (H.at 1 rfl)]; simp [byteV, HY.out, hlt]
      generalize x[k]'(by rw [HX.out]; exact hlt) = p at *
      generalize y[k]'(by rw [HY.out]; exact hlt) = q at *
      have HD := Lib.hid (HL.out.trans hd); clear hd HL
      by_cases he : p = q
      · rw [if_pos he] at HD
        have hq : ((p.toNat : Int) == (q.toNat : Int)) = true := by rw [he]; simp
        clear he
        go_wp2
        go_quiet (fail)
        go_wp2
        go_roundw
        case rel => exact ⟨k + 1, _, by omega, by go_num, rfl, HD⟩
        case measure => simp [intOf]; omega
      · rw [if_neg he] at HD
        have hq : ((p.toNat : Int) == (q.toNat : Int)) = false := by
          rw [beq_eq_false_iff_ne]; intro e; exact he (UInt8.toNat_inj.1 (by omega))
        clear he
        go_wp2
        go_quiet (fail)
        go_wp2
        go_quiet (fail)
        go_wp2
        go_ret
        refine ⟨by rw [HD.out]; simp, (H.stay ?_).fix.below⟩
        rw [drewN2, drewN2]
        exact Fix.drewN _ _ _
    · obtain rfl : k = 32 := by omega
      have he := lessB_end x y 32 (by rw [HX.out]; omega) (by rw [HY.out]; omega) (.inl HX.out.symm)
      rw [HX.out, HY.out] at he
      have HE := Lib.hid (HL.out.trans he); clear he
      go_wp2
      go_ret
      exact ⟨by rw [HE.out]; rfl, (H.stay (Fix.drewN _ _ _)).fix.below⟩

theorem place_calls (k : Int) (h1 : -9223372036854775808 ≤ k) (h2 : k ≤ 9223372036854775807) (w : World) :
    Calls Tryd.prog 19 #[.int .i64 k, .int .i64 32] w fun e w' => e = .returned (.int .i64 (k % 32)) ∧ w = w' := by
  have ht : Int.tmod k 32 = if 0 ≤ k then k % 32 else -((-k) % 32) := by
    split
    · rename_i h; exact Int.tmod_eq_emod_of_nonneg h
    · rename_i h
      have := Int.tmod_eq_emod_of_nonneg (a := -k) (b := 32) (by omega)
      rw [Int.neg_tmod] at this
      omega
  by_cases h0 : 0 ≤ k
  · rw [if_pos h0] at ht
    go_enter Tryd.func19, Tryd.ntmps19
    go_wp2
    go_ret
    exact ⟨rfl, rfl⟩
  · rw [if_neg h0] at ht
    go_enter Tryd.func19, Tryd.ntmps19
    go_wp2
    all_goals
      go_ret
      refine ⟨congrArg (fun z => Ending.returned (Value.int .i64 z)) ?_, rfl⟩
      omega

theorem key1 : keyS 1 [97] [98] = (keyB 1 [97] [98], 0) := by decide +kernel
theorem take1 : takeN (keyB 1 [97] [98]) = (1, [97], [98], 0) := by decide +kernel
theorem may1 : mayB [122, 45, 57] = true := by decide +kernel
theorem may2 : mayB [57] = false := by decide +kernel
theorem less1 : lessB [97] [97, 98] = true := by decide +kernel

theorem take_is (l : List UInt8) (hl : l.length = 32) (r : UInt8 × List UInt8 × List UInt8 × Int) (hr : takeN l = r) (w : World) :
    Calls Tryd.prog 16 #[arrV l] w fun e w' => e = .returned (takeV r) ∧ Below w.heap.size w w' := by
  subst hr; exact takeKey_calls l hl w
theorem less_is (a b : List UInt8) (v : Bool) (h : lessB a b = v) (w : World) :
    Calls Tryd.prog 14 #[.string ⟨a.toArray⟩, .string ⟨b.toArray⟩] w fun e w' => e = .returned (.bool v) ∧ w = w' := by
  subst h; exact (lessN_calls ⟨a.toArray⟩ ⟨b.toArray⟩ w).mono fun _ _ ⟨h1, h2⟩ => ⟨h1, h2.symm⟩

set_option maxHeartbeats 1000000 in
theorem begun_calls (w : World) :
    Calls Tryd.prog 9 #[] w fun e w' => e = .returned (.bool true) ∧ Below w.heap.size w w' := by
  have H := St.nil NoBlk NoBlk w
  have hK : ∀ w, Calls Tryd.prog 10 #[.int .u8 1, .string ⟨#[97]⟩, .string ⟨#[98]⟩] w fun e w' => e = .returned (.tuple #[arrV (keyB 1 [97] [98]), .int .i64 0]) ∧ Below w.heap.size w w' := key_is 1 [97] [98] _ key1
  have hT : ∀ w, Calls Tryd.prog 16 #[arrV (keyB 1 [97] [98])] w fun e w' => e = .returned (.tuple #[.int .u8 1, .string ⟨#[97]⟩, .string ⟨#[98]⟩, .int .i64 0]) ∧ Below w.heap.size w w' := take_is (keyB 1 [97] [98]) (by decide) _ take1
  have hM1 := fun w => may_is ⟨#[122, 45, 57]⟩ w true may1
  have hM2 := fun w => may_is ⟨#[57]⟩ w false may2
  have hL : ∀ w, Calls Tryd.prog 14 #[.string ⟨#[97]⟩, .string ⟨#[97, 98]⟩] w fun e w' => e = .returned (.bool true) ∧ w = w' := less_is [97] [97, 98] true less1
  have e0 : (byteV (keyB 1 [97] [98])).toArray[0]? = some (.int .u8 1) := rfl
  have e2 : (byteV (keyB 1 [97] [98])).toArray[2]? = some (.int .u8 97) := rfl
  have e17 : (byteV (keyB 1 [97] [98])).toArray[17]? = some (.int .u8 98) := rfl
  have hs : (keyB 1 [97] [98]).length = 32 := rfl
  generalize keyB 1 [97] [98] = kk at *
  have HK := Lib.hid hK; clear hK
  have HT := Lib.hid hT; clear hT
  have HM1 := Lib.hid hM1; clear hM1
  have HM2 := Lib.hid hM2; clear hM2
  have HL := Lib.hid hL; clear hL
  have E0 := Lib.hid e0; clear e0
  have E2 := Lib.hid e2; clear e2
  have E17 := Lib.hid e17; clear e17
  have HS := Lib.hid hs; clear hs
  go_enter Tryd.func9, Tryd.ntmps9
  go_wp2_with (first | (go_at_call 10; (with_reducible refine (HK.out _).mono ?_); rintro e W ⟨rfl, hb⟩; replace H := H.stay (Fix.of_below hb _); clear hb) | (go_at_call 16; (with_reducible refine (HT.out _).mono ?_); rintro e W ⟨rfl, hb⟩; replace H := H.stay (Fix.of_below hb _); clear hb) | (go_at_call 12; (with_reducible refine (HM1.out _).mono ?_); rintro e W ⟨rfl, hb⟩; replace H := H.stay (Fix.of_below hb _); clear hb) | (go_at_call 12; (with_reducible refine (HM2.out _).mono ?_); rintro e W ⟨rfl, hb⟩; replace H := H.stay (Fix.of_below hb _); clear hb) | (go_at_call 14; (with_reducible refine (HL.out _).mono ?_); rintro e W' ⟨rfl, rfl⟩) | (refine wpList_alloc_st H rfl 23 rfl _ zero_arr ?_; clear H; intro W g H; (try simp only [cells_arrV, List.nil_append, List.cons_append, List.set_cons_zero, List.set_cons_succ] at H)) | (refine wpList_storearr_st H 0 rfl 23 _ _ rfl _ _ rfl rfl _ _ rfl _ size_arr noKey_length HS.out ?_; clear H; intro W H; (try simp only [cells_arrV, List.nil_append, List.cons_append, List.set_cons_zero, List.set_cons_succ] at H)) | (refine wpList_loadarr_st rfl 23 _ rfl _ rfl _ _ _ (H.at 0 rfl) _ Tryd.underlying23 rfl _ size_arr HS.out ?_) | (refine wpList_load1_st rfl 5 _ rfl _ _ rfl _ _ _ (H.at 0 rfl) _ Tryd.underlying5 rfl _ E0.out ?_) | (refine wpList_load1_st rfl 5 _ rfl _ _ rfl _ _ _ (H.at 0 rfl) _ Tryd.underlying5 rfl _ E2.out ?_) | (refine wpList_load1_st rfl 5 _ rfl _ _ rfl _ _ _ (H.at 0 rfl) _ Tryd.underlying5 rfl _ E17.out ?_))
  go_ret
  exact ⟨rfl, H.fix.below⟩

end Go.Proofs.YtoomcbmaahhldaaDoor
