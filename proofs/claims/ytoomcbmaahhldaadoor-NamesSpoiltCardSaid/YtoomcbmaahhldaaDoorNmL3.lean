/- The walks of the laws of layer 3 (names): NamesOrder, NamesSpoilt. -/
import Derived.Test.YtoomcbmaahhldaaDoorNmL1
import Derived.Test.YtoomcbmaahhldaaDoorNmP
namespace Go.Proofs.YtoomcbmaahhldaaDoor
open Go.RowKit
set_option linter.unusedSimpArgs false
set_option linter.unusedVariables false

theorem lawLess_is (x y : List UInt8) (hx : x.length = 32) (hy : y.length = 32) (v : Bool) (h : lessB x y = v) (w : World) :
    Calls Tryd.prog 18 #[arrV x, arrV y] w fun e w' => e = .returned (.bool v) ∧ Below w.heap.size w w' := by
  subst h; exact lawLess_calls x y hx hy w
theorem keyP_is (k : UInt8) (a b : ByteArray) (x1 : List UInt8) (x2 : Int) (hx : keyS k a.data.toList b.data.toList = (x1, x2)) (w : World) :
    Calls Tryd.prog 10 #[.int .u8 k.toNat, .string a, .string b] w fun e w' => e = .returned (.tuple #[arrV x1, .int .i64 x2]) ∧ Below w.heap.size w w' :=
  keyA_is k a b _ hx w

theorem namesOrder_long (k : UInt8) (a b c d : ByteArray) (w : World)
    (h : 40 < (a.size : Int) ∨ ((a.size : Int) ≤ 40 ∧ 40 < (b.size : Int)) ∨ ((a.size : Int) ≤ 40 ∧ (b.size : Int) ≤ 40 ∧ 40 < (c.size : Int)) ∨ ((a.size : Int) ≤ 40 ∧ (b.size : Int) ≤ 40 ∧ (c.size : Int) ≤ 40 ∧ 40 < (d.size : Int))) :
    Calls Tryd.prog 5 #[.int .u8 k.toNat, .string a, .string b, .string c, .string d] w fun e w' => e = .returned (.bool true) ∧ Below w.heap.size w w' := by
  have H := St.nil NoBlk NoBlk w
  rcases h with h1 | ⟨h1, h2⟩ | ⟨h1, h2, h3⟩ | ⟨h1, h2, h3, h4⟩
  all_goals
    go_enter Tryd.func5, Tryd.ntmps5
    go_wp2_with (first | (go_at_call 9; (with_reducible refine (begun_calls _).mono ?_); rintro e W ⟨rfl, hb⟩; replace H := H.stay (Fix.of_below hb _); clear hb))
    go_ret
    exact ⟨rfl, H.fix.below⟩

set_option maxHeartbeats 1000000 in
theorem namesOrder_bad (k : UInt8) (a b c d : ByteArray) (w : World) (h1 : (a.size : Int) ≤ 40) (h2 : (b.size : Int) ≤ 40) (h3 : (c.size : Int) ≤ 40) (h4 : (d.size : Int) ≤ 40)
    (x1 y1 : List UInt8) (x2 y2 : Int) (hx : keyS k a.data.toList b.data.toList = (x1, x2)) (hy : keyS k c.data.toList d.data.toList = (y1, y2))
    (h : ((x2 == 0) = false ∧ (x2 != 0) = true) ∨ (x2 = 0 ∧ (y2 == 0) = false ∧ (y2 != 0) = true)) :
    Calls Tryd.prog 5 #[.int .u8 k.toNat, .string a, .string b, .string c, .string d] w fun e w' => e = .returned (.bool true) ∧ Below w.heap.size w w' := by
  have H := St.nil NoBlk NoBlk w
  have lx := keyS_length k a.data.toList b.data.toList
  have ly := keyS_length k c.data.toList d.data.toList
  rw [hx] at lx
  rw [hy] at ly
  have HX := Lib.hid (keyP_is k a b x1 x2 hx)
  have HY := Lib.hid (keyP_is k c d y1 y2 hy)
  have LX := Lib.hid lx
  have LY := Lib.hid ly
  clear hx hy lx ly
  have tok1 : True := trivial
  rcases h with ⟨c1, c2⟩ | ⟨rfl, c1, c2⟩
  all_goals
    go_enter Tryd.func5, Tryd.ntmps5
    go_wp2_with (first | (go_at_call 9; (with_reducible refine (begun_calls _).mono ?_); rintro e W ⟨rfl, hb⟩; replace H := H.stay (Fix.of_below hb _); clear hb) | (go_at_call 10; have _t := tok1; clear _t; (with_reducible refine (HX.out _).mono ?_); clear tok1; rintro e W ⟨rfl, hb⟩; replace H := H.stay (Fix.of_below hb _); clear hb) | (go_at_call 10; (with_reducible refine (HY.out _).mono ?_); rintro e W ⟨rfl, hb⟩; replace H := H.stay (Fix.of_below hb _); clear hb) | (refine wpList_alloc_st H rfl 23 rfl _ zero_arr ?_; clear H; intro W g H; (try simp only [cells_arrV, List.nil_append, List.cons_append, List.set_cons_zero, List.set_cons_succ] at H)) | (refine wpList_storearr_st H 0 rfl 23 _ _ rfl _ _ rfl rfl _ _ rfl _ size_arr noKey_length LX.out ?_; clear H; intro W H; (try simp only [cells_arrV, List.nil_append, List.cons_append, List.set_cons_zero, List.set_cons_succ] at H)) | (refine wpList_storearr_st H 1 rfl 23 _ _ rfl _ _ rfl rfl _ _ rfl _ size_arr noKey_length LY.out ?_; clear H; intro W H; (try simp only [cells_arrV, List.nil_append, List.cons_append, List.set_cons_zero, List.set_cons_succ] at H)))
    go_ret
    exact ⟨rfl, H.fix.below⟩

set_option maxHeartbeats 2000000 in
theorem namesOrder_good (k : UInt8) (a b c d : ByteArray) (w : World) (h1 : (a.size : Int) ≤ 40) (h2 : (b.size : Int) ≤ 40) (h3 : (c.size : Int) ≤ 40) (h4 : (d.size : Int) ≤ 40)
    (x y : List UInt8) (hx : keyS k a.data.toList b.data.toList = (x, 0)) (hy : keyS k c.data.toList d.data.toList = (y, 0)) (p q r t : Bool)
    (hp : lessB a.data.toList c.data.toList = p) (hq : (a.toList == c.toList) = q) (hr : lessB b.data.toList d.data.toList = r) (ht : (b.toList == d.toList) = t)
    (hxy : lessB x y = (p || (q && r))) (hxe : (x == y) = (q && t))
    (h : (p = true ∧ q = false) ∨ (p = false ∧ q = false) ∨ (p = false ∧ q = true ∧ r = true ∧ t = false) ∨ (p = false ∧ q = true ∧ r = false ∧ t = true) ∨ (p = false ∧ q = true ∧ r = false ∧ t = false)) :
    Calls Tryd.prog 5 #[.int .u8 k.toNat, .string a, .string b, .string c, .string d] w fun e w' => e = .returned (.bool true) ∧ Below w.heap.size w w' := by
  have H := St.nil NoBlk NoBlk w
  have lx := keyS_length k a.data.toList b.data.toList
  have ly := keyS_length k c.data.toList d.data.toList
  rw [hx] at lx
  rw [hy] at ly
  have HX := Lib.hid (keyP_is k a b x 0 hx)
  have HY := Lib.hid (keyP_is k c d y 0 hy)
  have LX := Lib.hid lx
  have LY := Lib.hid ly
  have HP := Lib.hid (lessA_is a c p hp)
  have HR := Lib.hid (lessA_is b d r hr)
  clear hx hy lx ly hp hr
  have HL := Lib.hid (lawLess_is x y LX.out LY.out _ hxy)
  clear hxy
  have tok1 : True := trivial
  rcases h with ⟨rfl, rfl⟩ | ⟨rfl, rfl⟩ | ⟨rfl, rfl, rfl, rfl⟩ | ⟨rfl, rfl, rfl, rfl⟩ | ⟨rfl, rfl, rfl, rfl⟩
  all_goals
    simp only [Bool.true_or, Bool.false_or, Bool.false_and, Bool.true_and, Bool.and_true, Bool.and_false] at hxe HL
    go_enter Tryd.func5, Tryd.ntmps5
    go_wp2_with (first | (go_at_call 9; (with_reducible refine (begun_calls _).mono ?_); rintro e W ⟨rfl, hb⟩; replace H := H.stay (Fix.of_below hb _); clear hb) | (go_at_call 10; have _t := tok1; clear _t; (with_reducible refine (HX.out _).mono ?_); clear tok1; rintro e W ⟨rfl, hb⟩; replace H := H.stay (Fix.of_below hb _); clear hb) | (go_at_call 10; (with_reducible refine (HY.out _).mono ?_); rintro e W ⟨rfl, hb⟩; replace H := H.stay (Fix.of_below hb _); clear hb) | (go_at_call 14; (with_reducible refine (HP.out _).mono ?_); rintro e W' ⟨rfl, rfl⟩) | (go_at_call 14; (with_reducible refine (HR.out _).mono ?_); rintro e W' ⟨rfl, rfl⟩) | (go_at_call 18; (with_reducible refine (HL.out _).mono ?_); rintro e W ⟨rfl, hb⟩; replace H := H.stay (Fix.of_below hb _); clear hb) | (refine wpList_alloc_st H rfl 23 rfl _ zero_arr ?_; clear H; intro W g H; (try simp only [cells_arrV, List.nil_append, List.cons_append, List.set_cons_zero, List.set_cons_succ] at H)) | (refine wpList_storearr_st H 0 rfl 23 _ _ rfl _ _ rfl rfl _ _ rfl _ size_arr noKey_length LX.out ?_; clear H; intro W H; (try simp only [cells_arrV, List.nil_append, List.cons_append, List.set_cons_zero, List.set_cons_succ] at H)) | (refine wpList_storearr_st H 1 rfl 23 _ _ rfl _ _ rfl rfl _ _ rfl _ size_arr noKey_length LY.out ?_; clear H; intro W H; (try simp only [cells_arrV, List.nil_append, List.cons_append, List.set_cons_zero, List.set_cons_succ] at H)) | (refine wpList_loadarr_st rfl 23 _ rfl _ rfl _ _ _ (H.at 0 rfl) _ Tryd.underlying23 rfl _ size_arr LX.out ?_) | (refine wpList_loadarr_st rfl 23 _ rfl _ rfl _ _ _ (H.at 1 rfl) _ Tryd.underlying23 rfl _ size_arr LY.out ?_) | (refine wpList_eqarr rfl 23 23 _ _ rfl _ _ rfl rfl 5 _ Tryd.underlying23 Tryd.underlying5 size_u8 guard_arr LX.out LY.out ?_))
    go_ret
    exact ⟨rfl, H.fix.below⟩

theorem toList_beq' (a b : ByteArray) : (a.toList == b.toList) = (a.data.toList == b.data.toList) := by
  rw [Go.Lib.toList_data, Go.Lib.toList_data]

theorem namesOrder_calls (k : UInt8) (a b c d : ByteArray) (w : World) :
    Calls Tryd.prog 5 #[.int .u8 k.toNat, .string a, .string b, .string c, .string d] w fun e w' => e = .returned (.bool true) ∧ Below w.heap.size w w' := by
  by_cases h : 40 < (a.size : Int) ∨ ((a.size : Int) ≤ 40 ∧ 40 < (b.size : Int)) ∨ ((a.size : Int) ≤ 40 ∧ (b.size : Int) ≤ 40 ∧ 40 < (c.size : Int)) ∨ ((a.size : Int) ≤ 40 ∧ (b.size : Int) ≤ 40 ∧ (c.size : Int) ≤ 40 ∧ 40 < (d.size : Int))
  · exact namesOrder_long k a b c d w h
  · obtain ⟨⟨x1, x2⟩, hx⟩ : ∃ x, keyS k a.data.toList b.data.toList = x := ⟨_, rfl⟩
    obtain ⟨⟨y1, y2⟩, hy⟩ : ∃ x, keyS k c.data.toList d.data.toList = x := ⟨_, rfl⟩
    by_cases hx2 : x2 = 0
    · by_cases hy2 : y2 = 0
      · subst hx2 hy2
        have ho := keys_order hx hy
        refine namesOrder_good k a b c d w (by omega) (by omega) (by omega) (by omega) x1 y1 hx hy _ _ _ _ rfl rfl rfl rfl ?_ ?_ ?_
        · rw [toList_beq']; exact ho.1
        · rw [toList_beq', toList_beq']; exact ho.2
        · rw [toList_beq', toList_beq']
          cases hp : lessB a.data.toList c.data.toList with
          | true =>
            left
            refine ⟨rfl, ?_⟩
            cases hq : (a.data.toList == c.data.toList) with
            | false => rfl
            | true => rw [beq_iff_eq.1 hq, lessB_irrefl] at hp; cases hp
          | false =>
            right
            cases hq : (a.data.toList == c.data.toList) with
            | false => exact .inl ⟨rfl, rfl⟩
            | true =>
              right
              cases hr : lessB b.data.toList d.data.toList with
              | true =>
                left
                refine ⟨rfl, rfl, rfl, ?_⟩
                cases ht : (b.data.toList == d.data.toList) with
                | false => rfl
                | true => rw [beq_iff_eq.1 ht, lessB_irrefl] at hr; cases hr
              | false =>
                right
                cases ht : (b.data.toList == d.data.toList) with
                | true => exact .inl ⟨rfl, rfl, rfl, rfl⟩
                | false => exact .inr ⟨rfl, rfl, rfl, rfl⟩
      · exact namesOrder_bad k a b c d w (by omega) (by omega) (by omega) (by omega) x1 y1 x2 y2 hx hy (.inr ⟨hx2, by simpa using hy2, by simpa using hy2⟩)
    · exact namesOrder_bad k a b c d w (by omega) (by omega) (by omega) (by omega) x1 y1 x2 y2 hx hy (.inl ⟨by simpa using hx2, by simpa using hx2⟩)

end Go.Proofs.YtoomcbmaahhldaaDoor
