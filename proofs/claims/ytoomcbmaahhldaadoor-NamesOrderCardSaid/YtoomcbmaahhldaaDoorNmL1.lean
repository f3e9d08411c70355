/- The walks of the laws of layer 3 (names): NamesAll. -/
import Derived.Test.YtoomcbmaahhldaaDoorNmV
namespace Go.Proofs.YtoomcbmaahhldaaDoor
open Go.RowKit
set_option linter.unusedSimpArgs false
set_option linter.unusedVariables false

theorem mayA_is (s : ByteArray) (v : Bool) (h : mayB s.data.toList = v) (w : World) :
    Calls Tryd.prog 12 #[.string s] w fun e w' => e = .returned (.bool v) ∧ Below w.heap.size w w' := may_is s w v h
theorem refNameA_is (s : ByteArray) (v : Bool) (h : mayB s.data.toList = v) (w : World) :
    Calls Tryd.prog 13 #[.string s] w fun e w' => e = .returned (.bool v) ∧ w = w' := refName_is s w v h
theorem lessA_is (a b : ByteArray) (v : Bool) (h : lessB a.data.toList b.data.toList = v) (w : World) :
    Calls Tryd.prog 14 #[.string a, .string b] w fun e w' => e = .returned (.bool v) ∧ w = w' := by
  subst h; exact (lessN_calls a b w).mono fun _ _ ⟨h1, h2⟩ => ⟨h1, h2.symm⟩
theorem refLessA_is (a b : ByteArray) (v : Bool) (h : lessB a.data.toList b.data.toList = v) (ha : a.size ≤ 9223372036854775807) (hb : b.size ≤ 9223372036854775807) (w : World) :
    Calls Tryd.prog 15 #[.string a, .string b] w fun e w' => e = .returned (.bool v) ∧ Below w.heap.size w w' := by
  subst h
  refine (refLess_calls a b w ha hb).mono fun _ _ ⟨h1, n, h2⟩ => ⟨h1, ?_⟩
  subst h2
  exact (Fix.drewN NoBlk w n).below
theorem keyA_is (k : UInt8) (a b : ByteArray) (x : List UInt8 × Int) (hx : keyS k a.data.toList b.data.toList = x) (w : World) :
    Calls Tryd.prog 10 #[.int .u8 k.toNat, .string a, .string b] w fun e w' => e = .returned (.tuple #[arrV x.1, .int .i64 x.2]) ∧ Below w.heap.size w w' := by
  subst hx; exact key_calls k a b w
theorem refKeyA_is (k : UInt8) (a b : ByteArray) (x : List UInt8 × Int) (hx : keyS k a.data.toList b.data.toList = x) (w : World) :
    Calls Tryd.prog 11 #[.int .u8 k.toNat, .string a, .string b] w fun e w' => e = .returned (.tuple #[arrV x.1, .int .i64 x.2]) ∧ Below w.heap.size w w' := by
  subst hx; exact refKey_calls k a b w

theorem beq_list_self (l : List UInt8) : (l == l) = true := by simp

set_option maxHeartbeats 1000000 in
theorem namesAll_short (k : UInt8) (a b : ByteArray) (ha : (a.size : Int) ≤ 40) (hb : (b.size : Int) ≤ 40) (w : World) :
    Calls Tryd.prog 3 #[.int .u8 k.toNat, .string a, .string b] w fun e w' => e = .returned (.bool true) ∧ Below w.heap.size w w' := by
  have H := St.nil NoBlk NoBlk w
  obtain ⟨x, hx⟩ : ∃ x, keyS k a.data.toList b.data.toList = x := ⟨_, rfl⟩
  obtain ⟨m, hm⟩ : ∃ x, mayB a.data.toList = x := ⟨_, rfl⟩
  obtain ⟨s, hs⟩ : ∃ x, lessB a.data.toList b.data.toList = x := ⟨_, rfl⟩
  have hl := keyS_length k a.data.toList b.data.toList
  rw [hx] at hl
  have HK := Lib.hid (keyA_is k a b x hx)
  have HR := Lib.hid (refKeyA_is k a b x hx)
  have HM := Lib.hid (mayA_is a m hm)
  have HN := Lib.hid (refNameA_is a m hm)
  have HL := Lib.hid (lessA_is a b s hs)
  have HQ := Lib.hid (refLessA_is a b s hs (by omega) (by omega))
  have HS := Lib.hid hl
  clear hx hm hs hl
  obtain ⟨x1, x2⟩ := x
  have tok1 : True := trivial
  have b1 : (x2 == x2) = true := by simp
  have b2 : (m == m) = true := by simp
  have b3 : (s == s) = true := by simp
  go_enter Tryd.func3, Tryd.ntmps3
  go_wp2_with (first | (go_at_call 9; (with_reducible refine (begun_calls _).mono ?_); rintro e W ⟨rfl, hb⟩; replace H := H.stay (Fix.of_below hb _); clear hb) | (go_at_call 10; (with_reducible refine (HK.out _).mono ?_); rintro e W ⟨rfl, hb⟩; replace H := H.stay (Fix.of_below hb _); clear hb) | (go_at_call 11; (with_reducible refine (HR.out _).mono ?_); rintro e W ⟨rfl, hb⟩; replace H := H.stay (Fix.of_below hb _); clear hb) | (go_at_call 12; (with_reducible refine (HM.out _).mono ?_); rintro e W ⟨rfl, hb⟩; replace H := H.stay (Fix.of_below hb _); clear hb) | (go_at_call 13; (with_reducible refine (HN.out _).mono ?_); rintro e W' ⟨rfl, rfl⟩) | (go_at_call 14; (with_reducible refine (HL.out _).mono ?_); rintro e W' ⟨rfl, rfl⟩) | (go_at_call 15; (with_reducible refine (HQ.out _).mono ?_); rintro e W ⟨rfl, hb⟩; replace H := H.stay (Fix.of_below hb _); clear hb) | (refine wpList_alloc_st H rfl 23 rfl _ zero_arr ?_; clear H; intro W g H; (try simp only [cells_arrV, List.nil_append, List.cons_append, List.set_cons_zero, List.set_cons_succ] at H)) | (refine wpList_storearr_st H 0 rfl 23 _ _ rfl _ _ rfl rfl _ _ rfl _ size_arr noKey_length HS.out ?_; clear H; intro W H; (try simp only [cells_arrV, List.nil_append, List.cons_append, List.set_cons_zero, List.set_cons_succ] at H)) | (refine wpList_storearr_st H 1 rfl 23 _ _ rfl _ _ rfl rfl _ _ rfl _ size_arr noKey_length HS.out ?_; clear H; intro W H; (try simp only [cells_arrV, List.nil_append, List.cons_append, List.set_cons_zero, List.set_cons_succ] at H)) | (refine wpList_loadarr_st rfl 23 _ rfl _ rfl _ _ _ (H.at 0 rfl) _ Tryd.underlying23 rfl _ size_arr HS.out ?_) | (refine wpList_loadarr_st rfl 23 _ rfl _ rfl _ _ _ (H.at 1 rfl) _ Tryd.underlying23 rfl _ size_arr HS.out ?_) | ((refine wpList_eqarr rfl 23 23 _ _ rfl _ _ rfl rfl 5 _ Tryd.underlying23 Tryd.underlying5 size_u8 guard_arr HS.out HS.out ?_); rw [beq_list_self]))
  go_ret
  exact ⟨rfl, H.fix.below⟩

theorem namesAll_calls (k : UInt8) (a b : ByteArray) (w : World) :
    Calls Tryd.prog 3 #[.int .u8 k.toNat, .string a, .string b] w fun e w' => e = .returned (.bool true) ∧ Below w.heap.size w w' := by
  by_cases ha : (a.size : Int) ≤ 40
  · by_cases hb : (b.size : Int) ≤ 40
    · exact namesAll_short k a b ha hb w
    · have H := St.nil NoBlk NoBlk w
      have hb' : 40 < (b.size : Int) := by omega
      clear hb
      go_enter Tryd.func3, Tryd.ntmps3
      go_wp2_with (first | (go_at_call 9; (with_reducible refine (begun_calls _).mono ?_); rintro e W ⟨rfl, hb⟩; replace H := H.stay (Fix.of_below hb _); clear hb))
      go_ret
      exact ⟨rfl, H.fix.below⟩
  · have H := St.nil NoBlk NoBlk w
    have ha' : 40 < (a.size : Int) := by omega
    clear ha
    go_enter Tryd.func3, Tryd.ntmps3
    go_wp2_with (first | (go_at_call 9; (with_reducible refine (begun_calls _).mono ?_); rintro e W ⟨rfl, hb⟩; replace H := H.stay (Fix.of_below hb _); clear hb))
    go_ret
    exact ⟨rfl, H.fix.below⟩

end Go.Proofs.YtoomcbmaahhldaaDoor
