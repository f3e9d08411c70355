/- The walks of the laws of layer 3 (names): NamesSpoilt. -/
import Derived.Test.YtoomcbmaahhldaaDoorNmL3
namespace Go.Proofs.YtoomcbmaahhldaaDoor
open Go.RowKit
set_option linter.unusedSimpArgs false
set_option linter.unusedVariables false

theorem namesSpoilt_long (k : UInt8) (a b : ByteArray) (n : Int) (x : UInt8) (w : World) (h : 40 < (a.size : Int) ∨ ((a.size : Int) ≤ 40 ∧ 40 < (b.size : Int))) :
    Calls Tryd.prog 7 #[.int .u8 k.toNat, .string a, .string b, .int .i64 n, .int .u8 x.toNat] w fun e w' => e = .returned (.bool true) ∧ Below w.heap.size w w' := by
  have H := St.nil NoBlk NoBlk w
  rcases h with h1 | ⟨h1, h2⟩
  all_goals
    go_enter Tryd.func7, Tryd.ntmps7
    go_wp2_with (first | (go_at_call 9; (with_reducible refine (begun_calls _).mono ?_); rintro e W ⟨rfl, hb⟩; replace H := H.stay (Fix.of_below hb _); clear hb))
    go_ret
    exact ⟨rfl, H.fix.below⟩

theorem built_arr : Tryd.prog.built 23 [] = some (byteV noKey).toArray := by kernel_rfl
theorem noKey_beq : (noKey == noKey) = true := by simp

set_option maxHeartbeats 1000000 in
theorem namesSpoilt_bad (k : UInt8) (a b : ByteArray) (n : Int) (x : UInt8) (w : World) (h1 : (a.size : Int) ≤ 40) (h2 : (b.size : Int) ≤ 40) (c : Int)
    (hx : keyS k a.data.toList b.data.toList = (noKey, c)) (c1 : (c == 0) = false) (c2 : (c != 0) = true) :
    Calls Tryd.prog 7 #[.int .u8 k.toNat, .string a, .string b, .int .i64 n, .int .u8 x.toNat] w fun e w' => e = .returned (.bool true) ∧ Below w.heap.size w w' := by
  have H := St.nil NoBlk NoBlk w
  have HX := Lib.hid (keyP_is k a b _ _ hx)
  clear hx
  go_enter Tryd.func7, Tryd.ntmps7
  go_wp2_with (first | (go_at_call 9; (with_reducible refine (begun_calls _).mono ?_); rintro e W ⟨rfl, hb⟩; replace H := H.stay (Fix.of_below hb _); clear hb) | (go_at_call 10; (with_reducible refine (HX.out _).mono ?_); rintro e W ⟨rfl, hb⟩; replace H := H.stay (Fix.of_below hb _); clear hb) | (refine wpList_alloc_st H rfl 23 rfl _ zero_arr ?_; clear H; intro W g H; (try simp only [cells_arrV, List.nil_append, List.cons_append, List.set_cons_zero, List.set_cons_succ] at H)) | (refine wpList_storearr_st H 0 rfl 23 _ _ rfl _ _ rfl rfl _ _ rfl _ size_arr noKey_length noKey_length ?_; clear H; intro W H; (try simp only [cells_arrV, List.nil_append, List.cons_append, List.set_cons_zero, List.set_cons_succ] at H)) | (refine wpList_loadarr_st rfl 23 _ rfl _ rfl _ _ _ (H.at 0 rfl) _ Tryd.underlying23 rfl _ size_arr noKey_length ?_) | ((refine wpList_buildz rfl 23 rfl noKey built_arr ?_)) | ((refine wpList_eqarr rfl 23 23 _ _ rfl _ _ rfl rfl 5 _ Tryd.underlying23 Tryd.underlying5 size_u8 guard_arr noKey_length noKey_length ?_); rw [noKey_beq]))
  go_ret
  exact ⟨rfl, H.fix.below⟩

theorem takeKeyD_is (l : List UInt8) (hl : l.length = 32) (k : UInt8) (a b : ByteArray) (c : Int) (hr : takeN l = (k, a.data.toList, b.data.toList, c)) (w : World) :
    Calls Tryd.prog 16 #[arrV l] w fun e w' => e = .returned (.tuple #[.int .u8 k.toNat, .string a, .string b, .int .i64 c]) ∧ Below w.heap.size w w' := by
  have := take_is l hl _ hr w
  simpa [takeV] using this

set_option maxHeartbeats 4000000 in
theorem namesSpoilt_walk (k : UInt8) (a b : ByteArray) (n : Int) (x : UInt8) (w : World) (h1 : (a.size : Int) ≤ 40) (h2 : (b.size : Int) ≤ 40) (l : List UInt8)
    (hx : keyS k a.data.toList b.data.toList = (l, 0)) (i : Nat) (hi32 : (i : Int) < 32) (hp : ∀ w, Calls Tryd.prog 19 #[.int .i64 n, .int .i64 32] w fun e w' => e = .returned (.int .i64 (i : Int)) ∧ w = w')
    (c : UInt8) (D G : ByteArray) (r : Int) (ht : takeN (l.set i (l.getD i 0 ^^^ x)) = (c, D.data.toList, G.data.toList, r)) (q1 q2 q3 z v : Bool)
    (e1 : ((c.toNat : Int) == (k.toNat : Int)) = q1) (e2 : (D.toList == a.toList) = q2) (e3 : (G.toList == b.toList) = q3) (z1 : ((x.toNat : Int) == 0) = z) (z2 : ((x.toNat : Int) != 0) = !z)
    (hv : G.toList.isEmpty = v)
    (hc : (r = 3 ∧ z = false) ∨ (r = 0 ∧ (mayB D.data.toList = true ∧ ((v = true) ∨ (v = false ∧ mayB G.data.toList = true))) ∧
      ((q1 = true ∧ q2 = true ∧ q3 = true ∧ z = true) ∨ (q1 = false ∧ z = false) ∨ (q1 = true ∧ q2 = false ∧ z = false) ∨ (q1 = true ∧ q2 = true ∧ q3 = false ∧ z = false)))) :
    Calls Tryd.prog 7 #[.int .u8 k.toNat, .string a, .string b, .int .i64 n, .int .u8 x.toNat] w fun e w' => e = .returned (.bool true) ∧ Below w.heap.size w w' := by
  have H := St.nil NoBlk NoBlk w
  have HP := Lib.hid hp
  have lx := keyS_length k a.data.toList b.data.toList
  rw [hx] at lx
  have HX := Lib.hid (keyP_is k a b _ _ hx)
  have LX := Lib.hid lx
  have hl : (byteV l).toArray[i]? = some (.int .u8 ((l.getD i 0).toNat : Int)) := by
    simp only at lx
    have : i < 32 := by omega
    simp [byteV, List.getD, lx, this]
  obtain ⟨y, hy⟩ : ∃ y, l.getD i 0 = y := ⟨_, rfl⟩
  obtain ⟨u, hu⟩ : ∃ u, y ^^^ x = u := ⟨_, rfl⟩
  rw [hy] at hl ht
  rw [hu] at ht
  have HU := Lib.hid hu
  have HL := Lib.hid hl
  have lt : (l.set i u).length = 32 := by simpa using lx
  have LT := Lib.hid lt
  have HT := Lib.hid (takeKeyD_is _ lt c D G r ht)
  have hoff : i < (byteV l).toArray.size := by simp only at lx; simp [lx]; omega
  have HO := Lib.hid hoff
  clear hx hp lx hl lt ht hoff hy hu
  rcases hc with ⟨rfl, rfl⟩ | ⟨rfl, ⟨hm, hv2⟩, hq⟩
  · simp only [Bool.not_false] at z2
    go_enter Tryd.func7, Tryd.ntmps7
    go_wp2_with (first | (go_at_call 9; (with_reducible refine (begun_calls _).mono ?_); rintro e W ⟨rfl, hb⟩; replace H := H.stay (Fix.of_below hb _); clear hb) | (go_at_call 10; (with_reducible refine (HX.out _).mono ?_); rintro e W ⟨rfl, hb⟩; replace H := H.stay (Fix.of_below hb _); clear hb) | (go_at_call 19; (with_reducible refine (HP.out _).mono ?_); rintro e W' ⟨rfl, rfl⟩) | (go_at_call 16; (with_reducible refine (HT.out _).mono ?_); rintro e W ⟨rfl, hb⟩; replace H := H.stay (Fix.of_below hb _); clear hb) | (refine wpList_alloc_st H rfl 23 rfl _ zero_arr ?_; clear H; intro W g H; (try simp only [cells_arrV, List.nil_append, List.cons_append, List.set_cons_zero, List.set_cons_succ] at H)) | (refine wpList_storearr_st H 0 rfl 23 _ _ rfl _ _ rfl rfl _ _ rfl _ size_arr noKey_length LX.out ?_; clear H; intro W H; (try simp only [cells_arrV, List.nil_append, List.cons_append, List.set_cons_zero, List.set_cons_succ] at H)) | (refine wpList_storearr_st H 1 rfl 23 _ _ rfl _ _ rfl rfl _ _ rfl _ size_arr noKey_length LX.out ?_; clear H; intro W H; (try simp only [cells_arrV, List.nil_append, List.cons_append, List.set_cons_zero, List.set_cons_succ] at H)) | (refine wpList_loadarr_st rfl 23 _ rfl _ rfl _ _ _ (H.at 0 rfl) _ Tryd.underlying23 rfl _ size_arr LX.out ?_) | (refine wpList_loadarr_st rfl 23 _ rfl _ rfl _ _ _ (H.at 1 rfl) _ Tryd.underlying23 rfl _ size_arr LT.out ?_) | (refine wpList_load1_st rfl 5 _ rfl _ _ rfl _ _ _ (H.at 1 rfl) _ Tryd.underlying5 rfl _ HL.out ?_) | (refine wpList_xor8 rfl 5 5 _ _ rfl _ _ rfl rfl _ HU.out ?_) | (refine wpList_store1_st H 1 rfl 5 _ _ rfl _ _ (.int .u8 ((UInt8.toNat _ : Nat) : Int)) rfl rfl rfl _ _ rfl size_u8 HO.out ?_; clear H; intro W H; (try simp only [cells_arrV, List.nil_append, List.cons_append, List.set_cons_zero, List.set_cons_succ] at H); simp only [byteV_set] at H; skip))
    go_ret
    exact ⟨rfl, H.fix.below⟩
  · have HD := Lib.hid (mayA_is D true hm)
    clear hm
    rcases hv2 with rfl | ⟨rfl, hg⟩
    · rcases hq with ⟨rfl, rfl, rfl, rfl⟩ | ⟨rfl, rfl⟩ | ⟨rfl, rfl, rfl⟩ | ⟨rfl, rfl, rfl, rfl⟩
      all_goals
        simp only [Bool.not_false, Bool.not_true] at z2
        go_enter Tryd.func7, Tryd.ntmps7
        go_wp2_with (first | (go_at_call 9; (with_reducible refine (begun_calls _).mono ?_); rintro e W ⟨rfl, hb⟩; replace H := H.stay (Fix.of_below hb _); clear hb) | (go_at_call 10; (with_reducible refine (HX.out _).mono ?_); rintro e W ⟨rfl, hb⟩; replace H := H.stay (Fix.of_below hb _); clear hb) | (go_at_call 19; (with_reducible refine (HP.out _).mono ?_); rintro e W' ⟨rfl, rfl⟩) | (go_at_call 16; (with_reducible refine (HT.out _).mono ?_); rintro e W ⟨rfl, hb⟩; replace H := H.stay (Fix.of_below hb _); clear hb) | (go_at_call 12; (with_reducible refine (HD.out _).mono ?_); rintro e W ⟨rfl, hb⟩; replace H := H.stay (Fix.of_below hb _); clear hb) | (refine wpList_alloc_st H rfl 23 rfl _ zero_arr ?_; clear H; intro W g H; (try simp only [cells_arrV, List.nil_append, List.cons_append, List.set_cons_zero, List.set_cons_succ] at H)) | (refine wpList_storearr_st H 0 rfl 23 _ _ rfl _ _ rfl rfl _ _ rfl _ size_arr noKey_length LX.out ?_; clear H; intro W H; (try simp only [cells_arrV, List.nil_append, List.cons_append, List.set_cons_zero, List.set_cons_succ] at H)) | (refine wpList_storearr_st H 1 rfl 23 _ _ rfl _ _ rfl rfl _ _ rfl _ size_arr noKey_length LX.out ?_; clear H; intro W H; (try simp only [cells_arrV, List.nil_append, List.cons_append, List.set_cons_zero, List.set_cons_succ] at H)) | (refine wpList_loadarr_st rfl 23 _ rfl _ rfl _ _ _ (H.at 0 rfl) _ Tryd.underlying23 rfl _ size_arr LX.out ?_) | (refine wpList_loadarr_st rfl 23 _ rfl _ rfl _ _ _ (H.at 1 rfl) _ Tryd.underlying23 rfl _ size_arr LT.out ?_) | (refine wpList_load1_st rfl 5 _ rfl _ _ rfl _ _ _ (H.at 1 rfl) _ Tryd.underlying5 rfl _ HL.out ?_) | (refine wpList_xor8 rfl 5 5 _ _ rfl _ _ rfl rfl _ HU.out ?_) | (refine wpList_store1_st H 1 rfl 5 _ _ rfl _ _ (.int .u8 ((UInt8.toNat _ : Nat) : Int)) rfl rfl rfl _ _ rfl size_u8 HO.out ?_; clear H; intro W H; (try simp only [cells_arrV, List.nil_append, List.cons_append, List.set_cons_zero, List.set_cons_succ] at H); simp only [byteV_set] at H; skip))
        go_ret
        exact ⟨rfl, H.fix.below⟩
    · have HG := Lib.hid (mayA_is G true hg)
      clear hg
      rcases hq with ⟨rfl, rfl, rfl, rfl⟩ | ⟨rfl, rfl⟩ | ⟨rfl, rfl, rfl⟩ | ⟨rfl, rfl, rfl, rfl⟩
      all_goals
        simp only [Bool.not_false, Bool.not_true] at z2
        go_enter Tryd.func7, Tryd.ntmps7
        go_wp2_with (first | (go_at_call 9; (with_reducible refine (begun_calls _).mono ?_); rintro e W ⟨rfl, hb⟩; replace H := H.stay (Fix.of_below hb _); clear hb) | (go_at_call 10; (with_reducible refine (HX.out _).mono ?_); rintro e W ⟨rfl, hb⟩; replace H := H.stay (Fix.of_below hb _); clear hb) | (go_at_call 19; (with_reducible refine (HP.out _).mono ?_); rintro e W' ⟨rfl, rfl⟩) | (go_at_call 16; (with_reducible refine (HT.out _).mono ?_); rintro e W ⟨rfl, hb⟩; replace H := H.stay (Fix.of_below hb _); clear hb) | (go_at_call 12; (with_reducible refine (HD.out _).mono ?_); rintro e W ⟨rfl, hb⟩; replace H := H.stay (Fix.of_below hb _); clear hb) | (go_at_call 12; (with_reducible refine (HG.out _).mono ?_); rintro e W ⟨rfl, hb⟩; replace H := H.stay (Fix.of_below hb _); clear hb) | (refine wpList_alloc_st H rfl 23 rfl _ zero_arr ?_; clear H; intro W g H; (try simp only [cells_arrV, List.nil_append, List.cons_append, List.set_cons_zero, List.set_cons_succ] at H)) | (refine wpList_storearr_st H 0 rfl 23 _ _ rfl _ _ rfl rfl _ _ rfl _ size_arr noKey_length LX.out ?_; clear H; intro W H; (try simp only [cells_arrV, List.nil_append, List.cons_append, List.set_cons_zero, List.set_cons_succ] at H)) | (refine wpList_storearr_st H 1 rfl 23 _ _ rfl _ _ rfl rfl _ _ rfl _ size_arr noKey_length LX.out ?_; clear H; intro W H; (try simp only [cells_arrV, List.nil_append, List.cons_append, List.set_cons_zero, List.set_cons_succ] at H)) | (refine wpList_loadarr_st rfl 23 _ rfl _ rfl _ _ _ (H.at 0 rfl) _ Tryd.underlying23 rfl _ size_arr LX.out ?_) | (refine wpList_loadarr_st rfl 23 _ rfl _ rfl _ _ _ (H.at 1 rfl) _ Tryd.underlying23 rfl _ size_arr LT.out ?_) | (refine wpList_load1_st rfl 5 _ rfl _ _ rfl _ _ _ (H.at 1 rfl) _ Tryd.underlying5 rfl _ HL.out ?_) | (refine wpList_xor8 rfl 5 5 _ _ rfl _ _ rfl rfl _ HU.out ?_) | (refine wpList_store1_st H 1 rfl 5 _ _ rfl _ _ (.int .u8 ((UInt8.toNat _ : Nat) : Int)) rfl rfl rfl _ _ rfl size_u8 HO.out ?_; clear H; intro W H; (try simp only [cells_arrV, List.nil_append, List.cons_append, List.set_cons_zero, List.set_cons_succ] at H); simp only [byteV_set] at H; skip))
        go_ret
        exact ⟨rfl, H.fix.below⟩

theorem keyS_bad (k : UInt8) (a b : List UInt8) : (∃ l, keyS k a b = (l, 0)) ∨ (∃ c, keyS k a b = (noKey, c) ∧ c ≠ 0) := by
  unfold keyS
  split
  · exact .inr ⟨1, rfl, by decide⟩
  · split
    · exact .inr ⟨14, rfl, by decide⟩
    · exact .inl ⟨_, rfl⟩

theorem xor_self (y x : UInt8) (h : y ^^^ x = y) : x = 0 := by
  have : y ^^^ (y ^^^ x) = y ^^^ y := by rw [h]
  simpa [← UInt8.xor_assoc] using this

theorem set_self (l : List UInt8) (i : Nat) : l.set i (l.getD i 0) = l := by
  apply List.ext_getElem?
  intro j
  rw [List.getElem?_set]
  split
  · rename_i h; subst h
    split
    · rename_i h; simp [List.getD, h]
    · rename_i h; rw [List.getElem?_eq_none (by omega)]
  · rfl

theorem bool_nat (u v : UInt8) : ((u.toNat : Int) == (v.toNat : Int)) = (u == v) := by
  rw [Bool.eq_iff_iff, beq_iff_eq, beq_iff_eq, ← UInt8.toNat_inj]; omega

theorem namesSpoilt_calls (k : UInt8) (a b : ByteArray) (n : Int) (x : UInt8) (w : World) (hn1 : -9223372036854775808 ≤ n) (hn2 : n ≤ 9223372036854775807) :
    Calls Tryd.prog 7 #[.int .u8 k.toNat, .string a, .string b, .int .i64 n, .int .u8 x.toNat] w fun e w' => e = .returned (.bool true) ∧ Below w.heap.size w w' := by
  by_cases hlong : 40 < (a.size : Int) ∨ ((a.size : Int) ≤ 40 ∧ 40 < (b.size : Int))
  · exact namesSpoilt_long k a b n x w hlong
  · rcases keyS_bad k a.data.toList b.data.toList with ⟨l, hl⟩ | ⟨c, hc, hne⟩
    · obtain ⟨i, hi⟩ : ∃ i : Nat, n % 32 = (i : Int) := ⟨(n % 32).toNat, by omega⟩
      have hp := place_calls n hn1 hn2
      rw [hi] at hp
      have hll : l.length = 32 := by have := keyS_length k a.data.toList b.data.toList; rw [hl] at this; exact this
      have hz1 : ((x.toNat : Int) == 0) = (x == 0) := bool_nat x 0
      have hz2 : ((x.toNat : Int) != 0) = !(x == 0) := by rw [bne, hz1]
      rcases takeN_cases (l.set i (l.getD i 0 ^^^ x)) with ⟨c, d, g, hk, ht⟩ | ⟨hno, ht⟩
      · refine namesSpoilt_walk k a b n x w (by omega) (by omega) l hl i (by omega) hp c ⟨d.toArray⟩ ⟨g.toArray⟩ 0 ht _ _ _ _ _ rfl rfl rfl hz1 hz2 rfl (.inr ⟨rfl, ⟨?_, ?_⟩, ?_⟩)
        · exact (keyS_ok hk).2.1
        · rw [Go.Lib.toList_data]
          rcases (keyS_ok hk).2.2.1 with rfl | hg
          · exact .inl rfl
          · right
            refine ⟨?_, hg⟩
            have := (mayB_le hg).2
            simpa using this
        · rw [bool_nat, toList_beq', toList_beq']
          show ((c == k) = true ∧ (d == a.data.toList) = true ∧ (g == b.data.toList) = true ∧ _) ∨ _
          by_cases hx : x = 0
          · left
            subst hx
            rw [UInt8.xor_zero, set_self] at ht
            have h2 := takeN_key hl
            rw [ht] at h2
            simp only [Prod.mk.injEq, and_true] at h2
            obtain ⟨rfl, rfl, rfl⟩ := h2
            exact ⟨by simp, by simp, by simp, rfl⟩
          · right
            have hx' : (x == 0) = false := by simpa using hx
            by_cases h1 : c = k
            · right
              by_cases h2 : d = a.data.toList
              · right
                refine ⟨by simpa using h1, by simpa using h2, ?_, hx'⟩
                by_cases h3 : g = b.data.toList
                · exfalso
                  subst h1 h2 h3
                  rw [hl] at hk
                  have e := (congrArg Prod.fst hk).symm
                  simp only at e
                  have : (l.set i (l.getD i 0 ^^^ x)).getD i 0 = l.getD i 0 := by rw [e]
                  rw [List.getD, List.getElem?_set_self (by omega)] at this
                  exact hx (xor_self _ _ this)
                · simpa using h3
              · exact .inl ⟨by simpa using h1, by simpa using h2, hx'⟩
            · exact .inl ⟨by simpa using h1, hx'⟩
      · refine namesSpoilt_walk k a b n x w (by omega) (by omega) l hl i (by omega) hp 0 ⟨#[]⟩ ⟨#[]⟩ 3 ht _ _ _ _ _ rfl rfl rfl hz1 hz2 rfl (.inl ⟨rfl, ?_⟩)
        by_cases hx : x = 0
        · exfalso
          subst hx
          rw [UInt8.xor_zero, set_self] at hno
          exact hno _ _ _ hl
        · simpa using hx
    · exact namesSpoilt_bad k a b n x w (by omega) (by omega) c hc (by simpa using hne) (by simpa using hne)

end Go.Proofs.YtoomcbmaahhldaaDoor
