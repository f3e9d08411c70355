/- The walks of layer 3 (names), part 4: the document's Less; the texts in front of noughts. -/
import Derived.Test.YtoomcbmaahhldaaDoorNmR
namespace Go.Proofs.YtoomcbmaahhldaaDoor
open Go.RowKit
set_option linter.unusedSimpArgs false
set_option linter.unusedVariables false

/-- Does one list of bytes stand ahead of another one? -/
def lessB : List UInt8 → List UInt8 → Bool
  | [], [] => false
  | [], _ :: _ => true
  | _ :: _, [] => false
  | a :: r, b :: q => if a = b then lessB r q else decide (a.toNat < b.toNat)

theorem lessB_compare : ∀ a b : List UInt8, decide (Lib.compareBytes a b < 0) = lessB a b
  | [], [] => by simp [Lib.compareBytes, lessB]
  | [], _ :: _ => by simp [Lib.compareBytes, lessB]
  | _ :: _, [] => by simp [Lib.compareBytes, lessB]
  | a :: r, b :: q => by
    by_cases h : a = b
    · subst h
      have := lessB_compare r q
      simp [Lib.compareBytes, lessB, this]
    · have hne : a.toNat ≠ b.toNat := fun e => h (UInt8.toNat_inj.1 e)
      by_cases h1 : a < b
      · have : a.toNat < b.toNat := UInt8.lt_iff_toNat_lt.1 h1
        simp [Lib.compareBytes, lessB, h, h1, this]
      · have h2 : b < a := UInt8.lt_iff_toNat_lt.2 (by have := mt UInt8.lt_iff_toNat_lt.2 h1; omega)
        have : ¬ a.toNat < b.toNat := fun e => h1 (UInt8.lt_iff_toNat_lt.2 e)
        simp [Lib.compareBytes, lessB, h, h1, h2, this]

theorem lessB_drop (a b : List UInt8) (k : Nat) (ha : k < a.length) (hb : k < b.length) :
    lessB (a.drop k) (b.drop k) = if a[k] = b[k] then lessB (a.drop (k + 1)) (b.drop (k + 1)) else decide (a[k].toNat < b[k].toNat) := by
  rw [List.drop_eq_getElem_cons ha, List.drop_eq_getElem_cons hb]; rfl

theorem lessB_end (a b : List UInt8) (k : Nat) (ha : k ≤ a.length) (hb : k ≤ b.length) (h : k = a.length ∨ k = b.length) :
    lessB (a.drop k) (b.drop k) = decide (a.length < b.length) := by
  rcases h with h | h
  · subst h
    rw [List.drop_length]
    rcases Nat.lt_or_ge a.length b.length with h | h
    · rw [List.drop_eq_getElem_cons h]; simp [lessB, h]
    · rw [List.drop_of_length_le h]; simp [lessB]; omega
  · subst h
    rw [List.drop_length]
    rcases Nat.lt_or_ge b.length a.length with h | h
    · rw [List.drop_eq_getElem_cons h]; simp [lessB]; omega
    · rw [List.drop_of_length_le h]; simp [lessB]; omega

/-- names.Less, in plain words. -/
theorem lessN_calls (a b : ByteArray) (w : World) :
    Calls Tryd.prog 14 #[.string a, .string b] w fun e w' => e = .returned (.bool (lessB a.data.toList b.data.toList)) ∧ w' = w := by
  rw [← lessB_compare]; exact less_calls a b w

theorem drewN2 (w : World) (a b : Nat) : (w.drewN a).drewN b = w.drewN (a + b) := by simp [World.drewN, Nat.add_assoc]

set_option maxHeartbeats 1000000 in
theorem refLess_calls (a b : ByteArray) (w : World) (ha : a.size ≤ 9223372036854775807) (hb : b.size ≤ 9223372036854775807) :
    Calls Tryd.prog 15 #[.string a, .string b] w fun e w' => e = .returned (.bool (lessB a.data.toList b.data.toList)) ∧ ∃ n, w' = w.drewN n := by
  go_enter Tryd.func15, Tryd.ntmps15
  go_wp2_with fail
  go_loopw [5] (fun i wr => ∃ k n : Nat, k ≤ a.size ∧ k ≤ b.size ∧ i = .int .i64 k ∧ wr = w.drewN n ∧ lessB a.data.toList b.data.toList = lessB (a.data.toList.drop k) (b.data.toList.drop k)) (fun i _ => a.size - (intOf i).toNat)
  case atStart => exact ⟨0, 0, Nat.zero_le _, Nat.zero_le _, rfl, rfl, rfl⟩
  case round =>
    obtain ⟨k, n, hka, hkb, rfl, rfl, hl⟩ := hrel
    have HL := Lib.hid hl; clear hl
    by_cases hlt : k < a.size ∧ k < b.size
    · obtain ⟨h1, h2⟩ := hlt
      have hd := lessB_drop a.data.toList b.data.toList k (by simpa using h1) (by simpa using h2)
      have e1 : a.data.toList[k]'(by simpa using h1) = a[k] := rfl
      have e2 : b.data.toList[k]'(by simpa using h2) = b[k] := rfl
      rw [e1, e2] at hd
      have HD := Lib.hid (HL.out.trans hd); clear hd e1 e2 HL
      by_cases he : a[k] = b[k]
      · rw [if_pos he] at HD
        have hq : ((a[k].toNat : Int) == (b[k].toNat : Int)) = true := by rw [he]; simp
        clear he
        go_wp2
        go_quiet (fail)
        go_wp2
        go_roundw
        case rel => exact ⟨k + 1, _, by omega, by omega, by go_num, rfl, HD.out⟩
        case measure => simp [intOf]; omega
      · rw [if_neg he] at HD
        have hq : ((a[k].toNat : Int) == (b[k].toNat : Int)) = false := by
          rw [beq_eq_false_iff_ne]; intro e; exact he (UInt8.toNat_inj.1 (by omega))
        clear he
        go_wp2
        go_quiet (fail)
        go_wp2
        go_quiet (fail)
        go_wp2
        go_ret
        refine ⟨by rw [HD.out]; simp, ?_⟩
        rw [drewN2, drewN2]
        exact ⟨_, rfl⟩
    · have HN := Lib.hid (lessB_end a.data.toList b.data.toList k (by simpa using hka) (by simpa using hkb) (by simp; omega)); 
      by_cases h1 : k < a.size
      · have h2 : ¬ k < b.size := fun h => hlt ⟨h1, h⟩
        go_wp2
        go_ret
        exact ⟨by rw [HL.out, HN.out]; simp, _, rfl⟩
      · go_wp2
        go_ret
        exact ⟨by rw [HL.out, HN.out]; simp, _, rfl⟩

set_option maxHeartbeats 1000000 in
/-- The document's Key fills its row by two loops. -/
theorem refKey_zero (a b : ByteArray) (w : World) :
    Calls Tryd.prog 11 #[.int .u8 0, .string a, .string b] w fun e w' => e = .returned (.tuple #[arrV noKey, .int .i64 1]) ∧ Below w.heap.size w w' := by
  have H := St.nil NoBlk NoBlk w
  go_enter Tryd.func11, Tryd.ntmps11
  go_wp2_with (first | (refine wpList_alloc_st H rfl 23 rfl _ zero_arr ?_; clear H; intro W g H; (try simp only [cells_arrV, List.nil_append, List.cons_append, List.set_cons_zero, List.set_cons_succ] at H)) | (refine wpList_loadrow_st rfl 23 _ rfl _ rfl _ _ _ (H.at 1 rfl) _ Tryd.underlying23 rfl size_arr ?_) | (refine wpList_storerow_st H 0 rfl 23 _ _ rfl _ _ rfl rfl _ _ rfl size_arr rfl (byteV_all _) ?_; clear H; intro W H; (try simp only [cells_arrV, List.nil_append, List.cons_append, List.set_cons_zero, List.set_cons_succ] at H)))
  exact bodyPost_ret (v := .tuple #[arrV noKey, .int .i64 1]) (res_key rfl rfl (H.at 0 rfl) rfl rfl) rfl ⟨rfl, H.fix.below⟩

theorem refName_is (s : ByteArray) (w : World) (v : Bool) (h : mayB s.data.toList = v) :
    Calls Tryd.prog 13 #[.string s] w fun e w' => e = .returned (.bool v) ∧ w = w' := by
  subst h; exact (refName_calls s w).mono fun _ _ ⟨h1, h2⟩ => ⟨h1, h2.symm⟩

theorem refKey_nameA (k : UInt8) (a b : ByteArray) (w : World) (hk : ((k.toNat : Int) == 0) = false) (ha : mayB a.data.toList = false) :
    Calls Tryd.prog 11 #[.int .u8 k.toNat, .string a, .string b] w fun e w' => e = .returned (.tuple #[arrV noKey, .int .i64 14]) ∧ Below w.heap.size w w' := by
  have H := St.nil NoBlk NoBlk w
  have HA := Lib.hid ha; clear ha
  go_enter Tryd.func11, Tryd.ntmps11
  go_wp2_with (first | (refine wpList_alloc_st H rfl 23 rfl _ zero_arr ?_; clear H; intro W g H; (try simp only [cells_arrV, List.nil_append, List.cons_append, List.set_cons_zero, List.set_cons_succ] at H)) | (refine wpList_loadrow_st rfl 23 _ rfl _ rfl _ _ _ (H.at 1 rfl) _ Tryd.underlying23 rfl size_arr ?_) | (refine wpList_storerow_st H 0 rfl 23 _ _ rfl _ _ rfl rfl _ _ rfl size_arr rfl (byteV_all _) ?_; clear H; intro W H; (try simp only [cells_arrV, List.nil_append, List.cons_append, List.set_cons_zero, List.set_cons_succ] at H)) | (go_at_call 13; (with_reducible refine (refName_is _ _ _ HA.out).mono ?_); rintro e W' ⟨rfl, rfl⟩))
  exact bodyPost_ret (v := .tuple #[arrV noKey, .int .i64 14]) (res_key rfl rfl (H.at 0 rfl) rfl rfl) rfl ⟨rfl, H.fix.below⟩

theorem refKey_nameB (k : UInt8) (a b : ByteArray) (w : World) (hk : ((k.toNat : Int) == 0) = false) (hb1 : b.toList = []  → False) (hb2 : (!b.toList.isEmpty) = true) (ha : mayB a.data.toList = true) (hb : mayB b.data.toList = false) :
    Calls Tryd.prog 11 #[.int .u8 k.toNat, .string a, .string b] w fun e w' => e = .returned (.tuple #[arrV noKey, .int .i64 14]) ∧ Below w.heap.size w w' := by
  have H := St.nil NoBlk NoBlk w
  have HA := Lib.hid ha; clear ha
  have HB := Lib.hid hb; clear hb
  go_enter Tryd.func11, Tryd.ntmps11
  go_wp2_with (first | (refine wpList_alloc_st H rfl 23 rfl _ zero_arr ?_; clear H; intro W g H; (try simp only [cells_arrV, List.nil_append, List.cons_append, List.set_cons_zero, List.set_cons_succ] at H)) | (refine wpList_loadrow_st rfl 23 _ rfl _ rfl _ _ _ (H.at 1 rfl) _ Tryd.underlying23 rfl size_arr ?_) | (refine wpList_storerow_st H 0 rfl 23 _ _ rfl _ _ rfl rfl _ _ rfl size_arr rfl (byteV_all _) ?_; clear H; intro W H; (try simp only [cells_arrV, List.nil_append, List.cons_append, List.set_cons_zero, List.set_cons_succ] at H)) | (go_at_call 13; (with_reducible refine (refName_is _ _ _ HA.out).mono ?_); rintro e W' ⟨rfl, rfl⟩) | (go_at_call 13; (with_reducible refine (refName_is _ _ _ HB.out).mono ?_); rintro e W' ⟨rfl, rfl⟩))
  exact bodyPost_ret (v := .tuple #[arrV noKey, .int .i64 14]) (res_key rfl rfl (H.at 0 rfl) rfl rfl) rfl ⟨rfl, H.fix.below⟩

/-- Bytes laid at a place. -/
def layB (l : List UInt8) (at_ : Nat) (s : List UInt8) : List UInt8 := l.take at_ ++ s ++ l.drop (at_ + s.length)
theorem layB_length (l : List UInt8) (n : Nat) (s : List UInt8) (h : n + s.length ≤ l.length) : (layB l n s).length = l.length := by
  simp [layB]; omega
theorem layB_succ (l : List UInt8) (n : Nat) (s : List UInt8) (k : Nat) (hk : k < s.length) (h : n + s.length ≤ l.length) :
    (layB l n (s.take k)).set (n + k) s[k] = layB l n (s.take (k + 1)) := by
  unfold layB
  have e : s.take (k + 1) = s.take k ++ [s[k]] := by rw [List.take_succ_eq_append_getElem hk]
  have hl : (s.take k).length = k := by simp; omega
  have hl1 : (s.take (k + 1)).length = k + 1 := by simp; omega
  rw [hl, hl1, e, List.set_append, if_neg (by simp; omega)]
  have : n + k - (l.take n ++ s.take k).length = 0 := by simp; omega
  rw [this, List.drop_eq_getElem_cons (show n + k < l.length by omega)]
  simp only [List.set_cons_zero, List.append_assoc, List.cons_append, List.nil_append, Nat.add_assoc]

theorem keyB_lay (k : UInt8) (a b : List UInt8) (ha : a.length ≤ 15) (hb : b.length ≤ 15) : layB (layB (noKey.set 0 k) 2 a) 17 b = keyB k a b := key_fill k a b ha hb

theorem data_get (s : ByteArray) (k : Nat) (h : k < s.size) : s.data.toList[k]'(by simpa using h) = s[k] := rfl

set_option maxHeartbeats 1000000 in
theorem refKey_okB (k : UInt8) (a b : ByteArray) (w : World) (hk : ((k.toNat : Int) == 0) = false) (hb2 : (!b.toList.isEmpty) = true) (ha : mayB a.data.toList = true) (hb : mayB b.data.toList = true) (hza : a.size ≤ 14) (hzb : b.size ≤ 14) :
    Calls Tryd.prog 11 #[.int .u8 k.toNat, .string a, .string b] w fun e w' => e = .returned (.tuple #[arrV (keyB k a.data.toList b.data.toList), .int .i64 0]) ∧ Below w.heap.size w w' := by
  have H := St.nil NoBlk NoBlk w
  have HA := Lib.hid ha; clear ha
  have HB := Lib.hid hb; clear hb
  have tok1 : True := trivial
  have tok2 : True := trivial
  go_enter Tryd.func11, Tryd.ntmps11
  go_wp2_with (first | (have _t := tok1; clear _t; refine wpList_alloc_st H rfl 23 rfl _ zero_arr ?_; clear H tok1; intro W g0 H; (try simp only [cells_arrV, List.nil_append, List.cons_append, List.set_cons_zero, List.set_cons_succ] at H)) | (have _t := tok2; clear _t; refine wpList_alloc_st H rfl 23 rfl _ zero_arr ?_; clear H tok2; intro W g1 H; (try simp only [cells_arrV, List.nil_append, List.cons_append, List.set_cons_zero, List.set_cons_succ] at H)) | (go_at_call 13; (with_reducible refine (refName_is _ _ _ HA.out).mono ?_); rintro e W' ⟨rfl, rfl⟩) | (go_at_call 13; (with_reducible refine (refName_is _ _ _ HB.out).mono ?_); rintro e W' ⟨rfl, rfl⟩) | (refine wpList_store1_st H 1 rfl 5 _ _ rfl _ _ (.int .u8 ((UInt8.toNat _ : Nat) : Int)) rfl rfl rfl _ _ rfl size_u8 (by simp) ?_; clear H; intro W H; (try simp only [cells_arrV, List.nil_append, List.cons_append, List.set_cons_zero, List.set_cons_succ] at H); simp only [byteV_set] at H))
  go_loopw [9] (fun i wr => ∃ j : Nat, j ≤ a.size ∧ i = .int .i64 j ∧ St NoBlk NoBlk w wr [blk g0 (.cells (byteV noKey).toArray 23), blk g1 (.cells (byteV (layB (noKey.set 0 k) 2 (a.data.toList.take j))).toArray 23)]) (fun i _ => a.size - (intOf i).toNat)
  case atStart => exact ⟨0, Nat.zero_le _, rfl, by simpa [layB] using H⟩
  case round =>
    clear H
    obtain ⟨j, hj, rfl, H⟩ := hrel
    by_cases hlt : j < a.size
    · have hl := layB_length (noKey.set 0 k) 2 (a.data.toList.take j) (by simp [noKey]; omega)
      have hs := layB_succ (noKey.set 0 k) 2 a.data.toList j (by simpa using hlt) (by simp [noKey]; omega)
      rw [data_get a j hlt] at hs
      have HS := Lib.hid hs; clear hs
      have hl' : 2 + j < (byteV (layB (noKey.set 0 k) 2 (a.data.toList.take j))).toArray.size := by simp [hl]; omega
      have HL := Lib.hid hl'; clear hl' hl
      go_wp2_with (refine wpList_store1_st H 1 rfl 5 _ _ rfl _ _ (.int .u8 ((UInt8.toNat _ : Nat) : Int)) rfl rfl rfl _ _ rfl size_u8 HL.out ?_; clear H; intro W H; (try simp only [cells_arrV, List.nil_append, List.cons_append, List.set_cons_zero, List.set_cons_succ] at H); simp only [byteV_set] at H; rw [HS.out] at H)
      go_roundw
      case rel => exact ⟨j + 1, by omega, by go_num, H⟩
      case measure => simp [intOf]; omega
    · obtain rfl : j = a.size := by omega
      have e : a.data.toList.take a.size = a.data.toList := List.take_of_length_le (by simp)
      rw [e] at H
      clear hlt hj e
      go_wp2_with fail
      go_loopw [10] (fun i wr => ∃ j : Nat, j ≤ b.size ∧ i = .int .i64 j ∧ St NoBlk NoBlk w wr [blk g0 (.cells (byteV noKey).toArray 23), blk g1 (.cells (byteV (layB (layB (noKey.set 0 k) 2 a.data.toList) 17 (b.data.toList.take j))).toArray 23)]) (fun i _ => b.size - (intOf i).toNat)
      case atStart => exact ⟨0, Nat.zero_le _, rfl, by simpa [layB] using H⟩
      case round =>
        clear H
        obtain ⟨j, hj, rfl, H⟩ := hrel
        have hl0 := layB_length (noKey.set 0 k) 2 a.data.toList (by simp [noKey]; omega)
        have hl00 : (noKey.set 0 k).length = 32 := by simp
        by_cases hlt : j < b.size
        · have hl := layB_length (layB (noKey.set 0 k) 2 a.data.toList) 17 (b.data.toList.take j) (by rw [hl0, hl00]; simp; omega)
          have hs := layB_succ (layB (noKey.set 0 k) 2 a.data.toList) 17 b.data.toList j (by simpa using hlt) (by rw [hl0, hl00]; simp; omega)
          rw [data_get b j hlt] at hs
          have HS := Lib.hid hs; clear hs
          have hl' : 17 + j < (byteV (layB (layB (noKey.set 0 k) 2 a.data.toList) 17 (b.data.toList.take j))).toArray.size := by simp [hl, hl0]; omega
          have HL := Lib.hid hl'; clear hl' hl hl0 hl00
          go_wp2_with (refine wpList_store1_st H 1 rfl 5 _ _ rfl _ _ (.int .u8 ((UInt8.toNat _ : Nat) : Int)) rfl rfl rfl _ _ rfl size_u8 HL.out ?_; clear H; intro W H; (try simp only [cells_arrV, List.nil_append, List.cons_append, List.set_cons_zero, List.set_cons_succ] at H); simp only [byteV_set] at H; rw [HS.out] at H)
          go_roundw
          case rel => exact ⟨j + 1, by omega, by go_num, H⟩
          case measure => simp [intOf]; omega
        · obtain rfl : j = b.size := by omega
          have e : b.data.toList.take b.size = b.data.toList := List.take_of_length_le (by simp)
          rw [e, keyB_lay _ _ _ (by simp; omega) (by simp; omega)] at H
          have HS := Lib.hid (keyB_size k a.data.toList b.data.toList (by simp; omega) (by simp; omega))
          clear hlt hj e hl0 hl00
          go_wp2_with (first | (refine wpList_loadrow_st rfl 23 _ rfl _ rfl _ _ _ (H.at 1 rfl) _ Tryd.underlying23 rfl (size_arr.trans (congrArg some HS.out)) ?_) | (refine wpList_storerow_st H 0 rfl 23 _ _ rfl _ _ rfl rfl _ _ rfl (size_arr.trans (congrArg some HS.out)) HS.out (byteV_all _) ?_; clear H; intro W H; (try simp only [cells_arrV, List.nil_append, List.cons_append, List.set_cons_zero, List.set_cons_succ] at H)))
          exact bodyPost_ret (v := .tuple #[arrV (keyB k a.data.toList b.data.toList), .int .i64 0]) (res_key rfl rfl (H.at 0 rfl) HS.out.symm rfl) rfl ⟨rfl, H.fix.below⟩

set_option maxHeartbeats 1000000 in
theorem refKey_okE (k : UInt8) (a b : ByteArray) (w : World) (hk : ((k.toNat : Int) == 0) = false) (hb2 : (!b.toList.isEmpty) = false) (ha : mayB a.data.toList = true) (hza : a.size ≤ 14) (hzb : b.size ≤ 14) :
    Calls Tryd.prog 11 #[.int .u8 k.toNat, .string a, .string b] w fun e w' => e = .returned (.tuple #[arrV (keyB k a.data.toList b.data.toList), .int .i64 0]) ∧ Below w.heap.size w w' := by
  have H := St.nil NoBlk NoBlk w
  have HA := Lib.hid ha; clear ha
  have tok1 : True := trivial
  have tok2 : True := trivial
  go_enter Tryd.func11, Tryd.ntmps11
  go_wp2_with (first | (have _t := tok1; clear _t; refine wpList_alloc_st H rfl 23 rfl _ zero_arr ?_; clear H tok1; intro W g0 H; (try simp only [cells_arrV, List.nil_append, List.cons_append, List.set_cons_zero, List.set_cons_succ] at H)) | (have _t := tok2; clear _t; refine wpList_alloc_st H rfl 23 rfl _ zero_arr ?_; clear H tok2; intro W g1 H; (try simp only [cells_arrV, List.nil_append, List.cons_append, List.set_cons_zero, List.set_cons_succ] at H)) | (go_at_call 13; (with_reducible refine (refName_is _ _ _ HA.out).mono ?_); rintro e W' ⟨rfl, rfl⟩) | (refine wpList_store1_st H 1 rfl 5 _ _ rfl _ _ (.int .u8 ((UInt8.toNat _ : Nat) : Int)) rfl rfl rfl _ _ rfl size_u8 (by simp) ?_; clear H; intro W H; (try simp only [cells_arrV, List.nil_append, List.cons_append, List.set_cons_zero, List.set_cons_succ] at H); simp only [byteV_set] at H))
  go_loopw [9] (fun i wr => ∃ j : Nat, j ≤ a.size ∧ i = .int .i64 j ∧ St NoBlk NoBlk w wr [blk g0 (.cells (byteV noKey).toArray 23), blk g1 (.cells (byteV (layB (noKey.set 0 k) 2 (a.data.toList.take j))).toArray 23)]) (fun i _ => a.size - (intOf i).toNat)
  case atStart => exact ⟨0, Nat.zero_le _, rfl, by simpa [layB] using H⟩
  case round =>
    clear H
    obtain ⟨j, hj, rfl, H⟩ := hrel
    by_cases hlt : j < a.size
    · have hl := layB_length (noKey.set 0 k) 2 (a.data.toList.take j) (by simp [noKey]; omega)
      have hs := layB_succ (noKey.set 0 k) 2 a.data.toList j (by simpa using hlt) (by simp [noKey]; omega)
      rw [data_get a j hlt] at hs
      have HS := Lib.hid hs; clear hs
      have hl' : 2 + j < (byteV (layB (noKey.set 0 k) 2 (a.data.toList.take j))).toArray.size := by simp [hl]; omega
      have HL := Lib.hid hl'; clear hl' hl
      go_wp2_with (refine wpList_store1_st H 1 rfl 5 _ _ rfl _ _ (.int .u8 ((UInt8.toNat _ : Nat) : Int)) rfl rfl rfl _ _ rfl size_u8 HL.out ?_; clear H; intro W H; (try simp only [cells_arrV, List.nil_append, List.cons_append, List.set_cons_zero, List.set_cons_succ] at H); simp only [byteV_set] at H; rw [HS.out] at H)
      go_roundw
      case rel => exact ⟨j + 1, by omega, by go_num, H⟩
      case measure => simp [intOf]; omega
    · obtain rfl : j = a.size := by omega
      have e : a.data.toList.take a.size = a.data.toList := List.take_of_length_le (by simp)
      rw [e] at H
      clear hlt hj e
      go_wp2_with fail
      go_loopw [10] (fun i wr => ∃ j : Nat, j ≤ b.size ∧ i = .int .i64 j ∧ St NoBlk NoBlk w wr [blk g0 (.cells (byteV noKey).toArray 23), blk g1 (.cells (byteV (layB (layB (noKey.set 0 k) 2 a.data.toList) 17 (b.data.toList.take j))).toArray 23)]) (fun i _ => b.size - (intOf i).toNat)
      case atStart => exact ⟨0, Nat.zero_le _, rfl, by simpa [layB] using H⟩
      case round =>
        clear H
        obtain ⟨j, hj, rfl, H⟩ := hrel
        have hl0 := layB_length (noKey.set 0 k) 2 a.data.toList (by simp [noKey]; omega)
        have hl00 : (noKey.set 0 k).length = 32 := by simp
        by_cases hlt : j < b.size
        · have hl := layB_length (layB (noKey.set 0 k) 2 a.data.toList) 17 (b.data.toList.take j) (by rw [hl0, hl00]; simp; omega)
          have hs := layB_succ (layB (noKey.set 0 k) 2 a.data.toList) 17 b.data.toList j (by simpa using hlt) (by rw [hl0, hl00]; simp; omega)
          rw [data_get b j hlt] at hs
          have HS := Lib.hid hs; clear hs
          have hl' : 17 + j < (byteV (layB (layB (noKey.set 0 k) 2 a.data.toList) 17 (b.data.toList.take j))).toArray.size := by simp [hl, hl0]; omega
          have HL := Lib.hid hl'; clear hl' hl hl0 hl00
          go_wp2_with (refine wpList_store1_st H 1 rfl 5 _ _ rfl _ _ (.int .u8 ((UInt8.toNat _ : Nat) : Int)) rfl rfl rfl _ _ rfl size_u8 HL.out ?_; clear H; intro W H; (try simp only [cells_arrV, List.nil_append, List.cons_append, List.set_cons_zero, List.set_cons_succ] at H); simp only [byteV_set] at H; rw [HS.out] at H)
          go_roundw
          case rel => exact ⟨j + 1, by omega, by go_num, H⟩
          case measure => simp [intOf]; omega
        · obtain rfl : j = b.size := by omega
          have e : b.data.toList.take b.size = b.data.toList := List.take_of_length_le (by simp)
          rw [e, keyB_lay _ _ _ (by simp; omega) (by simp; omega)] at H
          have HS := Lib.hid (keyB_size k a.data.toList b.data.toList (by simp; omega) (by simp; omega))
          clear hlt hj e hl0 hl00
          go_wp2_with (first | (refine wpList_loadrow_st rfl 23 _ rfl _ rfl _ _ _ (H.at 1 rfl) _ Tryd.underlying23 rfl (size_arr.trans (congrArg some HS.out)) ?_) | (refine wpList_storerow_st H 0 rfl 23 _ _ rfl _ _ rfl rfl _ _ rfl (size_arr.trans (congrArg some HS.out)) HS.out (byteV_all _) ?_; clear H; intro W H; (try simp only [cells_arrV, List.nil_append, List.cons_append, List.set_cons_zero, List.set_cons_succ] at H)))
          exact bodyPost_ret (v := .tuple #[arrV (keyB k a.data.toList b.data.toList), .int .i64 0]) (res_key rfl rfl (H.at 0 rfl) HS.out.symm rfl) rfl ⟨rfl, H.fix.below⟩

theorem refKey_calls (k : UInt8) (a b : ByteArray) (w : World) :
    Calls Tryd.prog 11 #[.int .u8 k.toNat, .string a, .string b] w fun e w' =>
      e = .returned (.tuple #[arrV (keyS k a.data.toList b.data.toList).1, .int .i64 (keyS k a.data.toList b.data.toList).2]) ∧ Below w.heap.size w w' := by
  unfold keyS
  by_cases hk : k = 0
  · subst hk
    rw [if_pos rfl]
    exact refKey_zero a b w
  · rw [if_neg hk]
    have hk' : ((k.toNat : Int) == 0) = false := by
      rw [beq_eq_false_iff_ne]
      intro e
      exact hk (UInt8.toNat_inj.1 (by rw [show k.toNat = 0 by omega]; rfl))
    cases ha : mayB a.data.toList with
    | false => rw [if_pos (.inl rfl)]; exact refKey_nameA k a b w hk' ha
    | true =>
      have hla := (mayB_le ha).1
      have hza : a.size ≤ 14 := by simpa using hla
      by_cases hb : b.data.toList = []
      · rw [if_neg (by rintro (h | h); cases h; exact h.1 hb)]
        refine refKey_okE k a b w hk' ?_ ha hza ?_
        · rw [Go.Lib.toList_data, hb]; rfl
        · have : b.data.toList.length = 0 := by rw [hb]; rfl
          have h2 : b.data.toList.length = b.size := by simp
          omega
      · have hb2 : (!b.toList.isEmpty) = true := by rw [Go.Lib.toList_data]; simpa using hb
        cases hmb : mayB b.data.toList with
        | false =>
          rw [if_pos (.inr ⟨hb, rfl⟩)]
          exact refKey_nameB k a b w hk' (fun e => hb (by rw [← Go.Lib.toList_data]; exact e)) hb2 ha hmb
        | true =>
          rw [if_neg (by rintro (h | h); cases h; cases h.2)]
          have hzb : b.size ≤ 14 := by simpa using (mayB_le hmb).1
          exact refKey_okB k a b w hk' hb2 ha hmb hza hzb

end Go.Proofs.YtoomcbmaahhldaaDoor
