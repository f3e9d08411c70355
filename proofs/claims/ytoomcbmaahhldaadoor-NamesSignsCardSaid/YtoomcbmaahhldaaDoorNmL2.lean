/- The walks of the laws of layer 3 (names): NamesKeys, NamesLine, NamesSigns. -/
import Derived.Test.YtoomcbmaahhldaaDoorNmL1
import Derived.Test.YtoomcbmaahhldaaDoorNmP
namespace Go.Proofs.YtoomcbmaahhldaaDoor
open Go.RowKit
set_option linter.unusedSimpArgs false
set_option linter.unusedVariables false

theorem takeKeyA_is (l : List UInt8) (hl : l.length = 32) (k : UInt8) (a b : List UInt8) (c : Int) (hr : takeN l = (k, a, b, c)) (w : World) :
    Calls Tryd.prog 16 #[arrV l] w fun e w' => e = .returned (.tuple #[.int .u8 k.toNat, .string ⟨a.toArray⟩, .string ⟨b.toArray⟩, .int .i64 c]) ∧ Below w.heap.size w w' := by
  have := take_is l hl _ hr w; exact this
theorem refTakeKeyA_is (l : List UInt8) (hl : l.length = 32) (k : UInt8) (a b : List UInt8) (c : Int) (hr : takeN l = (k, a, b, c)) (w : World) :
    Calls Tryd.prog 17 #[arrV l] w fun e w' => e = .returned (.tuple #[.int .u8 k.toNat, .string ⟨a.toArray⟩, .string ⟨b.toArray⟩, .int .i64 c]) ∧ Below w.heap.size w w' := by
  have := refTakeKey_calls l hl w
  rw [← take_same, hr] at this
  exact this
theorem keyT_is (k : UInt8) (a b : List UInt8) (l : List UInt8) (c : Int) (hx : keyS k a b = (l, c)) (w : World) :
    Calls Tryd.prog 10 #[.int .u8 k.toNat, .string ⟨a.toArray⟩, .string ⟨b.toArray⟩] w fun e w' => e = .returned (.tuple #[arrV l, .int .i64 c]) ∧ Below w.heap.size w w' :=
  key_is k a b _ hx w

set_option maxHeartbeats 1000000 in
theorem namesKeys_calls (l : List UInt8) (hl : l.length = 32) (w : World) :
    Calls Tryd.prog 4 #[arrV l] w fun e w' => e = .returned (.bool true) ∧ Below w.heap.size w w' := by
  have H := St.nil NoBlk NoBlk w
  rcases takeN_cases l with ⟨k, a, b, hk, ht⟩ | ⟨_, ht⟩
  · have HT := Lib.hid (takeKeyA_is l hl _ _ _ _ ht)
    have HR := Lib.hid (refTakeKeyA_is l hl _ _ _ _ ht)
    have HK := Lib.hid (keyT_is k a b l 0 hk)
    have HL := Lib.hid hl
    clear ht hk hl
    go_enter Tryd.func4, Tryd.ntmps4
    go_wp2_with (first | (refine wpList_box_st H rfl 23 _ rfl (arrV _) rfl ?_; clear H; intro W g H; (try simp only [cells_arrV, List.nil_append, List.cons_append, List.set_cons_zero, List.set_cons_succ] at H)) | (go_at_call 9; (with_reducible refine (begun_calls _).mono ?_); rintro e W ⟨rfl, hb⟩; replace H := H.stay (Fix.of_below hb _); clear hb) | (go_at_call 16; (with_reducible refine (HT.out _).mono ?_); rintro e W ⟨rfl, hb⟩; replace H := H.stay (Fix.of_below hb _); clear hb) | (go_at_call 17; (with_reducible refine (HR.out _).mono ?_); rintro e W ⟨rfl, hb⟩; replace H := H.stay (Fix.of_below hb _); clear hb) | (go_at_call 10; (with_reducible refine (HK.out _).mono ?_); rintro e W ⟨rfl, hb⟩; replace H := H.stay (Fix.of_below hb _); clear hb) | (refine wpList_alloc_st H rfl 23 rfl _ zero_arr ?_; clear H; intro W g H; (try simp only [cells_arrV, List.nil_append, List.cons_append, List.set_cons_zero, List.set_cons_succ] at H)) | (refine wpList_storearr_st H 1 rfl 23 _ _ rfl _ _ rfl rfl _ _ rfl _ size_arr noKey_length HL.out ?_; clear H; intro W H; (try simp only [cells_arrV, List.nil_append, List.cons_append, List.set_cons_zero, List.set_cons_succ] at H)) | (refine wpList_loadarr_st rfl 23 _ rfl _ rfl _ _ _ (H.at 0 rfl) _ Tryd.underlying23 rfl _ size_arr HL.out ?_) | (refine wpList_loadarr_st rfl 23 _ rfl _ rfl _ _ _ (H.at 1 rfl) _ Tryd.underlying23 rfl _ size_arr HL.out ?_) | ((refine wpList_eqarr rfl 23 23 _ _ rfl _ _ rfl rfl 5 _ Tryd.underlying23 Tryd.underlying5 size_u8 guard_arr HL.out HL.out ?_); rw [beq_list_self]))
    go_ret
    exact ⟨rfl, H.fix.below⟩
  · have hT : ∀ w, Calls Tryd.prog 16 #[arrV l] w fun e w' => e = .returned (.tuple #[.int .u8 0, .string ⟨#[]⟩, .string ⟨#[]⟩, .int .i64 3]) ∧ Below w.heap.size w w' := takeKeyA_is l hl _ _ _ _ ht
    have hR : ∀ w, Calls Tryd.prog 17 #[arrV l] w fun e w' => e = .returned (.tuple #[.int .u8 0, .string ⟨#[]⟩, .string ⟨#[]⟩, .int .i64 3]) ∧ Below w.heap.size w w' := refTakeKeyA_is l hl _ _ _ _ ht
    have HT := Lib.hid hT
    have HR := Lib.hid hR
    have HL := Lib.hid hl
    clear ht hl hT hR
    go_enter Tryd.func4, Tryd.ntmps4
    go_wp2_with (first | (refine wpList_box_st H rfl 23 _ rfl (arrV _) rfl ?_; clear H; intro W g H; (try simp only [cells_arrV, List.nil_append, List.cons_append, List.set_cons_zero, List.set_cons_succ] at H)) | (go_at_call 9; (with_reducible refine (begun_calls _).mono ?_); rintro e W ⟨rfl, hb⟩; replace H := H.stay (Fix.of_below hb _); clear hb) | (go_at_call 16; (with_reducible refine (HT.out _).mono ?_); rintro e W ⟨rfl, hb⟩; replace H := H.stay (Fix.of_below hb _); clear hb) | (go_at_call 17; (with_reducible refine (HR.out _).mono ?_); rintro e W ⟨rfl, hb⟩; replace H := H.stay (Fix.of_below hb _); clear hb) | (refine wpList_loadarr_st rfl 23 _ rfl _ rfl _ _ _ (H.at 0 rfl) _ Tryd.underlying23 rfl _ size_arr HL.out ?_))
    go_ret
    exact ⟨rfl, H.fix.below⟩

theorem dataApp (a b : ByteArray) : (a ++ b).data.toList = a.data.toList ++ b.data.toList := by simp

set_option maxHeartbeats 1000000 in
theorem namesLine_short (a b c : ByteArray) (ha : (a.size : Int) ≤ 40) (hb : (b.size : Int) ≤ 40) (hc : (c.size : Int) ≤ 40) (w : World) (p q r s : Bool)
    (h1 : lessB a.data.toList b.data.toList = p) (h2 : lessB b.data.toList a.data.toList = q) (h3 : lessB b.data.toList c.data.toList = r) (h4 : lessB a.data.toList c.data.toList = s)
    (he : (a.toList == b.toList) = (!p && !q)) (hcase : (p = true ∧ q = false ∧ r = true ∧ s = true) ∨ (p = true ∧ q = false ∧ r = false) ∨ (p = false ∧ q = true) ∨ (p = false ∧ q = false)) :
    Calls Tryd.prog 6 #[.string a, .string b, .string c] w fun e w' => e = .returned (.bool true) ∧ Below w.heap.size w w' := by
  have H := St.nil NoBlk NoBlk w
  have hx := lessA_is (a ++ ⟨#[120]⟩) a false (by rw [dataApp]; exact lessB_snoc _ _)
  have HX := Lib.hid hx
  have H1 := Lib.hid (lessA_is a b p h1)
  have H2 := Lib.hid (lessA_is b a q h2)
  have H3 := Lib.hid (lessA_is b c r h3)
  have H4 := Lib.hid (lessA_is a c s h4)
  clear h1 h2 h3 h4 hx
  rcases hcase with ⟨rfl, rfl, rfl, rfl⟩ | ⟨rfl, rfl, rfl⟩ | ⟨rfl, rfl⟩ | ⟨rfl, rfl⟩
  all_goals
    simp only [Bool.not_true, Bool.not_false, Bool.and_true, Bool.and_false] at he
    go_enter Tryd.func6, Tryd.ntmps6
    go_wp2_with (first | (go_at_call 9; (with_reducible refine (begun_calls _).mono ?_); rintro e W ⟨rfl, hb⟩; replace H := H.stay (Fix.of_below hb _); clear hb) | (go_at_call 14; (with_reducible refine (H1.out _).mono ?_); rintro e W' ⟨rfl, rfl⟩) | (go_at_call 14; (with_reducible refine (H2.out _).mono ?_); rintro e W' ⟨rfl, rfl⟩) | (go_at_call 14; (with_reducible refine (H3.out _).mono ?_); rintro e W' ⟨rfl, rfl⟩) | (go_at_call 14; (with_reducible refine (H4.out _).mono ?_); rintro e W' ⟨rfl, rfl⟩) | (go_at_call 14; (with_reducible refine (HX.out _).mono ?_); rintro e W' ⟨rfl, rfl⟩))
    go_ret
    exact ⟨rfl, H.fix.below⟩

/-- A law that a text is too long for answers at once. -/
theorem namesLine_long (a b c : ByteArray) (h : 40 < (a.size : Int) ∨ ((a.size : Int) ≤ 40 ∧ 40 < (b.size : Int)) ∨ ((a.size : Int) ≤ 40 ∧ (b.size : Int) ≤ 40 ∧ 40 < (c.size : Int))) (w : World) :
    Calls Tryd.prog 6 #[.string a, .string b, .string c] w fun e w' => e = .returned (.bool true) ∧ Below w.heap.size w w' := by
  have H := St.nil NoBlk NoBlk w
  rcases h with h1 | ⟨h1, h2⟩ | ⟨h1, h2, h3⟩
  all_goals
    go_enter Tryd.func6, Tryd.ntmps6
    go_wp2_with (first | (go_at_call 9; (with_reducible refine (begun_calls _).mono ?_); rintro e W ⟨rfl, hb⟩; replace H := H.stay (Fix.of_below hb _); clear hb))
    go_ret
    exact ⟨rfl, H.fix.below⟩

theorem toList_beq (a b : ByteArray) : (a.toList == b.toList) = (a.data.toList == b.data.toList) := by
  rw [Go.Lib.toList_data, Go.Lib.toList_data]

theorem namesLine_calls (a b c : ByteArray) (w : World) :
    Calls Tryd.prog 6 #[.string a, .string b, .string c] w fun e w' => e = .returned (.bool true) ∧ Below w.heap.size w w' := by
  by_cases h : 40 < (a.size : Int) ∨ ((a.size : Int) ≤ 40 ∧ 40 < (b.size : Int)) ∨ ((a.size : Int) ≤ 40 ∧ (b.size : Int) ≤ 40 ∧ 40 < (c.size : Int))
  · exact namesLine_long a b c h w
  · refine namesLine_short a b c (by omega) (by omega) (by omega) w _ _ _ _ rfl rfl rfl rfl ?_ ?_
    · rw [toList_beq, Bool.eq_iff_iff]
      simp only [beq_iff_eq, Bool.and_eq_true, Bool.not_eq_true']
      constructor
      · intro e; rw [e]; exact ⟨lessB_irrefl _, lessB_irrefl _⟩
      · intro ⟨h1, h2⟩; exact lessB_total _ _ h1 h2
    · cases h1 : lessB a.data.toList b.data.toList with
      | true =>
        have h2 := lessB_asymm _ _ h1
        cases h3 : lessB b.data.toList c.data.toList with
        | true => exact .inl ⟨rfl, h2, rfl, lessB_trans _ _ _ h1 h3⟩
        | false => exact .inr (.inl ⟨rfl, h2, rfl⟩)
      | false =>
        cases h2 : lessB b.data.toList a.data.toList with
        | true => exact .inr (.inr (.inl ⟨rfl, rfl⟩))
        | false => exact .inr (.inr (.inr ⟨rfl, rfl⟩))

/-- The classes of bytes, as the law's own tests tell them apart. -/
theorem cls2 (c : UInt8) :
    ((97 ≤ (c.toNat : Int) ∧ (c.toNat : Int) ≤ 122) ∧ signB c true = true ∧ signB c false = true) ∨
    ((97 ≤ (c.toNat : Int) ∧ decide ((c.toNat : Int) ≤ 122) = false ∧ 48 ≤ (c.toNat : Int) ∧ decide ((c.toNat : Int) ≤ 57) = false ∧ ((c.toNat : Int) == 45) = false ∧ ((c.toNat : Int) == 46) = false) ∧ signB c true = false ∧ signB c false = false) ∨
    (((c.toNat : Int) < 97 ∧ 48 ≤ (c.toNat : Int) ∧ (c.toNat : Int) ≤ 57) ∧ signB c true = false ∧ signB c false = true) ∨
    (((c.toNat : Int) < 97 ∧ (c.toNat : Int) < 48 ∧ ((c.toNat : Int) == 45) = true) ∧ signB c true = false ∧ signB c false = true) ∨
    (((c.toNat : Int) < 97 ∧ (c.toNat : Int) < 48 ∧ ((c.toNat : Int) == 45) = false ∧ ((c.toNat : Int) == 46) = true) ∧ signB c true = false ∧ signB c false = true) ∨
    (((c.toNat : Int) < 97 ∧ (c.toNat : Int) < 48 ∧ ((c.toNat : Int) == 45) = false ∧ ((c.toNat : Int) == 46) = false) ∧ signB c true = false ∧ signB c false = false) ∨
    (((c.toNat : Int) < 97 ∧ 48 ≤ (c.toNat : Int) ∧ decide ((c.toNat : Int) ≤ 57) = false ∧ ((c.toNat : Int) == 45) = false ∧ ((c.toNat : Int) == 46) = false) ∧ signB c true = false ∧ signB c false = false) := by
  rcases cls c with ⟨h, hs⟩ | ⟨h, hs⟩ | ⟨h, hs⟩ | ⟨h, hs⟩ | ⟨h, hs⟩ | ⟨h, hs⟩ | ⟨h, hs⟩
  · exact .inl ⟨h, hs _, hs _⟩
  · exact .inr (.inl ⟨h, hs _, hs _⟩)
  · exact .inr (.inr (.inl ⟨by omega, hs _, hs _⟩))
  · exact .inr (.inr (.inr (.inl ⟨⟨by omega, h.1, h.2⟩, hs _, hs _⟩)))
  · exact .inr (.inr (.inr (.inr (.inl ⟨⟨by omega, h.1, h.2.1, h.2.2⟩, hs _, hs _⟩))))
  · exact .inr (.inr (.inr (.inr (.inr (.inl ⟨⟨by omega, h.1, h.2.1, h.2.2⟩, hs _, hs _⟩)))))
  · exact .inr (.inr (.inr (.inr (.inr (.inr ⟨⟨h.2.2.1, h.1, h.2.1, h.2.2.2.1, h.2.2.2.2⟩, hs _, hs _⟩)))))

theorem namesSigns_long (a : ByteArray) (x : UInt8) (h : 20 < (a.size : Int) ∨ ((a.size : Int) ≤ 20 ∧ mayB a.data.toList = false)) (w : World) :
    Calls Tryd.prog 8 #[.string a, .int .u8 x.toNat] w fun e w' => e = .returned (.bool true) ∧ Below w.heap.size w w' := by
  have H := St.nil NoBlk NoBlk w
  rcases h with h1 | ⟨h1, h2⟩
  · go_enter Tryd.func8, Tryd.ntmps8
    go_wp2_with (first | (go_at_call 9; (with_reducible refine (begun_calls _).mono ?_); rintro e W ⟨rfl, hb⟩; replace H := H.stay (Fix.of_below hb _); clear hb))
    go_ret
    exact ⟨rfl, H.fix.below⟩
  · have HM := Lib.hid (mayA_is a false h2)
    clear h2
    go_enter Tryd.func8, Tryd.ntmps8
    go_wp2_with (first | (go_at_call 9; (with_reducible refine (begun_calls _).mono ?_); rintro e W ⟨rfl, hb⟩; replace H := H.stay (Fix.of_below hb _); clear hb) | (go_at_call 12; (with_reducible refine (HM.out _).mono ?_); rintro e W ⟨rfl, hb⟩; replace H := H.stay (Fix.of_below hb _); clear hb))
    go_ret
    exact ⟨rfl, H.fix.below⟩

theorem fill1 (x : UInt8) : Instr.fill (fun i => some (i * 1, 1)) ((Array.range (1 * 1)).map ((Value.int .u8 0).cells[· % (Value.int .u8 0).cells.size]!)) [(0, .int .u8 (x.toNat : Int))] = some (byteV [x]).toArray := by kernel_rfl
theorem zero_u8 : (Tryd.prog.info? 5).bind (·.zero) = some (.int .u8 0) := by kernel_rfl

set_option maxHeartbeats 4000000 in
theorem namesSigns_short (a : ByteArray) (x : UInt8) (h1 : (a.size : Int) ≤ 20) (h2 : mayB a.data.toList = true) (w : World) :
    Calls Tryd.prog 8 #[.string a, .int .u8 x.toNat] w fun e w' => e = .returned (.bool true) ∧ Below w.heap.size w w' := by
  have H := St.nil NoBlk NoBlk w
  have HM := Lib.hid (mayA_is a true h2)
  have hla : a.data.toList.length = a.size := by simp
  have m1 := mayB_snoc a.data.toList x h2
  have m2 := mayB_one x
  have m3 := mayB_cons a.data.toList x h2
  clear h2
  rw [hla] at m1 m3
  by_cases hsz : a.size < 14
  all_goals
    simp only [hsz, decide_true, decide_false, Bool.and_true, Bool.and_false] at m1 m3
    rcases cls2 x with ⟨hc, hf, hg⟩ | ⟨hc, hf, hg⟩ | ⟨hc, hf, hg⟩ | ⟨hc, hf, hg⟩ | ⟨hc, hf, hg⟩ | ⟨hc, hf, hg⟩ | ⟨hc, hf, hg⟩
  all_goals
    simp only [hf, hg] at m1 m2 m3
    have H1 := Lib.hid (mayA_is (a ++ ⟨#[x]⟩) _ ((congrArg mayB (dataApp a ⟨#[x]⟩)).trans m1))
    have H2 := Lib.hid (mayA_is ⟨#[x]⟩ _ m2)
    have H3 := Lib.hid (mayA_is (⟨#[x]⟩ ++ a) _ ((congrArg mayB (dataApp ⟨#[x]⟩ a)).trans m3))
    clear m1 m2 m3 hf hg hla
    first | (have hs1 : (a.size : Int) < 14 := by omega) | (have hs2 : decide ((a.size : Int) < 14) = false := by simp only [decide_eq_false_iff_not]; omega)
    clear hsz
    first
      | obtain ⟨c1, c2, c3, c4, c5, c6⟩ := hc
      | obtain ⟨c1, c2, c3, c4, c5⟩ := hc
      | obtain ⟨c1, c2, c3, c4⟩ := hc
      | obtain ⟨c1, c2, c3⟩ := hc
      | obtain ⟨c1, c2⟩ := hc
    go_enter Tryd.func8, Tryd.ntmps8
    go_wp2_with (first | (go_at_call 9; (with_reducible refine (begun_calls _).mono ?_); rintro e W ⟨rfl, hb⟩; replace H := H.stay (Fix.of_below hb _); clear hb) | (go_at_call 12; (with_reducible refine (HM.out _).mono ?_); rintro e W ⟨rfl, hb⟩; replace H := H.stay (Fix.of_below hb _); clear hb) | (go_at_call 12; (with_reducible refine (H1.out _).mono ?_); rintro e W ⟨rfl, hb⟩; replace H := H.stay (Fix.of_below hb _); clear hb) | (go_at_call 12; (with_reducible refine (H2.out _).mono ?_); rintro e W ⟨rfl, hb⟩; replace H := H.stay (Fix.of_below hb _); clear hb) | (go_at_call 12; (with_reducible refine (H3.out _).mono ?_); rintro e W ⟨rfl, hb⟩; replace H := H.stay (Fix.of_below hb _); clear hb) | (refine wpList_buildslice_st H rfl 38 5 _ _ rfl Tryd.underlying38 _ size_u8 _ zero_u8 (by decide) (by decide) [(0, .int .u8 (x.toNat : Int))] (by simp [Act.eval]) (byteV [x]).toArray (fill1 x) ?_; clear H; intro W g H; (try simp only [cells_arrV, List.nil_append, List.cons_append, List.set_cons_zero, List.set_cons_succ] at H)) | (refine wpList_bytes_str rfl 38 9 _ rfl _ _ _ _ rfl 5 Tryd.underlying38 Tryd.underlying5 Tryd.underlying9 _ (show BytesAt _ _ 0 [x] from BytesAt.of_row (H.at 0 rfl) 0 1) rfl ?_))
    go_ret
    exact ⟨rfl, H.fix.below⟩

theorem namesSigns_calls (a : ByteArray) (x : UInt8) (w : World) :
    Calls Tryd.prog 8 #[.string a, .int .u8 x.toNat] w fun e w' => e = .returned (.bool true) ∧ Below w.heap.size w w' := by
  by_cases h1 : 20 < (a.size : Int)
  · exact namesSigns_long a x (.inl h1) w
  · cases h2 : mayB a.data.toList with
    | false => exact namesSigns_long a x (.inr ⟨by omega, h2⟩) w
    | true => exact namesSigns_short a x (by omega) h2 w

end Go.Proofs.YtoomcbmaahhldaaDoor
