/- The walks of layer 3 (names), part 5: the texts in front of noughts. -/
import Derived.Test.YtoomcbmaahhldaaDoorNmT
import Derived.Laws.BytesArg
import Derived.Lib.TrimByte
namespace Go.Proofs.YtoomcbmaahhldaaDoor
open Go.RowKit
set_option linter.unusedSimpArgs false
set_option linter.unusedVariables false

theorem text_calls (l : List UInt8) (g off cap : Nat) (w : World) (h : BytesAt w g off l) (n : Nat) (hn : n = l.length) (hm : l.length ≤ 9223372036854775807) :
    Calls Tryd.prog 22 #[.slice (some ⟨g, off, none⟩) n cap] w fun e w' => e = .returned (.string ⟨(Lib.trimRightB l 0).toArray⟩) ∧ w' = w := by
  have hconv := run_bytes_str (P := Tryd.prog) w 38 9 5 Tryd.underlying38 Tryd.underlying5 Tryd.underlying9 g off cap l h n hn
  have HT := Lib.hid (Tryd.strings_TrimRight_one ⟨l.toArray⟩ 0 (by decide) w (by rw [show (⟨l.toArray⟩ : ByteArray).size = l.length from by simp [ByteArray.size]]; exact hm))
  clear h hm hn
  go_enter Tryd.func22, Tryd.ntmps22
  go_wp2_with (go_at_call 25; refine HT.out.mono ?_; rintro e w' ⟨rfl, rfl⟩)
  go_ret
  exact ⟨rfl, rfl⟩

/-- Bytes up to a nought. -/
def upto0 (l : List UInt8) : List UInt8 := l.takeWhile (· != 0)

theorem upto0_at (l : List UInt8) (k : Nat) (hk : k ≤ l.length) (h : ∀ (i : Nat) (hi : i < k), l[i]'(by omega) ≠ 0) (he : ∀ hi : k < l.length, l[k] = 0) : upto0 l = l.take k := by
  unfold upto0
  have e : l = l.take k ++ l.drop k := (List.take_append_drop k l).symm
  conv => lhs; rw [e]
  have h1 : ∀ x ∈ l.take k, (x != 0) = true := by
    intro x hx
    obtain ⟨i, hi, rfl⟩ := List.mem_iff_getElem.1 hx
    have hi' : i < k := by simp at hi; omega
    have := h i hi'
    simpa using this
  rw [List.takeWhile_append_of_pos h1]
  rcases Nat.lt_or_ge k l.length with hlt | hge
  · rw [List.drop_eq_getElem_cons hlt, he hlt]; simp
  · rw [List.drop_of_length_le hge]; simp

set_option maxHeartbeats 1000000 in
theorem refText_calls (l : List UInt8) (g off cap : Nat) (w : World) (h : BytesAt w g off l) (n : Nat) (hn : n = l.length) (hm : l.length ≤ 1000) (hcap : n ≤ cap) :
    Calls Tryd.prog 23 #[.slice (some ⟨g, off, none⟩) n cap] w fun e w' => e = .returned (.string ⟨(upto0 l).toArray⟩) ∧ w' = w := by
  subst hn
  have HB := Lib.hid h; clear h
  go_enter Tryd.func23, Tryd.ntmps23
  go_wp2_with fail
  go_loop [3] (fun i => ∃ k : Nat, k ≤ l.length ∧ i = .int .i64 k ∧ Hid (∀ (i : Nat) (hi : i < k) (hl : i < l.length), l[i] ≠ 0)) (fun i => l.length - (intOf i).toNat)
  case atStart => exact ⟨0, Nat.zero_le _, rfl, Lib.hid (fun i hi => absurd hi (Nat.not_lt_zero _))⟩
  case round =>
    obtain ⟨k, hk, rfl, HR⟩ := hrel
    by_cases hlt : k < l.length
    · have hc := HB.out k hlt
      by_cases h0 : l[k] = 0
      · have hq : ((l[k].toNat : Int) == 0) = true := by rw [h0]; rfl
        have he := upto0_at l k hk (fun i hi => HR.out i hi (by omega)) (fun _ => h0)
        have hconv := run_bytes_str (P := Tryd.prog) w 38 9 5 Tryd.underlying38 Tryd.underlying5 Tryd.underlying9 g off cap (l.take k) (fun i hi => by
          have hi' : i < k := by simp at hi; omega
          rw [HB.out i (by omega)]; simp) k (by simp; omega)
        have HE := Lib.hid he; clear he h0
        go_wp2
        go_ret
        exact ⟨by rw [HE.out]; rfl, rfl⟩
      · have hq : ((l[k].toNat : Int) == 0) = false := by
          rw [beq_eq_false_iff_ne]; intro e; exact h0 (UInt8.toNat_inj.1 (by rw [show l[k].toNat = 0 by omega]; rfl))
        have HR' := Lib.hid (show ∀ (i : Nat) (hi : i < k + 1) (hl : i < l.length), l[i] ≠ 0 from fun i hi hl => by
          rcases Nat.lt_or_ge i k with h | h
          · exact HR.out i h hl
          · obtain rfl : i = k := by omega
            exact h0)
        clear h0 HR
        go_wp2
        go_round
        case rel => exact ⟨k + 1, by omega, by go_num, HR'⟩
        case measure => simp [intOf]; omega
    · obtain rfl : k = l.length := by omega
      have he := upto0_at l l.length hk (fun i hi => HR.out i hi (by omega)) (fun h => absurd h hlt)
      rw [List.take_length] at he
      have hconv := run_bytes_str (P := Tryd.prog) w 38 9 5 Tryd.underlying38 Tryd.underlying5 Tryd.underlying9 g off cap l HB.out _ rfl
      have HE := Lib.hid he; clear he HR hk
      go_wp2
      go_ret
      exact ⟨by rw [HE.out]; rfl, rfl⟩

/-- What TakeKey answers. -/
def takeN (l : List UInt8) : UInt8 × List UInt8 × List UInt8 × Int :=
  if keyS (l.getD 0 0) (Lib.trimRightB ((l.drop 2).take 14) 0) (Lib.trimRightB ((l.drop 17).take 14) 0) = (l, 0)
  then (l.getD 0 0, Lib.trimRightB ((l.drop 2).take 14) 0, Lib.trimRightB ((l.drop 17).take 14) 0, 0) else (0, [], [], 3)
def takeV (x : UInt8 × List UInt8 × List UInt8 × Int) : Value := .tuple #[.int .u8 x.1.toNat, .string ⟨x.2.1.toArray⟩, .string ⟨x.2.2.1.toArray⟩, .int .i64 x.2.2.2]

theorem results_tmp4 {fn : Func} {t u v x : Tmp} (h : fn.results = #[.tmp t, .tmp u, .tmp v, .tmp x]) (tmps : Array Value) (P : Program) (w : World) :
    (results fn tmps).run P w = .ok (.tuple #[tmps.getD t undef, tmps.getD u undef, tmps.getD v undef, tmps.getD x undef]) w := by simp [results, h]

theorem trim_le (l : List UInt8) (c : UInt8) : (Lib.trimRightB l c).length ≤ l.length := by
  unfold Lib.trimRightB
  rw [List.length_reverse]
  exact Nat.le_trans (List.dropWhile_suffix _).length_le (by simp)

theorem guard_arr : Tryd.prog.eqGuardType Tryd.prog.depth 23 = false := by kernel_rfl

theorem key_is (k : UInt8) (a b : List UInt8) (x : List UInt8 × Int) (hx : keyS k a b = x) (w : World) :
    Calls Tryd.prog 10 #[.int .u8 k.toNat, .string ⟨a.toArray⟩, .string ⟨b.toArray⟩] w fun e w' => e = .returned (.tuple #[arrV x.1, .int .i64 x.2]) ∧ Below w.heap.size w w' := by
  subst hx; exact key_calls k ⟨a.toArray⟩ ⟨b.toArray⟩ w

theorem keyS_length (k : UInt8) (a b : List UInt8) : (keyS k a b).1.length = 32 := by
  unfold keyS
  split
  · rfl
  · split
    · rfl
    · rename_i h
      have ha : mayB a = true := by
        cases hh : mayB a with
        | true => rfl
        | false => exact absurd (.inl hh) h
      have hb : b.length ≤ 15 := by
        by_cases e : b = []
        · subst e; simp
        · cases hh : mayB b with
          | true => have := (mayB_le hh).1; omega
          | false => exact absurd (.inr ⟨e, hh⟩) h
      exact keyB_length k a b (by have := (mayB_le ha).1; omega) hb

theorem keyS_code (k : UInt8) (a b : List UInt8) : (keyS k a b).2 = 0 ∨ (keyS k a b).2 = 1 ∨ (keyS k a b).2 = 14 := by
  unfold keyS
  split
  · exact .inr (.inl rfl)
  · split
    · exact .inr (.inr rfl)
    · exact .inl rfl

set_option maxHeartbeats 1000000 in
/-- TakeKey, where Key answers x on what is found. -/
theorem takeKey_walk (l : List UInt8) (hl : l.length = 32) (w : World) (x : List UInt8 × Int)
    (hx : keyS (l.getD 0 0) (Lib.trimRightB ((l.drop 2).take 14) 0) (Lib.trimRightB ((l.drop 17).take 14) 0) = x) (r : UInt8 × List UInt8 × List UInt8 × Int)
    (hc : (x.2 = 0 ∧ (x.1 == l) = true ∧ r = (l.getD 0 0, Lib.trimRightB ((l.drop 2).take 14) 0, Lib.trimRightB ((l.drop 17).take 14) 0, 0)) ∨
      (x.2 = 0 ∧ (x.1 == l) = false ∧ r = (0, [], [], 3)) ∨ ((x.2 == 0) = false ∧ (x.2 != 0) = true ∧ r = (0, [], [], 3))) :
    Calls Tryd.prog 16 #[arrV l] w fun e w' => e = .returned (takeV r) ∧ Below w.heap.size w w' := by
  have H := St.nil NoBlk NoBlk w
  have h2 : 14 = ((l.drop 2).take 14).length := by simp; omega
  have h17 : 14 = ((l.drop 17).take 14).length := by simp; omega
  have hA : ∀ W : World, ∀ g, BytesAt W g 2 ((l.drop 2).take 14) → Calls Tryd.prog 22 #[.slice (some ⟨g, 2, none⟩) 14 30] W fun e w' => e = .returned (.string ⟨(Lib.trimRightB ((l.drop 2).take 14) 0).toArray⟩) ∧ w' = W :=
    fun W g h => text_calls _ g 2 30 W h 14 h2 (by omega)
  have hB : ∀ W : World, ∀ g, BytesAt W g 17 ((l.drop 17).take 14) → Calls Tryd.prog 22 #[.slice (some ⟨g, 17, none⟩) 14 15] W fun e w' => e = .returned (.string ⟨(Lib.trimRightB ((l.drop 17).take 14) 0).toArray⟩) ∧ w' = W :=
    fun W g h => text_calls _ g 17 15 W h 14 h17 (by omega)
  have h0 : (byteV l).toArray[0]? = some (.int .u8 ((l.getD 0 0).toNat : Int)) := by
    have : 0 < l.length := by omega
    simp [byteV, List.getD, this]
  have hxl : x.1.length = 32 := by rw [← hx]; exact keyS_length _ _ _
  generalize Lib.trimRightB ((l.drop 2).take 14) 0 = a at *
  generalize Lib.trimRightB ((l.drop 17).take 14) 0 = b at *
  generalize l.getD 0 0 = k at *
  obtain ⟨x1, x2⟩ := x
  simp only at hc hxl
  have HA := Lib.hid hA; clear hA h2
  have HB := Lib.hid hB; clear hB h17
  have H0 := Lib.hid h0; clear h0
  have HL := Lib.hid hl; clear hl
  have HX := Lib.hid hx; clear hx
  have HXL := Lib.hid hxl; clear hxl
  have HS : Hid (32 = (byteV x1).toArray.size) := Lib.hid (by simp [HXL.out])
  rcases hc with ⟨rfl, c2, rfl⟩ | ⟨rfl, c2, rfl⟩ | ⟨c1, c2, rfl⟩
  all_goals
    go_enter Tryd.func16, Tryd.ntmps16
    go_wp2_with (first | (refine wpList_box_st H rfl 23 _ rfl (arrV _) rfl ?_; clear H; intro W g H; (try simp only [cells_arrV, List.nil_append, List.cons_append, List.set_cons_zero, List.set_cons_succ] at H)))
    have hA : ∀ n, BytesAt (W.drewN n) g 2 ((l.drop 2).take 14) := fun _ => BytesAt.of_row (W := W) (H.at 0 rfl) 2 14
    have hB : ∀ n, BytesAt (W.drewN n) g 17 ((l.drop 17).take 14) := fun _ => BytesAt.of_row (W := W) (H.at 0 rfl) 17 14
    have KA := Lib.hid hA; clear hA
    have KB := Lib.hid hB; clear hB
    go_quiet ((first | (go_at_call 22; with_reducible exact Calls.quiet_of_same (HA.out _ _ (KA.out _))) | (go_at_call 22; with_reducible exact Calls.quiet_of_same (HB.out _ _ (KB.out _)))))
    replace H := H.stay (Fix.drewN NoBlk W nq)
    clear KA KB
    generalize W.drewN nq = W2 at *
    go_wp2_with (first | (refine wpList_load1_st rfl 5 _ rfl _ _ rfl _ _ _ (H.at 0 rfl) _ Tryd.underlying5 rfl _ H0.out ?_) | (go_at_call 10; (with_reducible refine (key_is _ _ _ _ HX.out _).mono ?_); rintro e W ⟨rfl, hb⟩; replace H := H.stay (Fix.of_below hb _); clear hb) | (refine wpList_alloc_st H rfl 23 rfl _ zero_arr ?_; clear H; intro W g H; (try simp only [cells_arrV, List.nil_append, List.cons_append, List.set_cons_zero, List.set_cons_succ] at H)) | (refine wpList_storerow_st H 1 rfl 23 _ _ rfl _ _ rfl rfl _ _ rfl (size_arr.trans (congrArg some HS.out)) HS.out (byteV_all _) ?_; clear H; intro W H; (try simp only [cells_arrV, List.nil_append, List.cons_append, List.set_cons_zero, List.set_cons_succ] at H)) | (refine wpList_loadrow_st rfl 23 _ rfl _ rfl _ _ _ (H.at 1 rfl) _ Tryd.underlying23 rfl (size_arr.trans (congrArg some HS.out)) ?_) | (refine wpList_loadrow_st rfl 23 _ rfl _ rfl _ _ _ (H.at 0 rfl) _ Tryd.underlying23 rfl (size_arr.trans (by simp [HL.out])) ?_) | (refine wpList_nearr rfl 23 23 _ _ rfl _ _ rfl rfl 5 _ Tryd.underlying23 Tryd.underlying5 size_u8 guard_arr HXL.out HL.out ?_))
    exact bodyPost_ret (results_tmp4 rfl _ _ _) rfl ⟨rfl, H.fix.below⟩

theorem takeKey_calls (l : List UInt8) (hl : l.length = 32) (w : World) :
    Calls Tryd.prog 16 #[arrV l] w fun e w' => e = .returned (takeV (takeN l)) ∧ Below w.heap.size w w' := by
  refine takeKey_walk l hl w _ rfl _ ?_
  unfold takeN
  have hcode := keyS_code (l.getD 0 0) (Lib.trimRightB ((l.drop 2).take 14) 0) (Lib.trimRightB ((l.drop 17).take 14) 0)
  generalize keyS (l.getD 0 0) (Lib.trimRightB ((l.drop 2).take 14) 0) (Lib.trimRightB ((l.drop 17).take 14) 0) = x at *
  obtain ⟨x1, x2⟩ := x
  simp only at *
  by_cases h2 : x2 = 0
  · by_cases h1 : x1 = l
    · exact .inl ⟨h2, by simp [h1], by rw [if_pos (by rw [h1, h2])]⟩
    · exact .inr (.inl ⟨h2, by simpa using h1, by rw [if_neg (by intro e; exact h1 (congrArg Prod.fst e))]⟩)
  · exact .inr (.inr ⟨by simpa using h2, by simpa using h2, by rw [if_neg (by intro e; exact h2 (congrArg Prod.snd e))]⟩)

/-- What the document's TakeKey answers. -/
def takeR (l : List UInt8) : UInt8 × List UInt8 × List UInt8 × Int :=
  if keyS (l.getD 0 0) (upto0 ((l.drop 2).take 15)) (upto0 ((l.drop 17).take 15)) = (l, 0)
  then (l.getD 0 0, upto0 ((l.drop 2).take 15), upto0 ((l.drop 17).take 15), 0) else (0, [], [], 3)

theorem refKey_is (k : UInt8) (a b : List UInt8) (x : List UInt8 × Int) (hx : keyS k a b = x) (w : World) :
    Calls Tryd.prog 11 #[.int .u8 k.toNat, .string ⟨a.toArray⟩, .string ⟨b.toArray⟩] w fun e w' => e = .returned (.tuple #[arrV x.1, .int .i64 x.2]) ∧ Below w.heap.size w w' := by
  subst hx; exact refKey_calls k ⟨a.toArray⟩ ⟨b.toArray⟩ w

set_option maxHeartbeats 1000000 in
theorem refTakeKey_walk (l : List UInt8) (hl : l.length = 32) (w : World) (x : List UInt8 × Int)
    (hx : keyS (l.getD 0 0) (upto0 ((l.drop 2).take 15)) (upto0 ((l.drop 17).take 15)) = x) (r : UInt8 × List UInt8 × List UInt8 × Int)
    (hc : (x.2 = 0 ∧ (x.1 == l) = true ∧ r = (l.getD 0 0, upto0 ((l.drop 2).take 15), upto0 ((l.drop 17).take 15), 0)) ∨
      (x.2 = 0 ∧ (x.1 == l) = false ∧ r = (0, [], [], 3)) ∨ ((x.2 == 0) = false ∧ (x.2 != 0) = true ∧ r = (0, [], [], 3))) :
    Calls Tryd.prog 17 #[arrV l] w fun e w' => e = .returned (takeV r) ∧ Below w.heap.size w w' := by
  have H := St.nil NoBlk NoBlk w
  have h2 : 15 = ((l.drop 2).take 15).length := by simp; omega
  have h17 : 15 = ((l.drop 17).take 15).length := by simp; omega
  have hA : ∀ W : World, ∀ g, BytesAt W g 2 ((l.drop 2).take 15) → Calls Tryd.prog 23 #[.slice (some ⟨g, 2, none⟩) 15 30] W fun e w' => e = .returned (.string ⟨(upto0 ((l.drop 2).take 15)).toArray⟩) ∧ w' = W :=
    fun W g h => refText_calls _ g 2 30 W h 15 h2 (by omega) (by omega)
  have hB : ∀ W : World, ∀ g, BytesAt W g 17 ((l.drop 17).take 15) → Calls Tryd.prog 23 #[.slice (some ⟨g, 17, none⟩) 15 15] W fun e w' => e = .returned (.string ⟨(upto0 ((l.drop 17).take 15)).toArray⟩) ∧ w' = W :=
    fun W g h => refText_calls _ g 17 15 W h 15 h17 (by omega) (by omega)
  have h0 : (byteV l).toArray[0]? = some (.int .u8 ((l.getD 0 0).toNat : Int)) := by
    have : 0 < l.length := by omega
    simp [byteV, List.getD, this]
  have hxl : x.1.length = 32 := by rw [← hx]; exact keyS_length _ _ _
  generalize upto0 ((l.drop 2).take 15) = a at *
  generalize upto0 ((l.drop 17).take 15) = b at *
  generalize l.getD 0 0 = k at *
  obtain ⟨x1, x2⟩ := x
  simp only at hc hxl
  have HA := Lib.hid hA; clear hA h2
  have HB := Lib.hid hB; clear hB h17
  have H0 := Lib.hid h0; clear h0
  have HL := Lib.hid hl; clear hl
  have HX := Lib.hid hx; clear hx
  have HXL := Lib.hid hxl; clear hxl
  have HS : Hid (32 = (byteV x1).toArray.size) := Lib.hid (by simp [HXL.out])
  rcases hc with ⟨rfl, c2, rfl⟩ | ⟨rfl, c2, rfl⟩ | ⟨c1, c2, rfl⟩
  all_goals
    go_enter Tryd.func17, Tryd.ntmps17
    go_wp2_with (first | (refine wpList_box_st H rfl 23 _ rfl (arrV _) rfl ?_; clear H; intro W g H; (try simp only [cells_arrV, List.nil_append, List.cons_append, List.set_cons_zero, List.set_cons_succ] at H)))
    have hA : ∀ n, BytesAt (W.drewN n) g 2 ((l.drop 2).take 15) := fun _ => BytesAt.of_row (W := W) (H.at 0 rfl) 2 15
    have hB : ∀ n, BytesAt (W.drewN n) g 17 ((l.drop 17).take 15) := fun _ => BytesAt.of_row (W := W) (H.at 0 rfl) 17 15
    have KA := Lib.hid hA; clear hA
    have KB := Lib.hid hB; clear hB
    go_quiet ((first | (go_at_call 23; with_reducible exact Calls.quiet_of_same (HA.out _ _ (KA.out _))) | (go_at_call 23; with_reducible exact Calls.quiet_of_same (HB.out _ _ (KB.out _)))))
    replace H := H.stay (Fix.drewN NoBlk W nq)
    clear KA KB
    generalize W.drewN nq = W2 at *
    go_wp2_with (first | (refine wpList_load1_st rfl 5 _ rfl _ _ rfl _ _ _ (H.at 0 rfl) _ Tryd.underlying5 rfl _ H0.out ?_) | (go_at_call 11; (with_reducible refine (refKey_is _ _ _ _ HX.out _).mono ?_); rintro e W ⟨rfl, hb⟩; replace H := H.stay (Fix.of_below hb _); clear hb) | (refine wpList_alloc_st H rfl 23 rfl _ zero_arr ?_; clear H; intro W g H; (try simp only [cells_arrV, List.nil_append, List.cons_append, List.set_cons_zero, List.set_cons_succ] at H)) | (refine wpList_storerow_st H 1 rfl 23 _ _ rfl _ _ rfl rfl _ _ rfl (size_arr.trans (congrArg some HS.out)) HS.out (byteV_all _) ?_; clear H; intro W H; (try simp only [cells_arrV, List.nil_append, List.cons_append, List.set_cons_zero, List.set_cons_succ] at H)) | (refine wpList_loadrow_st rfl 23 _ rfl _ rfl _ _ _ (H.at 1 rfl) _ Tryd.underlying23 rfl (size_arr.trans (congrArg some HS.out)) ?_) | (refine wpList_loadrow_st rfl 23 _ rfl _ rfl _ _ _ (H.at 0 rfl) _ Tryd.underlying23 rfl (size_arr.trans (by simp [HL.out])) ?_) | (refine wpList_nearr rfl 23 23 _ _ rfl _ _ rfl rfl 5 _ Tryd.underlying23 Tryd.underlying5 size_u8 guard_arr HXL.out HL.out ?_))
    exact bodyPost_ret (results_tmp4 rfl _ _ _) rfl ⟨rfl, H.fix.below⟩

theorem refTakeKey_calls (l : List UInt8) (hl : l.length = 32) (w : World) :
    Calls Tryd.prog 17 #[arrV l] w fun e w' => e = .returned (takeV (takeR l)) ∧ Below w.heap.size w w' := by
  refine refTakeKey_walk l hl w _ rfl _ ?_
  unfold takeR
  generalize keyS (l.getD 0 0) (upto0 ((l.drop 2).take 15)) (upto0 ((l.drop 17).take 15)) = x at *
  obtain ⟨x1, x2⟩ := x
  simp only at *
  by_cases h2 : x2 = 0
  · by_cases h1 : x1 = l
    · exact .inl ⟨h2, by simp [h1], by rw [if_pos (by rw [h1, h2])]⟩
    · exact .inr (.inl ⟨h2, by simpa using h1, by rw [if_neg (by intro e; exact h1 (congrArg Prod.fst e))]⟩)
  · exact .inr (.inr ⟨by simpa using h2, by simpa using h2, by rw [if_neg (by intro e; exact h2 (congrArg Prod.snd e))]⟩)

end Go.Proofs.YtoomcbmaahhldaaDoor
