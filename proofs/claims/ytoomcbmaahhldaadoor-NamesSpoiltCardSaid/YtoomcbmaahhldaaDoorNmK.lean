/- The walks of layer 3 (names), part 2: Key. -/
import Derived.Test.YtoomcbmaahhldaaDoorNmW1
import Derived.Test.YtoomcbmaahhldaaDoorSh
import Derived.Test.YtoomcbmaahhldaaDoorOp
namespace Go.Proofs.YtoomcbmaahhldaaDoor
open Go.RowKit
set_option linter.unusedSimpArgs false
set_option linter.unusedVariables false

/-- The bytes of no key. -/
def noKey : List UInt8 := List.replicate 32 0
/-- A key's bytes: the kind, a, b. -/
def keyB (kind : UInt8) (a b : List UInt8) : List UInt8 := kind :: 0 :: (a ++ List.replicate (15 - a.length) 0 ++ b ++ List.replicate (15 - b.length) 0)
@[simp] theorem noKey_length : noKey.length = 32 := rfl

theorem zero_arr : (Tryd.prog.info? 23).bind (·.zero) = some (arrV noKey) := by kernel_rfl
theorem size_arr : (Tryd.prog.info? 23).map (·.size) = some 32 := by kernel_rfl
theorem size_u8 : (Tryd.prog.info? 5).map (·.size) = some 1 := by kernel_rfl



/-- What Key hands back: the row that its result lies in, and the number. -/
theorem res_key {tmps : Array Value} {w : World} {g : Nat} {cs : Array Value} {t : TypeId} {fr : Nat × Nat} {u : Value}
    (hp : tmps.getD 6 undef = .pointer (some ⟨g, 0, none⟩)) (hu : tmps.getD 7 undef = u) (hg : w.heap[g]? = some (.cells cs t fr)) (hn : cs.size = 32) {fn : Func} (h : fn.results = #[.cell 6 23, .tmp 7]) :
    (results fn tmps).run Tryd.prog w = .ok (.tuple #[.agg cs, u]) w := by
  have hi : (Tryd.prog.info? 23).map (·.size) = some cs.size := by rw [hn]; exact size_arr
  rw [results_cell_tmp h, hp, hu]
  simp [asAddr, run_loadVar_row w g t 23 cs fr _ hg Tryd.underlying23 rfl hi, Result.andThen]

set_option maxHeartbeats 400000 in
theorem key_zero (a b : ByteArray) (w : World) :
    Calls Tryd.prog 10 #[.int .u8 0, .string a, .string b] w fun e w' => e = .returned (.tuple #[arrV noKey, .int .i64 1]) ∧ Below w.heap.size w w' := by
  have H := St.nil NoBlk NoBlk w
  go_enter Tryd.func10, Tryd.ntmps10
  go_wp2_with (first | (refine wpList_alloc_st H rfl 23 rfl _ zero_arr ?_; clear H; intro W g H; (try simp only [cells_arrV, List.nil_append, List.cons_append, List.set_cons_zero, List.set_cons_succ] at H)) | (refine wpList_loadrow_st rfl 23 _ rfl _ rfl _ _ _ (H.at 1 rfl) _ Tryd.underlying23 rfl size_arr ?_) | (refine wpList_storerow_st H 0 rfl 23 _ _ rfl _ _ rfl rfl _ _ rfl size_arr rfl (byteV_all _) ?_; clear H; intro W H; (try simp only [cells_arrV, List.nil_append, List.cons_append, List.set_cons_zero, List.set_cons_succ] at H)))
  exact bodyPost_ret (v := .tuple #[arrV noKey, .int .i64 1]) (res_key rfl rfl (H.at 0 rfl) rfl rfl) rfl ⟨rfl, H.fix.below⟩

/-- May, with its answer known. -/
theorem may_is (s : ByteArray) (w : World) (v : Bool) (h : mayB s.data.toList = v) :
    Calls Tryd.prog 12 #[.string s] w fun e w' => e = .returned (.bool v) ∧ Below w.heap.size w w' := by
  subst h; exact may_calls s w

theorem key_nameA (k : UInt8) (a b : ByteArray) (w : World) (hk : ((k.toNat : Int) == 0) = false) (ha : mayB a.data.toList = false) :
    Calls Tryd.prog 10 #[.int .u8 k.toNat, .string a, .string b] w fun e w' => e = .returned (.tuple #[arrV noKey, .int .i64 14]) ∧ Below w.heap.size w w' := by
  have H := St.nil NoBlk NoBlk w
  have HA := Lib.hid ha; clear ha
  go_enter Tryd.func10, Tryd.ntmps10
  go_wp2_with (first | (refine wpList_alloc_st H rfl 23 rfl _ zero_arr ?_; clear H; intro W g H; (try simp only [cells_arrV, List.nil_append, List.cons_append, List.set_cons_zero, List.set_cons_succ] at H)) | (refine wpList_loadrow_st rfl 23 _ rfl _ rfl _ _ _ (H.at 1 rfl) _ Tryd.underlying23 rfl size_arr ?_) | (refine wpList_storerow_st H 0 rfl 23 _ _ rfl _ _ rfl rfl _ _ rfl size_arr rfl (byteV_all _) ?_; clear H; intro W H; (try simp only [cells_arrV, List.nil_append, List.cons_append, List.set_cons_zero, List.set_cons_succ] at H)) | (go_at_call 12; (with_reducible refine (may_is _ _ _ HA.out).mono ?_); rintro e W ⟨rfl, hb⟩; replace H := H.stay (Fix.of_below hb _); clear hb))
  exact bodyPost_ret (v := .tuple #[arrV noKey, .int .i64 14]) (res_key rfl rfl (H.at 0 rfl) rfl rfl) rfl ⟨rfl, H.fix.below⟩

theorem key_nameB (k : UInt8) (a b : ByteArray) (w : World) (hk : ((k.toNat : Int) == 0) = false) (hb1 : b.toList = []  → False) (hb2 : (!b.toList.isEmpty) = true) (ha : mayB a.data.toList = true) (hb : mayB b.data.toList = false) :
    Calls Tryd.prog 10 #[.int .u8 k.toNat, .string a, .string b] w fun e w' => e = .returned (.tuple #[arrV noKey, .int .i64 14]) ∧ Below w.heap.size w w' := by
  have H := St.nil NoBlk NoBlk w
  have HA := Lib.hid ha; clear ha
  have HB := Lib.hid hb; clear hb
  go_enter Tryd.func10, Tryd.ntmps10
  go_wp2_with (first | (refine wpList_alloc_st H rfl 23 rfl _ zero_arr ?_; clear H; intro W g H; (try simp only [cells_arrV, List.nil_append, List.cons_append, List.set_cons_zero, List.set_cons_succ] at H)) | (refine wpList_loadrow_st rfl 23 _ rfl _ rfl _ _ _ (H.at 1 rfl) _ Tryd.underlying23 rfl size_arr ?_) | (refine wpList_storerow_st H 0 rfl 23 _ _ rfl _ _ rfl rfl _ _ rfl size_arr rfl (byteV_all _) ?_; clear H; intro W H; (try simp only [cells_arrV, List.nil_append, List.cons_append, List.set_cons_zero, List.set_cons_succ] at H)) | (go_at_call 12; (with_reducible refine (may_is _ _ _ HA.out).mono ?_); rintro e W ⟨rfl, hb⟩; replace H := H.stay (Fix.of_below hb _); clear hb) | (go_at_call 12; (with_reducible refine (may_is _ _ _ HB.out).mono ?_); rintro e W ⟨rfl, hb⟩; replace H := H.stay (Fix.of_below hb _); clear hb))
  exact bodyPost_ret (v := .tuple #[arrV noKey, .int .i64 14]) (res_key rfl rfl (H.at 0 rfl) rfl rfl) rfl ⟨rfl, H.fix.below⟩

/-- What the two copies leave. -/
theorem key_fill (k : UInt8) (a b : List UInt8) (ha : a.length ≤ 15) (hb : b.length ≤ 15) :
    (((noKey.set 0 k).take 2 ++ a ++ (noKey.set 0 k).drop (2 + a.length)).take 17 ++ b ++ ((noKey.set 0 k).take 2 ++ a ++ (noKey.set 0 k).drop (2 + a.length)).drop (17 + b.length)) = keyB k a b := by
  have e : noKey.set 0 k = k :: 0 :: List.replicate 30 0 := rfl
  rw [e]
  have h1 : (k :: 0 :: List.replicate 30 (0 : UInt8)).take 2 = [k, 0] := rfl
  have h2 : (k :: 0 :: List.replicate 30 (0 : UInt8)).drop (2 + a.length) = List.replicate (30 - a.length) 0 := by
    rw [Nat.add_comm, List.drop_succ_cons, List.drop_succ_cons, List.drop_replicate]
  rw [h1, h2]
  have h3 : ([k, 0] ++ a ++ List.replicate (30 - a.length) (0 : UInt8)) = ([k, 0] ++ a ++ List.replicate (15 - a.length) 0) ++ List.replicate 15 0 := by
    rw [List.append_assoc ([k, 0] ++ a), List.replicate_append_replicate]; congr 2; omega
  have hl : ([k, 0] ++ a ++ List.replicate (15 - a.length) (0 : UInt8)).length = 17 := by simp; omega
  rw [h3, List.take_append_of_le_length (by omega), List.take_of_length_le (by omega), List.drop_append, List.drop_of_length_le (by omega), hl]
  have h4 : (List.replicate 15 (0 : UInt8)).drop (17 + b.length - 17) = List.replicate (15 - b.length) 0 := by
    rw [List.drop_replicate]; congr 1; omega
  rw [h4]
  simp [keyB]

theorem keyB_length (k : UInt8) (a b : List UInt8) (ha : a.length ≤ 15) (hb : b.length ≤ 15) : (keyB k a b).length = 32 := by
  simp [keyB]; omega
theorem keyB_size (k : UInt8) (a b : List UInt8) (ha : a.length ≤ 15) (hb : b.length ≤ 15) : 32 = (byteV (keyB k a b)).toArray.size := by
  simp [keyB_length k a b ha hb]

theorem key_okB (k : UInt8) (a b : ByteArray) (w : World) (hk : ((k.toNat : Int) == 0) = false) (hb2 : (!b.toList.isEmpty) = true) (ha : mayB a.data.toList = true) (hb : mayB b.data.toList = true) (hza : a.size ≤ 14) (hzb : b.size ≤ 14) :
    Calls Tryd.prog 10 #[.int .u8 k.toNat, .string a, .string b] w fun e w' => e = .returned (.tuple #[arrV (keyB k a.data.toList b.data.toList), .int .i64 0]) ∧ Below w.heap.size w w' := by
  have H := St.nil NoBlk NoBlk w
  have HA := Lib.hid ha; clear ha
  have HB := Lib.hid hb; clear hb
  have hla : a.data.toList.length = a.size := by simp
  have hlb : b.data.toList.length = b.size := by simp
  have HF := Lib.hid (key_fill k a.data.toList b.data.toList (by omega) (by omega))
  have HS := Lib.hid (keyB_size k a.data.toList b.data.toList (by omega) (by omega))
  rw [hla, hlb] at HF
  clear hla hlb
  go_enter Tryd.func10, Tryd.ntmps10
  go_wp2_with (first | (refine wpList_alloc_st H rfl 23 rfl _ zero_arr ?_; clear H; intro W g H; (try simp only [cells_arrV, List.nil_append, List.cons_append, List.set_cons_zero, List.set_cons_succ] at H)) | (go_at_call 12; (with_reducible refine (may_is _ _ _ HA.out).mono ?_); rintro e W ⟨rfl, hb⟩; replace H := H.stay (Fix.of_below hb _); clear hb) | (go_at_call 12; (with_reducible refine (may_is _ _ _ HB.out).mono ?_); rintro e W ⟨rfl, hb⟩; replace H := H.stay (Fix.of_below hb _); clear hb) | (refine wpList_store1_st H 1 rfl 5 _ _ rfl _ _ (.int .u8 ((UInt8.toNat _ : Nat) : Int)) rfl rfl rfl _ _ rfl size_u8 (by simp) ?_; clear H; intro W H; (try simp only [cells_arrV, List.nil_append, List.cons_append, List.set_cons_zero, List.set_cons_succ] at H); simp only [byteV_set] at H) | (refine wpList_copystr_st H 1 rfl _ _ 38 9 rfl _ Tryd.underlying38 size_u8 _ _ _ _ rfl _ rfl _ _ rfl (by omega) (by simp [noKey]; omega) ?_; clear H; intro W H; (try simp only [cells_arrV, List.nil_append, List.cons_append, List.set_cons_zero, List.set_cons_succ] at H); try rw [HF.out] at H) | (refine wpList_loadrow_st rfl 23 _ rfl _ rfl _ _ _ (H.at 1 rfl) _ Tryd.underlying23 rfl (size_arr.trans (congrArg some HS.out)) ?_) | (refine wpList_storerow_st H 0 rfl 23 _ _ rfl _ _ rfl rfl _ _ rfl (size_arr.trans (congrArg some HS.out)) HS.out (byteV_all _) ?_; clear H; intro W H; (try simp only [cells_arrV, List.nil_append, List.cons_append, List.set_cons_zero, List.set_cons_succ] at H)))
  exact bodyPost_ret (v := .tuple #[arrV (keyB k a.data.toList b.data.toList), .int .i64 0]) (res_key rfl rfl (H.at 0 rfl) HS.out.symm rfl) rfl ⟨rfl, H.fix.below⟩

theorem key_okE (k : UInt8) (a : ByteArray) (w : World) (hk : ((k.toNat : Int) == 0) = false) (ha : mayB a.data.toList = true) (hza : a.size ≤ 14) :
    Calls Tryd.prog 10 #[.int .u8 k.toNat, .string a, .string ⟨#[]⟩] w fun e w' => e = .returned (.tuple #[arrV (keyB k a.data.toList []), .int .i64 0]) ∧ Below w.heap.size w w' := by
  have H := St.nil NoBlk NoBlk w
  have HA := Lib.hid ha; clear ha
  have hla : a.data.toList.length = a.size := by simp
  have HF := Lib.hid (key_fill k a.data.toList [] (by omega) (by simp))
  have HS := Lib.hid (keyB_size k a.data.toList [] (by omega) (by simp))
  rw [hla] at HF
  clear hla
  go_enter Tryd.func10, Tryd.ntmps10
  go_wp2_with (first | (refine wpList_alloc_st H rfl 23 rfl _ zero_arr ?_; clear H; intro W g H; (try simp only [cells_arrV, List.nil_append, List.cons_append, List.set_cons_zero, List.set_cons_succ] at H)) | (go_at_call 12; (with_reducible refine (may_is _ _ _ HA.out).mono ?_); rintro e W ⟨rfl, hb⟩; replace H := H.stay (Fix.of_below hb _); clear hb) | (refine wpList_store1_st H 1 rfl 5 _ _ rfl _ _ (.int .u8 ((UInt8.toNat _ : Nat) : Int)) rfl rfl rfl _ _ rfl size_u8 (by simp) ?_; clear H; intro W H; (try simp only [cells_arrV, List.nil_append, List.cons_append, List.set_cons_zero, List.set_cons_succ] at H); simp only [byteV_set] at H) | (refine wpList_copystr_st H 1 rfl _ _ 38 9 rfl _ Tryd.underlying38 size_u8 _ _ _ _ rfl _ rfl _ _ rfl (by first | omega | exact Nat.zero_le _) (by first | (simp [noKey]; omega) | (simp [noKey]; done) | (show 17 + 0 ≤ _; simp [noKey]; omega)) ?_; clear H; intro W H; (try simp only [cells_arrV, List.nil_append, List.cons_append, List.set_cons_zero, List.set_cons_succ] at H); try (replace H := show St _ _ _ _ _ from (HF.out ▸ H))) | (refine wpList_loadrow_st rfl 23 _ rfl _ rfl _ _ _ (H.at 1 rfl) _ Tryd.underlying23 rfl (size_arr.trans (congrArg some HS.out)) ?_) | (refine wpList_storerow_st H 0 rfl 23 _ _ rfl _ _ rfl rfl _ _ rfl (size_arr.trans (congrArg some HS.out)) HS.out (byteV_all _) ?_; clear H; intro W H; (try simp only [cells_arrV, List.nil_append, List.cons_append, List.set_cons_zero, List.set_cons_succ] at H)))
  exact bodyPost_ret (v := .tuple #[arrV (keyB k a.data.toList []), .int .i64 0]) (res_key rfl rfl (H.at 0 rfl) HS.out.symm rfl) rfl ⟨rfl, H.fix.below⟩

end Go.Proofs.YtoomcbmaahhldaaDoor
