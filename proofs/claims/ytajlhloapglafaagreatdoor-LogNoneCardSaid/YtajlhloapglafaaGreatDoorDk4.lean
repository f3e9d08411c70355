/- The disk's Read. -/
import Derived.Test.YtajlhloapglafaaGreatDoorDk3
namespace Go.Proofs.YtajlhloapglafaaGreatDoor
open Go.RowKit
set_option linter.unusedSimpArgs false
set_option linter.unusedVariables false
set_option maxRecDepth 4000

/-- What sector k bears, as a reader sees it. -/
def DS.sect (D : DS) (k : Nat) : List UInt8 := (D.wait k).getD (D.last.getD k [])

/-- A sector's bytes in a block of one's own. -/
def FreshB (w w' : World) (v : Value) (l : List UInt8) : Prop := ∃ g cap junk, v = .slice (some ⟨g, 0, none⟩) l.length cap ∧ l.length ≤ cap ∧ cap ≤ maxLen ∧ w.heap.size ≤ g ∧ w'.heap[g]? = some (.cells (byteV l ++ junk).toArray 5 (0, 0))

theorem clone_is {w : World} {v : Value} {rd : Nat → Prop} {l : List UInt8} (h : ByS w rd v l) (hl : l.length = 256) (hlt : ∀ k, rd k → k < w.heap.size) :
    Calls Tryz.prog 54 #[v] w fun e w' => ∃ v', e = .returned v' ∧ FreshB w w' v' l ∧ Below w.heap.size w w' := by
  obtain ⟨g, off, cap, rfl, h2, h3, h4⟩ := h.open_ hl
  refine (clone_calls w g off cap l h4 (by omega) (.inr (hlt g h3))).mono ?_
  rintro e w' ⟨g', cap', junk, rfl, h5, h6, h7, h8, h9⟩
  exact ⟨_, rfl, ⟨g', cap', junk, rfl, h5, h6, h7, h8⟩, h9⟩

theorem PayIs.ByS_at {W : World} {rd : Nat → Prop} {rows : List Value} {last : List (List UInt8)} {M : DataW Value} {wait : Nat → Option (List UInt8)} {tv : Value} {torn : List UInt8} (h : PayIs W rd rows last M wait tv torn)
    (hr : rows.length = last.length) (junk : List Value) (k : Nat) (hk : k < last.length) : ∃ v, (rows ++ junk).toArray[k]? = some v ∧ ByS W rd v last[k] := by
  refine ⟨rows.getD k undef, ?_, h.sect k hk⟩
  have : k < rows.length := by omega
  simp [List.getElem?_append, this]

theorem read_calls {w : World} {g : Nat} {D : DS} {own rd : Nat → Prop} (hd : DiskIs w g D own rd) (k : Nat) (hk : k < D.last.length) (hdd : D.dead = false) :
    Calls Tryz.prog 75 #[.pointer (some ⟨g, 0, none⟩), .int .i64 (k : Int)] w fun e w' => ∃ v, e = .returned (.tuple #[v, .int .i64 0]) ∧ FreshB w w' v (D.sect k) ∧ (D.sect k).length = 256 ∧ Below w.heap.size w w' := by
  have hm : D.may (k : Int) = 0 := by simp [DS.may, hdd]; omega
  have HM := Lib.hid (may_calls hd (k : Int))
  rw [hm] at HM
  obtain ⟨gl, gm, cap, rows, junk, M, tv, hf, h3, h4, H⟩ := hd.open_
  have hP := H.at 3 rfl
  have hMp := H.at 2 rfl
  have hkn : k < 1048576 := by have := hf.n2; omega
  cases hw : D.wait k with
  | none =>
    have hl := hP.look_no hMp k hkn hw
    obtain ⟨v, hv1, hv2⟩ := hP.ByS_at h3 junk k hk
    have hlen : D.last[k].length = 256 := hf.len _ (List.getElem_mem hk)
    have hsec : D.sect k = D.last[k] := by simp [DS.sect, hw, hk]
    rw [hsec]
    have HC := Lib.hid (clone_is hv2 hlen hP.lt)
    have HV := Lib.hid hv1
    have HL := Lib.hid hl
    have HN := Lib.hid hlen
    have hki : (k : Int) < (D.last.length : Int) := by omega
    have hk0 : 0 ≤ (k : Int) := by omega
    clear hd hP hMp hv1 hv2 hl hm hlen hf h4 h3 hw hdd hsec
    generalize D.last[k] = lk at *
    go_enter Tryz.func75, Tryz.ntmps75
    go_wp2_with (first | (refine wpList_load1_st rfl 74 _ rfl _ _ rfl _ _ _ (H.at 0 rfl) _ Tryz.underlying74 rfl _ (dRow1 _ _ _ _ _ _ _ _ _ _) ?_) | (refine wpList_load1_st rfl 75 _ rfl _ _ rfl _ _ _ (H.at 0 rfl) _ Tryz.underlying75 rfl _ (dRow0 _ _ _ _ _ _ _ _ _ _) ?_) | (go_at_call 57; (with_reducible refine (HM.out).mono ?_); rintro e W' ⟨rfl, rfl⟩) | (refine wpList_lookup_run rfl 74 _ _ _ rfl _ _ _ rfl rfl HL.out ?_) | (refine wpList_load1_st rfl 22 _ rfl _ _ rfl _ _ _ (H.at 1 rfl) _ Tryz.underlying22 rfl _ HV.out ?_) | (go_at_call 54; (with_reducible refine (HC.out).mono ?_); rintro e W ⟨v', rfl, hfr, hb⟩))
    refine bodyPost_ret (results_tmp2 rfl _ _ _) rfl ?_
    exact ⟨v', rfl, hfr, HN.out, hb⟩
  | some l =>
    obtain ⟨v, hl, _, hlen, hv2⟩ := hP.look_yes hMp k hkn hw
    have hsec : D.sect k = l := by simp [DS.sect, hw]
    rw [hsec]
    have HC := Lib.hid (clone_is hv2 hlen hP.lt)
    have HL := Lib.hid hl
    have HN := Lib.hid hlen
    have hki : (k : Int) < (D.last.length : Int) := by omega
    have hk0 : 0 ≤ (k : Int) := by omega
    clear hd hP hMp hv2 hl hm hlen hf h4 h3 hw hdd hsec
    go_enter Tryz.func75, Tryz.ntmps75
    go_wp2_with (first | (refine wpList_load1_st rfl 74 _ rfl _ _ rfl _ _ _ (H.at 0 rfl) _ Tryz.underlying74 rfl _ (dRow1 _ _ _ _ _ _ _ _ _ _) ?_) | (refine wpList_load1_st rfl 75 _ rfl _ _ rfl _ _ _ (H.at 0 rfl) _ Tryz.underlying75 rfl _ (dRow0 _ _ _ _ _ _ _ _ _ _) ?_) | (go_at_call 57; (with_reducible refine (HM.out).mono ?_); rintro e W' ⟨rfl, rfl⟩) | (refine wpList_lookup_run rfl 74 _ _ _ rfl _ _ _ rfl rfl HL.out ?_) | (go_at_call 54; (with_reducible refine (HC.out).mono ?_); rintro e W ⟨v', rfl, hfr, hb⟩))
    refine bodyPost_ret (results_tmp2 rfl _ _ _) rfl ?_
    exact ⟨v', rfl, hfr, HN.out, hb⟩

theorem read_no {w : World} {g : Nat} {D : DS} {own rd : Nat → Prop} (hd : DiskIs w g D own rd) (i : Int) (m : Int) (hm : D.may i = m) (hne : m ≠ 0) :
    Calls Tryz.prog 75 #[.pointer (some ⟨g, 0, none⟩), .int .i64 i] w fun e w' => e = .returned (.tuple #[.slice none 0 0, .int .i64 m]) ∧ w = w' := by
  have HM := Lib.hid (may_calls hd i)
  rw [hm] at HM
  have b1 : (m == 0) = false := beq_eq_false_iff_ne.2 hne
  have b2 : (m != 0) = true := by simp [bne, b1]
  clear hd hm hne
  go_enter Tryz.func75, Tryz.ntmps75
  go_wp2_with (first | (go_at_call 57; (with_reducible refine (HM.out).mono ?_); rintro e W' ⟨rfl, rfl⟩))
  refine bodyPost_ret (results_tmp2 rfl _ _ _) rfl ?_
  exact ⟨rfl, rfl⟩

end Go.Proofs.YtajlhloapglafaaGreatDoor
