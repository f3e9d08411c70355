/- The disk's small functions: Clone of bytes, Len, may, fails, Lives, Writes, Dead. -/
import Derived.Test.YtajlhloapglafaaGreatDoorDk0
import Derived.Test.YtajlhloapglafaaGreatDoorApp
namespace Go.Proofs.YtajlhloapglafaaGreatDoor
open Go.RowKit
set_option linter.unusedSimpArgs false
set_option linter.unusedVariables false
set_option maxRecDepth 4000

theorem info_u8 : (Tryz.prog.info? 5).map (fun i => (i.zero, i.size, i.bytes)) = some (some (.int .u8 0), 1, 1) := by kernel_rfl

theorem BytesAt.news {w W : World} {g off : Nat} {l : List UInt8} (hb : BytesAt w g off l) (hf : Fix NoBlk w W) (hlb : l = [] ∨ g < w.heap.size) :
    ∀ j u, (byteV l)[j]? = some u → W.cell? ((⟨g, off, none⟩ : Addr).add j) = some u := by
  intro j u hu
  have hj : j < l.length := by have := (List.getElem?_eq_some_iff.1 hu).1; simpa using this
  rw [byteV_get, List.getElem?_eq_getElem hj, Option.map_some, Option.some.injEq] at hu
  have e1 := hb j hj
  rw [Addr.add_lit, ← hu, ← e1]
  refine hf.cell ?_ (fun h => h)
  rcases hlb with rfl | h
  · simp at hj
  · exact h

/-- slices.Clone of bytes. -/
theorem clone_calls (w : World) (g off cap : Nat) (l : List UInt8) (hb : BytesAt w g off l) (hl : l.length ≤ 1048576) (hlb : l = [] ∨ g < w.heap.size) :
    Calls Tryz.prog 54 #[.slice (some ⟨g, off, none⟩) l.length cap] w fun e w' => ∃ g' cap' junk, e = .returned (.slice (some ⟨g', 0, none⟩) l.length cap') ∧
      l.length ≤ cap' ∧ cap' ≤ maxLen ∧ w.heap.size ≤ g' ∧ w'.heap[g']? = some (.cells (byteV l ++ junk).toArray 5 (0, 0)) ∧ Below w.heap.size w w' := by
  have H := St.nil NoBlk NoBlk w
  go_enter Tryz.func54, Tryz.ntmps54
  go_wp2_with (first
    | (refine wpList_eqlnil rfl 22 _ _ _ rfl _ _ _ rfl rfl _ Tryz.underlying22 ?_)
    | (refine wpList_buildslice0_st H rfl 22 _ rfl Tryz.underlying22 _ rfl ?_; clear H; intro W g0 H; simp only [List.nil_append] at H)
    | (refine wpList_append_st H 0 rfl _ _ 22 rfl _ Tryz.underlying22 _ _ info_u8 rfl _ 0 _ rfl [] rfl (Nat.le_refl _) rfl (Nat.zero_le _) _ _ _ rfl (byteV l) (byteV_length l) (hb.news H.fix hlb) (byteV_one l) (by simp only [maxLen]; omega) (by omega) ?_; clear H; intro W g' cap' junk H h1 h2 h3; simp only [List.take_nil, List.nil_append, List.set_cons_zero, Nat.zero_add] at H h1 h2 ⊢))
  go_ret
  refine ⟨g', cap', junk, rfl, h2, h3, ?_, H.at 0 rfl, H.fix.below⟩
  rcases H.mine 0 _ rfl g' rfl with h | h
  · exact h
  · exact h.elim

theorem len_calls {w : World} {g : Nat} {D : DS} {own rd : Nat → Prop} (hd : DiskIs w g D own rd) :
    Calls Tryz.prog 40 #[.pointer (some ⟨g, 0, none⟩)] w fun e w' => e = .returned (.int .i64 (D.last.length : Int)) ∧ w = w' := by
  obtain ⟨gl, gm, cap, rows, junk, M, tv, hf, h3, h4, H⟩ := hd.open_
  clear hd
  go_enter Tryz.func40, Tryz.ntmps40
  go_wp2_with (first | (refine wpList_load1_st rfl 75 _ rfl _ _ rfl _ _ _ (H.at 0 rfl) _ Tryz.underlying75 rfl _ (dRow0 _ _ _ _ _ _ _ _ _ _) ?_))
  go_ret
  exact ⟨rfl, rfl⟩

theorem len_nil (w : World) : Calls Tryz.prog 40 #[.pointer none] w fun e w' => e = .returned (.int .i64 0) ∧ w = w' := by
  go_enter Tryz.func40, Tryz.ntmps40
  go_wp2
  go_ret
  exact ⟨rfl, rfl⟩

/-- What may says. -/
def DS.may (D : DS) (i : Int) : Int := if D.dead then 12 else if i < 0 ∨ (D.last.length : Int) ≤ i then 1 else 0

theorem may_calls {w : World} {g : Nat} {D : DS} {own rd : Nat → Prop} (hd : DiskIs w g D own rd) (i : Int) :
    Calls Tryz.prog 57 #[.pointer (some ⟨g, 0, none⟩), .int .i64 i] w fun e w' => e = .returned (.int .i64 (D.may i)) ∧ w = w' := by
  have HL := Lib.hid (len_calls hd)
  obtain ⟨gl, gm, cap, rows, junk, M, tv, hf, h3, h4, H⟩ := hd.open_
  have h32 : (32 : Int) ≤ (D.last.length : Int) := by have := hf.n1; omega
  have b1 : ((D.last.length : Int) == 0) = false := beq_eq_false_iff_ne.2 (by omega)
  cases hdd : D.dead
  · rw [hdd] at H
    by_cases h1 : i < 0
    · have hm : D.may i = 1 := by simp [DS.may, hdd, h1]
      rw [hm]
      have b2 : decide (i < 0) = true := by simp [h1]
      clear hd hm h1 hf h3 h4
      generalize hn : (D.last.length : Int) = n at *
      go_enter Tryz.func57, Tryz.ntmps57
      go_wp2_with (first | (refine wpList_load1_st rfl 75 _ rfl _ _ rfl _ _ _ (H.at 0 rfl) _ Tryz.underlying75 rfl _ (dRow0 _ _ _ _ _ _ _ _ _ _) ?_) | (refine wpList_load1_st rfl 4 _ rfl _ _ rfl _ _ _ (H.at 0 rfl) _ Tryz.underlying4 rfl _ (dRow2 _ _ _ _ _ _ _ _ _ _) ?_) | (go_at_call 40; (with_reducible refine (HL.out).mono ?_); rintro e W' ⟨rfl, rfl⟩))
      go_ret
      exact ⟨rfl, rfl⟩
    · have b2 : decide (i < 0) = false := by simp [h1]
      by_cases h2 : (D.last.length : Int) ≤ i
      · have hm : D.may i = 1 := by simp [DS.may, hdd, h2]
        rw [hm]
        have b3 : decide ((D.last.length : Int) ≤ i) = true := by simp [h2]
        clear hd hm h1 h2 hf h3 h4
        go_enter Tryz.func57, Tryz.ntmps57
        go_wp2_with (first | (refine wpList_load1_st rfl 75 _ rfl _ _ rfl _ _ _ (H.at 0 rfl) _ Tryz.underlying75 rfl _ (dRow0 _ _ _ _ _ _ _ _ _ _) ?_) | (refine wpList_load1_st rfl 4 _ rfl _ _ rfl _ _ _ (H.at 0 rfl) _ Tryz.underlying4 rfl _ (dRow2 _ _ _ _ _ _ _ _ _ _) ?_) | (go_at_call 40; (with_reducible refine (HL.out).mono ?_); rintro e W' ⟨rfl, rfl⟩))
        go_ret
        exact ⟨rfl, rfl⟩
      · have hm : D.may i = 0 := by simp [DS.may, hdd, h1, h2]
        rw [hm]
        have b3 : decide ((D.last.length : Int) ≤ i) = false := by simp [h2]
        clear hd hm h1 h2 hf h3 h4
        go_enter Tryz.func57, Tryz.ntmps57
        go_wp2_with (first | (refine wpList_load1_st rfl 75 _ rfl _ _ rfl _ _ _ (H.at 0 rfl) _ Tryz.underlying75 rfl _ (dRow0 _ _ _ _ _ _ _ _ _ _) ?_) | (refine wpList_load1_st rfl 4 _ rfl _ _ rfl _ _ _ (H.at 0 rfl) _ Tryz.underlying4 rfl _ (dRow2 _ _ _ _ _ _ _ _ _ _) ?_) | (go_at_call 40; (with_reducible refine (HL.out).mono ?_); rintro e W' ⟨rfl, rfl⟩))
        go_ret
        exact ⟨rfl, rfl⟩
  · have hm : D.may i = 12 := by simp [DS.may, hdd]
    rw [hm]
    rw [hdd] at H
    clear hd hm hf h3 h4
    go_enter Tryz.func57, Tryz.ntmps57
    go_wp2_with (first | (refine wpList_load1_st rfl 75 _ rfl _ _ rfl _ _ _ (H.at 0 rfl) _ Tryz.underlying75 rfl _ (dRow0 _ _ _ _ _ _ _ _ _ _) ?_) | (refine wpList_load1_st rfl 4 _ rfl _ _ rfl _ _ _ (H.at 0 rfl) _ Tryz.underlying4 rfl _ (dRow2 _ _ _ _ _ _ _ _ _ _) ?_) | (go_at_call 40; (with_reducible refine (HL.out).mono ?_); rintro e W' ⟨rfl, rfl⟩))
    go_ret
    exact ⟨rfl, rfl⟩

theorem may_nil (i : Int) (w : World) :
    Calls Tryz.prog 57 #[.pointer none, .int .i64 i] w fun e w' => e = .returned (.int .i64 1) ∧ w = w' := by
  have HL := Lib.hid (len_nil w)
  go_enter Tryz.func57, Tryz.ntmps57
  go_wp2_with (first | (go_at_call 40; (with_reducible refine (HL.out).mono ?_); rintro e W' ⟨rfl, rfl⟩))
  go_ret
  exact ⟨rfl, rfl⟩

end Go.Proofs.YtajlhloapglafaaGreatDoor
