/- The disk's small methods. -/
import Derived.Test.YtajlhloapglafaaGreatDoorDk2
namespace Go.Proofs.YtajlhloapglafaaGreatDoor
open Go.RowKit
set_option linter.unusedSimpArgs false
set_option linter.unusedVariables false
set_option maxRecDepth 4000

theorem St.sub {M0 R0 : Nat → Prop} {w0 W : World} {A : Asrt} {L' : List Asrt} (H : St M0 R0 w0 W [A]) (H' : St A.own A.rd W W L') : St M0 R0 w0 W L' := by
  refine ⟨H.fix, H'.all, H'.apart, fun i B hi k hk => ?_, fun i B hi k hk => ?_⟩
  · rcases H'.mine i B hi k hk with h | h
    · exact .inl (Nat.le_trans H.fix.size h)
    · exact H.mine 0 A rfl k h
  · rcases H'.reads i B hi k hk with h | h | h
    · exact .inl (Nat.le_trans H.fix.size h)
    · rcases H.mine 0 A rfl k h with h | h
      · exact .inl h
      · exact .inr (.inl h)
    · exact H.reads 0 A rfl k h

theorem results_none {P : Program} {fn : Func} {tmps : Array Value} {w : World} (h : fn.results = #[]) : (results fn tmps).run P w = .ok (.tuple #[]) w := by simp [results, h]

/-- The new own and reads of a call's disk. -/
theorem DiskTo.same {W : World} {g : Nat} {D : DS} {own rd : Nat → Prop} (h : DiskIs W g D own rd) : DiskTo W g own rd D W :=
  ⟨own, rd, h, Fix.refl _ _, fun _ h => .inl h, fun _ h => .inr (.inl h)⟩

theorem lives_calls {w : World} {g : Nat} {D : DS} {own rd : Nat → Prop} (hd : DiskIs w g D own rd) :
    Calls Tryz.prog 46 #[.pointer (some ⟨g, 0, none⟩)] w fun e w' => e = .returned (.int .i64 D.lives) ∧ w = w' := by
  obtain ⟨gl, gm, cap, rows, junk, M, tv, hf, h3, h4, H⟩ := hd.open_
  clear hd
  go_enter Tryz.func46, Tryz.ntmps46
  go_wp2_with (first | (refine wpList_load1_st rfl 3 _ rfl _ _ rfl _ _ _ (H.at 0 rfl) _ Tryz.underlying3 rfl _ (dRow9 _ _ _ _ _ _ _ _ _ _) ?_))
  go_ret
  exact ⟨rfl, rfl⟩

/-- fails: what it says, and the disk behind it. -/
def DS.failsB (D : DS) : Bool := D.armed && decide (D.n ≤ 0)

def DS.failsD (D : DS) : DS := if D.armed then (if D.n ≤ 0 then { D with dead := true, armed := false } else { D with n := D.n - 1 }) else D

theorem fails_calls {w : World} {g : Nat} {D : DS} {own rd : Nat → Prop} (hd : DiskIs w g D own rd) :
    Calls Tryz.prog 58 #[.pointer (some ⟨g, 0, none⟩)] w fun e w' => e = .returned (.bool D.failsB) ∧ DiskTo w g own rd D.failsD w' := by
  have hd0 := Lib.hid hd
  obtain ⟨gl, gm, cap, rows, junk, M, tv, hf, h3, h4, H⟩ := hd.open_
  clear hd
  have hlo := hf.nlo
  have hhi := hf.nhi
  have tok1 : True := trivial
  cases ha : D.armed
  · have e1 : D.failsB = false := by simp [DS.failsB, ha]
    have e2 : D.failsD = D := by simp [DS.failsD, ha]
    rw [e1, e2]
    rw [ha] at H
    clear e1 e2 ha
    go_enter Tryz.func58, Tryz.ntmps58
    go_wp2_with (first | (refine wpList_load1_st rfl 4 _ rfl _ _ rfl _ _ _ (H.at 0 rfl) _ Tryz.underlying4 rfl _ (dRow3 _ _ _ _ _ _ _ _ _ _) ?_))
    go_ret
    exact ⟨rfl, DiskTo.same hd0.out⟩
  · rw [ha] at H
    by_cases hn : D.n ≤ 0
    · have e1 : D.failsB = true := by simp [DS.failsB, ha, hn]
      have e2 : D.failsD = { D with dead := true, armed := false } := by simp [DS.failsD, ha, hn]
      rw [e1, e2]
      have b1 : decide (0 < D.n) = false := by simp; omega
      clear e1 e2 ha
      go_enter Tryz.func58, Tryz.ntmps58
      go_wp2_with (first | (refine wpList_load1_st rfl 4 _ rfl _ _ rfl _ _ _ (H.at 0 rfl) _ Tryz.underlying4 rfl _ (dRow3 _ _ _ _ _ _ _ _ _ _) ?_) | (refine wpList_load1_st rfl 3 _ rfl _ _ rfl _ _ _ (H.at 0 rfl) _ Tryz.underlying3 rfl _ (dRow4 _ _ _ _ _ _ _ _ _ _) ?_) | (refine wpList_store1_st H 0 rfl 4 _ _ rfl _ _ (.bool _) rfl rfl rfl _ _ rfl rfl (by simp [dRow]) ?_; clear H; intro W H; (try simp only [cells_arrV, List.nil_append, List.cons_append, List.set_cons_zero, List.set_cons_succ] at H); try simp only [dSet1, dSet2, dSet3, dSet4, dSet5, dSet6, dSet7, dSet8, dSet9] at H))
      go_ret
      refine ⟨rfl, H.disk (D' := { D with dead := true, armed := false }) ⟨hf.n1, hf.n2, hf.len, hf.part, hf.way, hf.torn, hf.nlo, hf.nhi⟩ gl gm cap rows junk M tv rd h3 h4 0 1 2 3 rfl rfl rfl rfl (by decide) (by decide) (by decide) (by decide) (by decide) (by decide)⟩
    · have e1 : D.failsB = false := by simp [DS.failsB, ha, hn]
      have e2 : D.failsD = { D with n := D.n - 1, armed := true } := by cases D; simp at ha; subst ha; simp [DS.failsD, hn]
      rw [e1, e2]
      have b1 : decide (0 < D.n) = true := by simp; omega
      clear e1 e2 ha
      go_enter Tryz.func58, Tryz.ntmps58
      go_wp2_with (first | (refine wpList_load1_st rfl 4 _ rfl _ _ rfl _ _ _ (H.at 0 rfl) _ Tryz.underlying4 rfl _ (dRow3 _ _ _ _ _ _ _ _ _ _) ?_) | (refine wpList_load1_st rfl 3 _ rfl _ _ rfl _ _ _ (H.at 0 rfl) _ Tryz.underlying3 rfl _ (dRow4 _ _ _ _ _ _ _ _ _ _) ?_) | (refine wpList_store1_st H 0 rfl 3 _ _ rfl _ _ (.int .i64 _) rfl rfl rfl _ _ rfl rfl (by simp [dRow]) ?_; clear H; intro W H; (try simp only [cells_arrV, List.nil_append, List.cons_append, List.set_cons_zero, List.set_cons_succ] at H); try simp only [dSet1, dSet2, dSet3, dSet4, dSet5, dSet6, dSet7, dSet8, dSet9] at H))
      go_ret
      refine ⟨rfl, H.disk (D' := { D with n := D.n - 1, armed := true }) ⟨hf.n1, hf.n2, hf.len, hf.part, hf.way, hf.torn, by show _ ≤ D.n - 1; omega, by show D.n - 1 ≤ _; omega⟩ gl gm cap rows junk M tv rd h3 h4 0 1 2 3 rfl rfl rfl rfl (by decide) (by decide) (by decide) (by decide) (by decide) (by decide)⟩

end Go.Proofs.YtajlhloapglafaaGreatDoor
