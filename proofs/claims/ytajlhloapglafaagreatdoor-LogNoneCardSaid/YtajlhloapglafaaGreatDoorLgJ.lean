/- The log's errors: bad, code, within. -/
import Derived.Test.YtajlhloapglafaaGreatDoorLgI
namespace Go.Proofs.YtajlhloapglafaaGreatDoor
open Go.RowKit
set_option linter.unusedSimpArgs false
set_option linter.unusedVariables false
set_option maxRecDepth 4000

/-- The variable that errors.As reads. -/
def errA : Asrt where
  own _ := False
  rd k := k = 0
  prop W := 0 < W.heap.size ∧ W.cell? ⟨0, 0, none⟩ = some (.iface 153 (.agg #[.pointer (some ⟨1, 86, none⟩)]))
  stable W W' h hp := by
    have hb := h 0 (.inr rfl)
    refine ⟨?_, (World.cell?_of_block (w := W) (a := ⟨0, 0, none⟩) hb).trans hp.2⟩
    rw [Array.getElem?_eq_getElem hp.1] at hb
    exact (Array.getElem?_eq_some_iff.1 hb).1
  bound W hp k hk := by
    rcases hk with hk | rfl
    · exact hk.elim
    · exact hp.1

def faultV (g : Nat) : Value := .iface 114 (.pointer (some ⟨g, 0, none⟩))
def faultO (c : Int) (inner : Value) : Obj := .cells #[.int .i64 c, inner] 118 (0, 0)

theorem zero_faultS : (Tryz.prog.info? 118).bind (·.zero) = some (.agg #[.int .i64 0, .nilIface]) := by kernel_rfl

theorem bad_no (c : Int) (hc : (c == 0) = false) (w : World) : Calls Tryz.prog 84 #[.int .i64 c] w fun e w' => ∃ ge, e = .returned (faultV ge) ∧ w.heap.size ≤ ge ∧ w'.heap[ge]? = some (faultO c .nilIface) ∧ Below w.heap.size w w' := by
  have H := St.nil NoBlk NoBlk w
  have hc2 : ¬ c = 0 := beq_eq_false_iff_ne.1 hc
  go_enter Tryz.func84, Tryz.ntmps84
  go_wp2_with (first
    | (refine wpList_alloc_st H rfl 118 rfl _ zero_faultS ?_; clear H; intro W ge H; simp only [List.nil_append] at H)
    | (refine wpList_store1_st H 0 rfl 27 _ _ rfl _ _ (.int .i64 c) rfl rfl rfl _ _ rfl rfl (by simp [Value.cells]) ?_; clear H; intro W H; simp only [List.set_cons_zero] at H)
    | (refine wpList_box_st H rfl 118 _ rfl (.agg #[.int .i64 c, .nilIface]) rfl ?_; clear H; intro W ge H; simp only [List.nil_append] at H))
  go_ret
  exact ⟨ge, rfl, by rcases H.mine 0 _ rfl ge rfl with h | h; exact h; exact h.elim, H.at 0 rfl, H.fix.below⟩

/-- errors.As of a fault, into a variable of ours. -/
theorem as_fault {M0 R0 : Nat → Prop} {w0 W : World} {L : List Asrt} (H : St M0 R0 w0 W L) (i : Nat) {gt : Nat} {old : Value} (hi : L[i]? = some (blk gt (.cells #[old] 114 (0, 0)))) (hg : errA.prop W) (ge : Nat) :
    Calls Tryz.prog 86 #[faultV ge, .iface 116 (.pointer (some ⟨gt, 0, none⟩))] W fun ev w' => ev = .returned (.bool true) ∧ St M0 R0 w0 w' (L.set i (blk gt (.cells #[.pointer (some ⟨ge, 0, none⟩)] 114 (0, 0)))) := by
  have hb : W.heap[gt]? = some (.cells #[old] 114 (0, 0)) := H.at i hi
  have hc : W.cell? ⟨gt, 0, none⟩ = some old := by rw [cell_of_row W gt 0 _ _ _ hb]; rfl
  have hf : W.frozen? ⟨gt, 0, none⟩ = false := frozen_of_row W gt 0 _ _ hb
  refine (as_hit ⟨ge, 0, none⟩ ⟨gt, 0, none⟩ old W hg.2 hc hf).mono ?_
  rintro ev w' ⟨rfl, rfl⟩
  refine ⟨rfl, ?_⟩
  have H1 := (((H.stay (Fix.alloc NoBlk _ (.cells #[.pointer (some ⟨gt, 0, none⟩)] 116))).stay (Fix.alloc NoBlk _ (.cells #[.pointer (some ⟨1, 116, none⟩), .pointer (some ⟨W.heap.size, 0, none⟩), .int .u64 150] 137))).stay (Fix.alloc NoBlk _ (.cells #[.pointer (some ⟨1, 116, none⟩), .pointer (some ⟨W.heap.size, 0, none⟩), .int .u64 150] 137))).stay (Fix.alloc NoBlk _ (.cells #[.pointer (some ⟨ge, 0, none⟩)] 114))
  exact H1.setCell i hi 0 _

theorem code_fault (ge : Nat) (c : Int) (inner : Value) (w : World) (hg : errA.prop w) (he : w.heap[ge]? = some (faultO c inner)) :
    Calls Tryz.prog 48 #[faultV ge] w fun e w' => e = .returned (.int .i64 c) ∧ Below w.heap.size w w' := by
  have H : St NoBlk (fun _ => True) w w [errA, imm ge (faultO c inner)] := St.reads_only [errA, imm ge (faultO c inner)] (by
    intro B hB
    simp only [List.mem_cons, List.not_mem_nil, or_false] at hB
    rcases hB with rfl | rfl
    · exact ⟨hg, fun _ h => h⟩
    · exact ⟨he, fun _ h => h⟩)
  clear hg he
  unfold faultV
  go_enter Tryz.func48, Tryz.ntmps48
  go_wp2_with (first
    | (refine wpList_alloc_st H rfl 114 rfl _ zero_fault ?_; clear H; intro W gf H; simp only [List.cons_append, List.nil_append] at H)
    | (go_at_call 86; go_loud ((refine (as_fault H 2 rfl (H.at 0 rfl) ge).mono ?_); rintro e W' ⟨rfl, H1⟩; clear H; have H := H1; clear H1; simp only [List.set_cons_zero, List.set_cons_succ] at H))
    | (refine wpList_load1_st rfl 114 _ rfl _ _ rfl _ _ _ (H.at 2 rfl) _ Tryz.underlying114 rfl _ rfl ?_)
    | (refine wpList_load1_st rfl 27 _ rfl _ _ rfl _ _ _ (H.at 1 rfl : _ = some (faultO c inner)) _ Tryz.underlying27 rfl _ rfl ?_))
  go_ret
  exact ⟨rfl, H.fix.below⟩

theorem within_fault (ge : Nat) (c : Int) (inner : Value) (w : World) (hg : errA.prop w) (he : w.heap[ge]? = some (faultO c inner)) :
    Calls Tryz.prog 81 #[faultV ge] w fun e w' => ∃ ge', e = .returned (faultV ge') ∧ w.heap.size ≤ ge' ∧ w'.heap[ge']? = some (faultO c (faultV ge)) ∧ Below w.heap.size w w' := by
  have HC := Lib.hid (code_fault ge c inner w hg he)
  have H := St.nil NoBlk NoBlk w
  clear hg he
  unfold faultV at HC ⊢
  go_enter Tryz.func81, Tryz.ntmps81
  go_wp2_with (first
    | (go_at_call 48; go_loud ((refine (HC.out).mono ?_); rintro e W ⟨rfl, hb⟩; replace H := H.stay (Fix.of_below hb _); clear hb))
    | (refine wpList_alloc_st H rfl 118 rfl _ zero_faultS ?_; clear H; intro W g2 H; simp only [List.nil_append] at H)
    | (refine wpList_store1_st H 0 rfl 27 _ _ rfl _ _ (.int .i64 c) rfl rfl rfl _ _ rfl rfl (by simp [Value.cells]) ?_; clear H; intro W H; simp only [List.set_cons_zero] at H)
    | (refine wpList_store1_st H 0 rfl 86 _ _ rfl _ _ _ rfl rfl rfl _ _ rfl rfl (by simp [Value.cells]) ?_; clear H; intro W H; simp only [List.set_cons_zero] at H))
  go_ret
  have H2 := H.alloc (faultO c (.iface 114 (.pointer (some ⟨ge, 0, none⟩))))
  exact ⟨W.heap.size, rfl, H.fix.size, H2.at 0 rfl, H2.fix.below⟩

end Go.Proofs.YtajlhloapglafaaGreatDoor
