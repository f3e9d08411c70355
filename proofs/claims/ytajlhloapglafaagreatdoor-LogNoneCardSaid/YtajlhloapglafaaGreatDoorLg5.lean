/- The log's Format. -/
import Derived.Test.YtajlhloapglafaaGreatDoorLg4b
namespace Go.Proofs.YtajlhloapglafaaGreatDoor
open Go.RowKit
set_option linter.unusedSimpArgs false
set_option linter.unusedVariables false
set_option maxRecDepth 4000

/-- The disk behind j of Format's six steps. -/
def fmtD (D : DS) (N ring : Nat) : Nat → DS
  | 0 => D
  | 1 => D.fill 0 2 noSect
  | 2 => (D.fill 0 2 noSect).flushed
  | 3 => ((D.fill 0 2 noSect).flushed).fill 2 N noSect
  | 4 => (((D.fill 0 2 noSect).flushed).fill 2 N noSect).flushed
  | 5 => ((((D.fill 0 2 noSect).flushed).fill 2 N noSect).flushed).put 1 (anchorB 1 1 0 ring)
  | _ => (((((D.fill 0 2 noSect).flushed).fill 2 N noSect).flushed).put 1 (anchorB 1 1 0 ring)).flushed

def fV0 (gb g5 : Nat) : Value := .func (.func 41) #[] #[.pointer (some ⟨gb, 0, none⟩), .pointer (some ⟨g5, 0, none⟩)]
def fV1 (gd : Nat) : Value := .func (.func 21) #[.pointer (some ⟨gd, 0, none⟩)] #[]
def fV2 (gb g5 : Nat) : Value := .func (.func 43) #[] #[.pointer (some ⟨gb, 0, none⟩), .pointer (some ⟨g5, 0, none⟩)]
def fV4 (gb gr : Nat) : Value := .func (.func 44) #[] #[.pointer (some ⟨gb, 0, none⟩), .pointer (some ⟨gr, 0, none⟩)]
theorem fill_steps (gd gb gr g5 : Nat) (z : Value) (hz : z.cells = #[z]) : Instr.fill (fun i => some (i * 1, 1)) ((Array.range (6 * 1)).map (z.cells[· % z.cells.size]!)) [(0, fV0 gb g5), (1, fV1 gd), (2, fV2 gb g5), (3, fV1 gd), (4, fV4 gb gr), (5, fV1 gd)] =
    some #[fV0 gb g5, fV1 gd, fV2 gb g5, fV1 gd, fV4 gb gr, fV1 gd] := by rw [hz]; kernel_rfl

theorem size_fn : (Tryz.prog.info? 38).map (·.size) = some 1 := by kernel_rfl
theorem zero_fn : (Tryz.prog.info? 38).bind (·.zero) = some (.nilFunc) := by kernel_rfl
theorem zero_slice (T : TypeId) (h : T = 22) : (Tryz.prog.info? T).bind (·.zero) = some (.slice none 0 0) := by subst h; kernel_rfl

set_option maxHeartbeats 4000000 in
theorem format_calls {w : World} {gd : Nat} {D : DS} {own rd : Nat → Prop} (hd : DiskIs w gd D own rd) {N u : Nat} (hc : Calm D N u) (hu : u + 3 * N < 1000000) (z : Int) (ring : Nat) (hz : (ring : Int) = z) (h1 : 8 ≤ ring) (h2 : ring ≤ 512) (h3 : 8 + 2 + ring ≤ N) (h4 : N ≤ 1900) :
    Calls Tryz.prog 12 #[.pointer (some ⟨gd, 0, none⟩), .int .i64 z] w fun e w' => e = .returned (.int .i64 0) ∧ DiskTo w gd own rd (fmtD D N ring 6) w' := by
  subst hz
  have H : St own rd w w [dA gd D own rd] := St.one (A := dA gd D own rd) hd
  obtain ⟨y, hy⟩ : ∃ y, (D.last.length : Int) = y := ⟨_, rfl⟩
  have HY := Lib.hid hy
  have hyN : y = (N : Int) := by rw [← hy, hc.len]
  have HC := Lib.hid hc
  have HU := Lib.hid hu
  have b1 : (y == 0) = false := beq_eq_false_iff_ne.2 (by omega)
  have b2 : (8 : Int) ≤ (ring : Int) := by omega
  have b3 : (ring : Int) ≤ 512 := by omega
  have w1 : IntKind.i64.wrap (y - 2) = y - 2 := by rw [IntKind.wrap_i64]; omega
  have w2 : IntKind.i64.wrap (y - 2 - (ring : Int)) = y - 2 - (ring : Int) := by rw [IntKind.wrap_i64]; omega
  have b4 : 8 ≤ y - 2 - (ring : Int) := by omega
  have d1 : decide ((ring : Int) < 8) = false := decide_eq_false (by omega)
  have d2 : decide (512 < (ring : Int)) = false := decide_eq_false (by omega)
  have d3 : decide (y - 2 - (ring : Int) < 8) = false := decide_eq_false (by omega)
  have H3 := Lib.hid h3
  have H4 := Lib.hid h4
  clear hy hc hu hd h3 h4 hyN
  go_enter Tryz.func12, Tryz.ntmps12
  go_wp2_with (first
    | (refine wpList_box_st H rfl 25 _ rfl _ rfl ?_; clear H; intro W gb H; simp only [List.nil_append, List.cons_append] at H)
    | (refine wpList_box_st H rfl 3 _ rfl _ rfl ?_; clear H; intro W gr H; simp only [List.nil_append, List.cons_append] at H))
  replace H : St own rd w W [dA gd D own rd, blk gb (.cells #[.pointer (some ⟨gd, 0, none⟩)] 25 (0, 0)), blk gr (.cells #[.int .i64 (ring : Int)] 3 (0, 0))] := H
  replace H := H.drew
  have c0 := row_cell (H.at 1 rfl) (off := 0) (v := .pointer (some ⟨gd, 0, none⟩)) rfl
  have c1 := row_cell (H.at 2 rfl) (off := 0) (v := .int .i64 (ring : Int)) rfl
  go_region_held3 (fun w' => w'.cell? ⟨gb, 0, none⟩ = some (.pointer (some ⟨gd, 0, none⟩)) ∧ w'.cell? ⟨gr, 0, none⟩ = some (.int .i64 (ring : Int))) (first | exact ⟨c0, c1⟩) (first
    | (go_at_call 40; go_loud ((refine (len_calls (H.at 0 rfl)).mono ?_); rintro e W' ⟨rfl, rfl⟩; rw [HY.out])))
  clear c0 c1
  go_wp2_with (first
    | (refine wpList_make_st H rfl 22 _ _ rfl _ Tryz.underlying22 _ _ info_u8 rfl 256 rfl rfl (by omega) (by simp [maxLen]) ?_; clear H; intro W g H; rw [byteV_noSect] at H; simp only [List.nil_append, List.cons_append] at H; replace H := H.toBy 3 rfl; simp only [List.set_cons_zero, List.set_cons_succ] at H)
    | (refine wpList_alloc_st H rfl 22 rfl _ zero_row ?_; clear H; intro W g5 H; simp only [List.nil_append, List.cons_append] at H)
    | (refine wpList_store1_st H 4 rfl 22 _ _ rfl _ _ (.slice _ _ _) rfl rfl rfl _ _ rfl size_row (by simp [Value.cells]) ?_; clear H; intro W H; simp only [List.set_cons_zero, List.set_cons_succ] at H; replace H : St own rd w W [dA gd D own rd, blk gb (.cells #[.pointer (some ⟨gd, 0, none⟩)] 25 (0, 0)), blk gr (.cells #[.int .i64 (ring : Int)] 3 (0, 0)), byA g 0 noSect, blk g5 (.cells #[.slice (some ⟨g, 0, none⟩) 256 256] 22 (0, 0))] := H)
    | (refine wpList_load1_st rfl 25 _ rfl _ _ rfl _ _ _ (H.at 1 rfl) _ Tryz.underlying25 rfl (.pointer (some ⟨gd, 0, none⟩)) rfl ?_)
    | (refine wpList_buildslice_st H rfl 82 38 _ _ rfl Tryz.underlying82 _ size_fn _ zero_fn (by decide) (by decide) [(0, fV0 gb g5), (1, fV1 gd), (2, fV2 gb g5), (3, fV1 gd), (4, fV4 gb gr), (5, fV1 gd)] (by simp [Act.eval, fV0, fV1, fV2, fV4]) #[fV0 gb g5, fV1 gd, fV2 gb g5, fV1 gd, fV4 gb gr, fV1 gd] (fill_steps gd gb gr g5 _ rfl) ?_; clear H; intro W gs H; simp only [List.nil_append, List.cons_append] at H))
  have H' : St own rd w W (fmtL gd gb gr g g5 D own rd ring ++ [blk gs (.cells #[fV0 gb g5, fV1 gd, fV2 gb g5, fV1 gd, fV4 gb gr, fV1 gd] 38 (0, 0))]) := by
    refine H.pick (fun m => [0, 3, 1, 2, 4, 5].getD m 0) ?_ ?_
    · intro m C hm
      rcases m with _ | _ | _ | _ | _ | _ | m
      · exact hm
      · exact hm
      · exact hm
      · exact hm
      · exact hm
      · exact hm
      · simp [fmtL] at hm
    · intro m l hm hl e
      have hm6 : m < 6 := hm
      have hl6 : l < 6 := hl
      rcases m with _ | _ | _ | _ | _ | _ | m <;> rcases l with _ | _ | _ | _ | _ | _ | l <;> first | rfl | omega | (simp at e)
  clear H
  have H := H'
  clear H'
  go_loopw [42, 8, 9] (fun i _ _ wr => ∃ (j : Nat) (own' rd' : Nat → Prop), i = .int .i64 (j : Int) ∧ j ≤ 6 ∧
      St own rd w wr (fmtL gd gb gr g g5 (fmtD D N ring j) own' rd' ring ++ [blk gs (.cells #[fV0 gb g5, fV1 gd, fV2 gb g5, fV1 gd, fV4 gb gr, fV1 gd] 38 (0, 0))])) (fun i _ _ _ => 6 - (intOf i).toNat)
  case atStart => exact ⟨0, own, rd, rfl, by omega, H⟩
  case round =>
    clear H
    obtain ⟨j, own', rd', rfl, hj, H⟩ := hrel
    have hcell : ∀ i v, (#[fV0 gb g5, fV1 gd, fV2 gb g5, fV1 gd, fV4 gb gr, fV1 gd] : Array Value)[i]? = some v → wr.cell? ⟨gs, i, none⟩ = some v := fun i v hv => row_cell (H.at 5 rfl) hv
    rcases (show j = 0 ∨ j = 1 ∨ j = 2 ∨ j = 3 ∨ j = 4 ∨ j = 5 ∨ j = 6 by omega) with rfl | rfl | rfl | rfl | rfl | rfl | rfl
    · have hv := hcell 0 (fV0 gb g5) rfl
      clear hcell
      simp only [fV0, fV1, fV2, fV4] at hv
      go_wp2_with (first
        | (go_at_call 41; go_loud ((refine (fmt1_calls (gd := gd) (gb := gb) (gr := gr) (g := g) (g5 := g5) (D := fmtD D N ring 0) (own := own') (rd := rd') (ring := ring) (H.take 5).bundle HC.out (by have := HU.out; have := H3.out; omega) (by have := HU.out; have := H3.out; omega)).mono ?_); rintro e W ⟨rfl, own1, rd1, hto⟩; replace H := hto.front (R := [blk gs _]) H; clear hto hv)))
      go_roundw
      case rel => exact ⟨1, own1, rd1, rfl, by omega, H⟩
      case measure => simp [intOf]
    · have hv := hcell 1 (fV1 gd) rfl
      clear hcell
      simp only [fV0, fV1, fV2, fV4] at hv
      go_wp2_with (first
        | (go_at_call 21; go_loud ((refine (flush_calm (H.at 0 rfl) ((HC.out.fill 0 2 noSect))).mono ?_); rintro e W ⟨rfl, hto⟩; obtain ⟨own1, rd1, H1⟩ := DiskTo.step H 0 rfl hto; clear hto H hv; have H := H1; clear H1)))
      go_roundw
      case rel => exact ⟨2, own1, rd1, rfl, by omega, H⟩
      case measure => simp [intOf]
    · have hv := hcell 2 (fV2 gb g5) rfl
      clear hcell
      simp only [fV0, fV1, fV2, fV4] at hv
      go_wp2_with (first
        | (go_at_call 43; go_loud ((refine (fmt2_calls (gd := gd) (gb := gb) (gr := gr) (g := g) (g5 := g5) (D := fmtD D N ring 2) (own := own') (rd := rd') (ring := ring) (H.take 5).bundle ((HC.out.fill 0 2 noSect).flushed) (by have := HU.out; have := H3.out; omega) (by have := HU.out; have := H3.out; omega)).mono ?_); rintro e W ⟨rfl, own1, rd1, hto⟩; replace H := hto.front (R := [blk gs _]) H; clear hto hv)))
      go_roundw
      case rel => exact ⟨3, own1, rd1, rfl, by omega, H⟩
      case measure => simp [intOf]
    · have hv := hcell 3 (fV1 gd) rfl
      clear hcell
      simp only [fV0, fV1, fV2, fV4] at hv
      go_wp2_with (first
        | (go_at_call 21; go_loud ((refine (flush_calm (H.at 0 rfl) ((((HC.out.fill 0 2 noSect).flushed).fill 2 N noSect))).mono ?_); rintro e W ⟨rfl, hto⟩; obtain ⟨own1, rd1, H1⟩ := DiskTo.step H 0 rfl hto; clear hto H hv; have H := H1; clear H1)))
      go_roundw
      case rel => exact ⟨4, own1, rd1, rfl, by omega, H⟩
      case measure => simp [intOf]
    · have hv := hcell 4 (fV4 gb gr) rfl
      clear hcell
      simp only [fV0, fV1, fV2, fV4] at hv
      go_wp2_with (first
        | (go_at_call 44; go_loud ((refine (fmt3_calls (gd := gd) (gb := gb) (gr := gr) (g := g) (g5 := g5) (D := fmtD D N ring 4) (own := own') (rd := rd') (ring := ring) (H.take 5).bundle ((((HC.out.fill 0 2 noSect).flushed).fill 2 N noSect).flushed) (by have := HU.out; have := H3.out; omega) (by have := HU.out; have := H3.out; omega) (by omega)).mono ?_); rintro e W ⟨rfl, own1, rd1, hto⟩; replace H := hto.front (R := [blk gs _]) H; clear hto hv)))
      go_roundw
      case rel => exact ⟨5, own1, rd1, rfl, by omega, H⟩
      case measure => simp [intOf]
    · have hv := hcell 5 (fV1 gd) rfl
      clear hcell
      simp only [fV0, fV1, fV2, fV4] at hv
      go_wp2_with (first
        | (go_at_call 21; go_loud ((refine (flush_calm (H.at 0 rfl) ((((((HC.out.fill 0 2 noSect).flushed).fill 2 N noSect).flushed).put 1 (anchorB 1 1 0 ring)))).mono ?_); rintro e W ⟨rfl, hto⟩; obtain ⟨own1, rd1, H1⟩ := DiskTo.step H 0 rfl hto; clear hto H hv; have H := H1; clear H1)))
      go_roundw
      case rel => exact ⟨6, own1, rd1, rfl, by omega, H⟩
      case measure => simp [intOf]
    · clear hcell
      go_wp2
      go_ret
      exact ⟨rfl, own', rd', H.at 0 rfl, H.fix, fun k hk => (H.mine 0 _ rfl k hk).symm, fun k hk => by
        rcases H.reads 0 _ rfl k hk with h | h | h
        · exact .inr (.inr h)
        · exact .inl h
        · exact .inr (.inl h)⟩

end Go.Proofs.YtajlhloapglafaaGreatDoor
