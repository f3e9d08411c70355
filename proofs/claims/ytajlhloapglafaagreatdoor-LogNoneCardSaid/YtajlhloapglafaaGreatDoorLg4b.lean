/- Format's three closures. -/
import Derived.Test.YtajlhloapglafaaGreatDoorLg4
namespace Go.Proofs.YtajlhloapglafaaGreatDoor
open Go.RowKit
set_option linter.unusedSimpArgs false
set_option linter.unusedVariables false
set_option maxRecDepth 4000

/-- What Format's closures hold: the disk, the noughts, the variables d, ring, none. -/
def fmtL (gd gb gr g g5 : Nat) (D : DS) (own rd : Nat → Prop) (ring : Nat) : List Asrt :=
  [dA gd D own rd, byA g 0 noSect, blk gb (.cells #[.pointer (some ⟨gd, 0, none⟩)] 25 (0, 0)), blk gr (.cells #[.int .i64 (ring : Int)] 3 (0, 0)), blk g5 (.cells #[.slice (some ⟨g, 0, none⟩) 256 256] 22 (0, 0))]

theorem fmt1_calls {w : World} {gd gb gr g g5 : Nat} {D : DS} {own rd : Nat → Prop} {ring : Nat} (hb : Bundle w (fmtL gd gb gr g g5 D own rd ring)) {N u : Nat} (hc : Calm D N u) (hu : u + N < 1000000) (hN : 2 ≤ N) :
    Calls Tryz.prog 41 #[.pointer (some ⟨gb, 0, none⟩), .pointer (some ⟨g5, 0, none⟩)] w fun e w' => e = .returned (.int .i64 0) ∧ ∃ own' rd', BunTo w (ownL (fmtL gd gb gr g g5 D own rd ring)) (rdL (fmtL gd gb gr g g5 D own rd ring)) (fmtL gd gb gr g g5 (D.fill 0 2 noSect) own' rd' ring) w' := by
  have H := hb.open_
  have HC := Lib.hid hc
  have HU := Lib.hid hu
  have HN := Lib.hid hN
  clear hb hc hu hN
  go_enter Tryz.func41, Tryz.ntmps41
  go_wp2_with (first
    | (refine wpList_load1_st rfl 25 _ rfl _ _ rfl _ _ _ (H.at 2 rfl) _ Tryz.underlying25 rfl (.pointer (some ⟨gd, 0, none⟩)) rfl ?_)
    | (refine wpList_load1_st rfl 22 _ rfl _ _ rfl _ _ _ (H.at 4 rfl) _ Tryz.underlying22 rfl (.slice (some ⟨g, 0, none⟩) 256 256) rfl ?_)
    | (go_at_call 42; go_loud ((with_reducible refine (fill_calls (gd := gd) (g := g) (off := 0) (cap := 256) (D := D) (own := own) (rd := rd) (l := noSect) (H.take 2).bundle HC.out HU.out 0 2 0 2 (by decide) (by decide) (by omega) HN.out noSect_len (by omega)).mono ?_); rintro e W ⟨rfl, own1, rd1, hto⟩; replace H := hto.front (R := [blk gb _, blk gr _, blk g5 _]) H; clear hto; simp only [List.nil_append, List.cons_append] at H)))
  go_ret
  exact ⟨rfl, own1, rd1, H.bunTo⟩

theorem fmt2_calls {w : World} {gd gb gr g g5 : Nat} {D : DS} {own rd : Nat → Prop} {ring : Nat} (hb : Bundle w (fmtL gd gb gr g g5 D own rd ring)) {N u : Nat} (hc : Calm D N u) (hu : u + N < 1000000) (hN : 2 ≤ N) :
    Calls Tryz.prog 43 #[.pointer (some ⟨gb, 0, none⟩), .pointer (some ⟨g5, 0, none⟩)] w fun e w' => e = .returned (.int .i64 0) ∧ ∃ own' rd', BunTo w (ownL (fmtL gd gb gr g g5 D own rd ring)) (rdL (fmtL gd gb gr g g5 D own rd ring)) (fmtL gd gb gr g g5 (D.fill 2 N noSect) own' rd' ring) w' := by
  have H := hb.open_
  have HC := Lib.hid hc
  have HU := Lib.hid hu
  have HN := Lib.hid hN
  have HL := Lib.hid (congrArg (fun n : Nat => (n : Int)) hc.len)
  clear hb hc hu hN
  go_enter Tryz.func43, Tryz.ntmps43
  go_wp2
  replace H := H.drew
  have c0 := row_cell (H.at 2 rfl) (off := 0) (v := .pointer (some ⟨gd, 0, none⟩)) rfl
  have c1 := row_cell (H.at 4 rfl) (off := 0) (v := .slice (some ⟨g, 0, none⟩) 256 256) rfl
  go_region_held3 (fun w' => w'.cell? ⟨gb, 0, none⟩ = some (.pointer (some ⟨gd, 0, none⟩)) ∧ w'.cell? ⟨g5, 0, none⟩ = some (.slice (some ⟨g, 0, none⟩) 256 256)) (first | exact ⟨c0, c1⟩ | exact ⟨d0, d1⟩) (first
    | (go_at_call 40; go_loud ((refine (len_calls (H.at 0 rfl)).mono ?_); rintro e W' ⟨rfl, rfl⟩; rw [HL.out]))
    | (go_at_call 42; go_loud ((refine (fill_calls (gd := gd) (g := g) (off := 0) (cap := 256) (D := D) (own := own) (rd := rd) (l := noSect) (H.take 2).bundle HC.out HU.out 2 N 2 _ (by decide) rfl HN.out (Nat.le_refl _) noSect_len (by omega)).mono ?_); rintro e W ⟨rfl, own1, rd1, hto⟩; replace H := hto.front (R := [blk gb _, blk gr _, blk g5 _]) H; clear hto; simp only [List.nil_append, List.cons_append] at H; have d0 := row_cell (H.at 2 rfl) (off := 0) (v := .pointer (some ⟨gd, 0, none⟩)) rfl; have d1 := row_cell (H.at 4 rfl) (off := 0) (v := .slice (some ⟨g, 0, none⟩) 256 256) rfl)))
  go_wp2
  go_ret
  exact ⟨rfl, own1, rd1, H.bunTo⟩

theorem fmt3_calls {w : World} {gd gb gr g g5 : Nat} {D : DS} {own rd : Nat → Prop} {ring : Nat} (hb : Bundle w (fmtL gd gb gr g g5 D own rd ring)) {N u : Nat} (hc : Calm D N u) (hu : u + N < 1000000) (hN : 2 ≤ N) (hr : ring < 1000000) :
    Calls Tryz.prog 44 #[.pointer (some ⟨gb, 0, none⟩), .pointer (some ⟨gr, 0, none⟩)] w fun e w' => e = .returned (.int .i64 0) ∧ ∃ own' rd', BunTo w (ownL (fmtL gd gb gr g g5 D own rd ring)) (rdL (fmtL gd gb gr g g5 D own rd ring)) (fmtL gd gb gr g g5 (D.put 1 (anchorB 1 1 0 ring)) own' rd' ring) w' := by
  have H := hb.open_
  have HC := Lib.hid hc
  have HU := Lib.hid hu
  have HN := Lib.hid hN
  have HR := Lib.hid hr
  clear hb hc hu hN
  go_enter Tryz.func44, Tryz.ntmps44
  go_wp2
  replace H := H.drew
  have c0 := row_cell (H.at 2 rfl) (off := 0) (v := .pointer (some ⟨gd, 0, none⟩)) rfl
  have c1 := row_cell (H.at 3 rfl) (off := 0) (v := .int .i64 (ring : Int)) rfl
  go_region_held3 (fun w' => w'.cell? ⟨gb, 0, none⟩ = some (.pointer (some ⟨gd, 0, none⟩)) ∧ w'.cell? ⟨gr, 0, none⟩ = some (.int .i64 (ring : Int))) (first | exact ⟨c0, c1⟩ | exact ⟨d0, d1⟩ | exact ⟨e0, e1⟩) (first
    | (go_at_call 45; go_loud ((refine (bytes_calls 1 1 0 ring _ (by omega) (by omega) (by omega) HR.out).mono ?_); rintro e W ⟨ga, capa, junka, rfl, hl6, hc6, hj6, hm6, hg6, hb6, hbl⟩; replace H := H.add (Fix.of_below hbl _) (blk ga _) hb6 (fun k hk => by rw [show k = ga from hk]; exact hg6) (fun k hk => hk.elim); clear hb6 hbl; simp only [fmtL, List.nil_append, List.cons_append] at H; have d0 := row_cell (H.at 2 rfl) (off := 0) (v := .pointer (some ⟨gd, 0, none⟩)) rfl; have d1 := row_cell (H.at 3 rfl) (off := 0) (v := .int .i64 (ring : Int)) rfl))
    | (go_at_call 20; go_loud ((refine (write_calm (H.at 0 rfl) HC.out (by have := HU.out; omega) 1 1 (by decide) (by have := HN.out; omega) _ (anchorB 1 1 0 ring) (argB_front (H.at 5 rfl) (H.notown 5 0 rfl rfl (by decide)) hl6 hc6 (by omega)) hl6).mono ?_); rintro e W2 ⟨rfl, hto⟩; obtain ⟨own1, rd1, H1⟩ := DiskTo.step H 0 rfl hto; clear hto H; have H := H1; clear H1; simp only [List.set_cons_zero, List.set_cons_succ] at H; have e0 := row_cell (H.at 2 rfl) (off := 0) (v := .pointer (some ⟨gd, 0, none⟩)) rfl; have e1 := row_cell (H.at 3 rfl) (off := 0) (v := .int .i64 (ring : Int)) rfl)))
  go_wp2
  go_ret
  exact ⟨rfl, own1, rd1, (H.take 5).bunTo⟩

end Go.Proofs.YtajlhloapglafaaGreatDoor
