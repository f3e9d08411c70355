/- The log: write, flush, homes, none, may, Homes, Turn, Free. -/
import Derived.Test.YtajlhloapglafaaGreatDoorLg1
namespace Go.Proofs.YtajlhloapglafaaGreatDoor
open Go.RowKit
set_option linter.unusedSimpArgs false
set_option linter.unusedVariables false
set_option maxRecDepth 4000

theorem ArgB.sub {w : World} {own own' : Nat → Prop} {v : Value} {l : List UInt8} (h : ArgB w own v l) (hs : ∀ k, own' k → own k) : ArgB w own' v l := by
  obtain ⟨⟨g, off, cap, h1, h2, h3, h4⟩, h5⟩ := h
  refine ⟨⟨g, off, cap, h1, h2, h3, ?_⟩, h5⟩
  rcases h4 with h4 | ⟨h4, h6⟩
  · exact .inl h4
  · exact .inr ⟨h4, fun e => h6 (hs _ e)⟩

theorem ownL_disk {g gd gm : Nat} {X : LS} {M : DataW Value} {rm : Nat → Prop} {n : Nat} {D : DS} {own rd : Nat → Prop} : ∀ k, own k → ownL (logL g gd gm X M rm n D own rd) k :=
  fun k hk => ⟨_, List.mem_cons_of_mem _ (List.mem_cons_of_mem _ (List.mem_cons_of_mem _ (List.mem_cons_self ..))), hk⟩

/-- A block beside the bundle is none of it. -/
theorem St.notownL {M0 R0 : Nat → Prop} {w0 W : World} {Ls R : List Asrt} (H : St M0 R0 w0 W (Ls ++ R)) (j : Nat) {g : Nat} {x : Obj} (hj : R[j]? = some (blk g x)) : ¬ ownL Ls g := by
  rintro ⟨A, hA, hk⟩
  obtain ⟨i, hi⟩ := List.getElem?_of_mem hA
  have hil := (List.getElem?_eq_some_iff.1 hi).1
  refine (H.apart (Ls.length + j) i _ A (by rw [List.getElem?_append_right (by omega), Nat.add_sub_cancel_left]; exact hj) (by rw [List.getElem?_append_left hil]; exact hi) (by omega)).1 g rfl hk

/-- A log that is fine, on a disk that does not fail. -/
structure LogFine (X : LS) (n : Nat) (D : DS) (N u : Nat) : Prop where
  calm : Calm D N u
  fits : n + 2 + X.ring = N
  top : N ≤ 1900
  r1 : 8 ≤ X.ring
  r2 : X.ring ≤ 512
  n1 : 8 ≤ n
  place : X.place < X.ring
  lives : X.lives = D.lives
  full : (∀ k, X.m k = none) → X.free = (X.ring : Int)
  free : 0 ≤ X.free ∧ X.free ≤ (X.ring : Int)
  turn : 1 ≤ X.turn
  s : 1 ≤ X.s

theorem lwrite_ok {w : World} {g gd gm : Nat} {X : LS} {M : DataW Value} {rm : Nat → Prop} {n : Nat} {D : DS} {own rd : Nat → Prop} (hb : Bundle w (logL g gd gm X M rm n D own rd)) {N u : Nat} (hc : Calm D N u) (hu : u < 1000000) (z : Int) (k : Nat) (hz : (k : Int) = z) (hk : k < N)
    (v : Value) (l : List UInt8) (hv : ArgB w (ownL (logL g gd gm X M rm n D own rd)) v l) (hl : l.length = 256) :
    Calls Tryz.prog 88 #[.pointer (some ⟨g, 0, none⟩), .int .i64 z, v] w fun e w' => e = .returned .nilIface ∧ ∃ own' rd',
      BunTo w (ownL (logL g gd gm X M rm n D own rd)) (rdL (logL g gd gm X M rm n D own rd)) (logL g gd gm X M rm n (D.put k l) own' rd') w' := by
  have H := hb.open_
  have HC := Lib.hid hc
  have HK := Lib.hid hk
  have HU := Lib.hid hu
  have HZ := Lib.hid hz
  have HV := Lib.hid (hv.sub ownL_disk)
  have HL := Lib.hid hl
  clear hb hc hk hu hz hv hl
  go_enter Tryz.func88, Tryz.ntmps88
  go_wp2_with (first
    | (refine wpList_load1_st rfl 25 _ rfl _ _ rfl _ _ _ (H.at 0 rfl) _ Tryz.underlying25 rfl _ (lRow0 _ _ _ _ _ _ _ _ _) ?_)
    | (go_at_call 20; go_loud ((with_reducible refine (write_calm (H.at 3 rfl) HC.out HU.out _ k HZ.out HK.out _ l HV.out HL.out).mono ?_); rintro e W ⟨rfl, hto⟩; obtain ⟨own1, rd1, H1⟩ := DiskTo.step H 3 rfl hto; clear hto H HV; have H := H1; clear H1; simp only [logL, List.set_cons_zero, List.set_cons_succ] at H))
    | (go_at_call 92; go_loud ((with_reducible refine (does_ok (g := g) (gd := gd) (gm := gm) (X := X) (M := M) (rm := rm) (n := n) (D := D.put k l) (own := own1) (rd := rd1) H.bundle).mono ?_); rintro e W' ⟨rfl, hto⟩; replace H := hto.front (R := []) H; clear hto; simp only [logL, List.nil_append, List.cons_append, List.append_nil] at H)))
  go_ret
  exact ⟨rfl, own1, rd1, H.bunTo⟩

theorem lflush_ok {w : World} {g gd gm : Nat} {X : LS} {M : DataW Value} {rm : Nat → Prop} {n : Nat} {D : DS} {own rd : Nat → Prop} (hb : Bundle w (logL g gd gm X M rm n D own rd)) {N u : Nat} (hc : Calm D N u) :
    Calls Tryz.prog 90 #[.pointer (some ⟨g, 0, none⟩)] w fun e w' => e = .returned .nilIface ∧ ∃ own' rd',
      BunTo w (ownL (logL g gd gm X M rm n D own rd)) (rdL (logL g gd gm X M rm n D own rd)) (logL g gd gm X M rm n D.flushed own' rd') w' := by
  have H := hb.open_
  have HC := Lib.hid hc
  clear hb hc
  go_enter Tryz.func90, Tryz.ntmps90
  go_wp2_with (first
    | (refine wpList_load1_st rfl 25 _ rfl _ _ rfl _ _ _ (H.at 0 rfl) _ Tryz.underlying25 rfl _ (lRow0 _ _ _ _ _ _ _ _ _) ?_)
    | (go_at_call 21; go_loud ((with_reducible refine (flush_calm (H.at 3 rfl) HC.out).mono ?_); rintro e W ⟨rfl, hto⟩; obtain ⟨own1, rd1, H1⟩ := DiskTo.step H 3 rfl hto; clear hto H; have H := H1; clear H1; simp only [logL, List.set_cons_zero, List.set_cons_succ] at H))
    | (go_at_call 92; go_loud ((with_reducible refine (does_ok (g := g) (gd := gd) (gm := gm) (X := X) (M := M) (rm := rm) (n := n) (D := D.flushed) (own := own1) (rd := rd1) H.bundle).mono ?_); rintro e W' ⟨rfl, hto⟩; replace H := hto.front (R := []) H; clear hto; simp only [logL, List.nil_append, List.cons_append, List.append_nil] at H)))
  go_ret
  exact ⟨rfl, own1, rd1, H.bunTo⟩

theorem homes_ok {w : World} {g gd gm : Nat} {X : LS} {M : DataW Value} {rm : Nat → Prop} {n : Nat} {D : DS} {own rd : Nat → Prop} (hb : Bundle w (logL g gd gm X M rm n D own rd)) {N : Nat} (hN : D.last.length = N) (hf : n + 2 + X.ring = N) (ht : N ≤ 1900) :
    Calls Tryz.prog 50 #[.pointer (some ⟨g, 0, none⟩)] w fun e w' => e = .returned (.int .i64 (n : Int)) ∧
      BunTo w (ownL (logL g gd gm X M rm n D own rd)) (rdL (logL g gd gm X M rm n D own rd)) (logL g gd gm X M rm n D own rd) w' := by
  have H := hb.open_
  obtain ⟨y, hy⟩ : ∃ y, (D.last.length : Int) = y := ⟨_, rfl⟩
  have HY := Lib.hid hy
  have h1 : 0 ≤ (X.ring : Int) := by omega
  have h2 : (X.ring : Int) ≤ y - 2 := by omega
  have h3 : y ≤ 1900 := by omega
  have w1 : IntKind.i64.wrap (y - 2) = y - 2 := by rw [IntKind.wrap_i64]; omega
  have w2 : IntKind.i64.wrap (y - 2 - (X.ring : Int)) = (n : Int) := by rw [IntKind.wrap_i64]; omega
  clear hb hy hN hf ht
  go_enter Tryz.func50, Tryz.ntmps50
  go_wp2
  replace H := H.drew
  have c0 := row_cell (H.at 0 rfl) (lRow0 _ _ _ _ _ _ _ _ _)
  have c6 := row_cell (H.at 0 rfl) (lRow6 _ _ _ _ _ _ _ _ _)
  go_region_held3 (fun w' => w'.cell? ⟨g, 0, none⟩ = some (.pointer (some ⟨gd, 0, none⟩)) ∧ w'.cell? ⟨g, 6, none⟩ = some (.int .i64 (X.ring : Int))) (first | exact ⟨c0, c6⟩) (first
    | (go_at_call 40; go_loud ((refine (len_calls (H.at 3 rfl)).mono ?_); rintro e W' ⟨rfl, rfl⟩; rw [HY.out])))
  go_wp2
  go_ret
  exact ⟨rfl, H.bunTo⟩

theorem none_ok {w : World} {g gd gm : Nat} {X : LS} {M : DataW Value} {rm : Nat → Prop} {n : Nat} {D : DS} {own rd : Nat → Prop} (hb : Bundle w (logL g gd gm X M rm n D own rd)) :
    Calls Tryz.prog 49 #[.pointer (some ⟨g, 0, none⟩)] w fun e w' => e = .returned (.bool false) ∧ w = w' := by
  have H := hb.open_
  clear hb
  go_enter Tryz.func49, Tryz.ntmps49
  go_wp2_with (first | (refine wpList_load1_st rfl 25 _ rfl _ _ rfl _ _ _ (H.at 0 rfl) _ Tryz.underlying25 rfl _ (lRow0 _ _ _ _ _ _ _ _ _) ?_))
  go_ret
  exact ⟨rfl, rfl⟩

theorem none_nil (w : World) : Calls Tryz.prog 49 #[.pointer none] w fun e w' => e = .returned (.bool true) ∧ w = w' := by
  go_enter Tryz.func49, Tryz.ntmps49
  go_wp2
  go_ret
  exact ⟨rfl, rfl⟩

theorem may_ok {w : World} {g gd gm : Nat} {X : LS} {M : DataW Value} {rm : Nat → Prop} {n : Nat} {D : DS} {own rd : Nat → Prop} (hb : Bundle w (logL g gd gm X M rm n D own rd)) (hl : X.lives = D.lives) :
    Calls Tryz.prog 51 #[.pointer (some ⟨g, 0, none⟩)] w fun e w' => e = .returned (.int .i64 0) ∧
      BunTo w (ownL (logL g gd gm X M rm n D own rd)) (rdL (logL g gd gm X M rm n D own rd)) (logL g gd gm X M rm n D own rd) w' := by
  have HN := Lib.hid (none_ok hb)
  have H := hb.open_
  have HL := Lib.hid hl
  clear hb hl
  go_enter Tryz.func51, Tryz.ntmps51
  go_wp2_with (first | (go_at_call 49; (with_reducible refine (HN.out).mono ?_); rintro e W' ⟨rfl, rfl⟩))
  replace H := H.drew
  have c0 := row_cell (H.at 0 rfl) (lRow0 _ _ _ _ _ _ _ _ _)
  have c1 := row_cell (H.at 0 rfl) (lRow1 _ _ _ _ _ _ _ _ _)
  go_region_held3 (fun w' => w'.cell? ⟨g, 0, none⟩ = some (.pointer (some ⟨gd, 0, none⟩)) ∧ w'.cell? ⟨g, 1, none⟩ = some (.int .i64 X.lives)) (first | exact ⟨c0, c1⟩) (first
    | (go_at_call 46; go_loud ((refine (lives_at (H.at 3 rfl) (z := X.lives) HL.out.symm).mono ?_); rintro e W' ⟨rfl, rfl⟩)))
  clear c0 c1
  go_wp2_with (first | (refine wpList_load1_st rfl 4 _ rfl _ _ rfl _ _ _ (H.at 0 rfl) _ Tryz.underlying4 rfl _ (lRow2 _ _ _ _ _ _ _ _ _) ?_))
  go_ret
  exact ⟨rfl, H.bunTo⟩

theorem Homes_ok {w : World} {g gd gm : Nat} {X : LS} {M : DataW Value} {rm : Nat → Prop} {n : Nat} {D : DS} {own rd : Nat → Prop} (hb : Bundle w (logL g gd gm X M rm n D own rd)) {N : Nat} (hN : D.last.length = N) (hf : n + 2 + X.ring = N) (ht : N ≤ 1900) :
    Calls Tryz.prog 14 #[.pointer (some ⟨g, 0, none⟩)] w fun e w' => e = .returned (.int .i64 (n : Int)) ∧
      BunTo w (ownL (logL g gd gm X M rm n D own rd)) (rdL (logL g gd gm X M rm n D own rd)) (logL g gd gm X M rm n D own rd) w' := by
  have HN := Lib.hid (none_ok hb)
  have HH := Lib.hid (homes_ok hb hN hf ht)
  clear hb hN hf ht
  go_enter Tryz.func14, Tryz.ntmps14
  go_wp2_with (first | (go_at_call 49; (with_reducible refine (HN.out).mono ?_); rintro e W' ⟨rfl, rfl⟩) | (go_at_call 50; (with_reducible refine (HH.out).mono ?_); rintro e W' ⟨rfl, hto⟩))
  go_ret
  exact ⟨rfl, hto⟩

theorem Free_ok {w : World} {g gd gm : Nat} {X : LS} {M : DataW Value} {rm : Nat → Prop} {n : Nat} {D : DS} {own rd : Nat → Prop} (hb : Bundle w (logL g gd gm X M rm n D own rd)) :
    Calls Tryz.prog 17 #[.pointer (some ⟨g, 0, none⟩)] w fun e w' => e = .returned (.int .i64 X.free) ∧ w = w' := by
  have HN := Lib.hid (none_ok hb)
  have H := hb.open_
  clear hb
  go_enter Tryz.func17, Tryz.ntmps17
  go_wp2_with (first | (go_at_call 49; (with_reducible refine (HN.out).mono ?_); rintro e W' ⟨rfl, rfl⟩) | (refine wpList_load1_st rfl 3 _ rfl _ _ rfl _ _ _ (H.at 0 rfl) _ Tryz.underlying3 rfl _ (lRow7 _ _ _ _ _ _ _ _ _) ?_))
  go_ret
  exact ⟨rfl, rfl⟩

theorem Turn_ok {w : World} {g gd gm : Nat} {X : LS} {M : DataW Value} {rm : Nat → Prop} {n : Nat} {D : DS} {own rd : Nat → Prop} (hb : Bundle w (logL g gd gm X M rm n D own rd)) :
    Calls Tryz.prog 18 #[.pointer (some ⟨g, 0, none⟩)] w fun e w' => e = .returned (.int .u64 (X.turn : Int)) ∧ w = w' := by
  have HN := Lib.hid (none_ok hb)
  have H := hb.open_
  clear hb
  go_enter Tryz.func18, Tryz.ntmps18
  go_wp2_with (first | (go_at_call 49; (with_reducible refine (HN.out).mono ?_); rintro e W' ⟨rfl, rfl⟩) | (refine wpList_load1_st rfl 33 _ rfl _ _ rfl _ _ _ (H.at 0 rfl) _ Tryz.underlying33 rfl _ (lRow4 _ _ _ _ _ _ _ _ _) ?_))
  go_ret
  exact ⟨rfl, rfl⟩

end Go.Proofs.YtajlhloapglafaaGreatDoor
