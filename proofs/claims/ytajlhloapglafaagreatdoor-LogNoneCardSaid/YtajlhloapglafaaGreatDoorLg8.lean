/- The log where no group stands: mark, group, takes; within nil. -/
import Derived.Test.YtajlhloapglafaaGreatDoorLg7b
namespace Go.Proofs.YtajlhloapglafaaGreatDoor
open Go.RowKit
set_option linter.unusedSimpArgs false
set_option linter.unusedVariables false
set_option maxRecDepth 4000

theorem within_nil (w : World) : Calls Tryz.prog 81 #[.nilIface] w fun e w' => e = .returned .nilIface ∧ w = w' := by
  go_enter Tryz.func81, Tryz.ntmps81
  go_wp2
  go_ret
  exact ⟨rfl, rfl⟩

/-- No group stands where the next one would. -/
structure NoGroup (X : LS) (D : DS) (N : Nat) : Prop where
  dead : D.dead = false
  len : D.last.length = N
  r0 : 0 < X.ring
  r2 : X.ring ≤ 512
  fit : 2 + X.ring ≤ N
  place : X.place < X.ring
  turn : X.turn < 2305843009213693952
  sect : D.sect (2 + X.place) = noSect

theorem mark_no {w : World} {g gd gm : Nat} {X : LS} {M : DataW Value} {rm : Nat → Prop} {n : Nat} {D : DS} {own rd : Nat → Prop} (hb : Bundle w (logL g gd gm X M rm n D own rd)) {N : Nat} (hg : NoGroup X D N) :
    Calls Tryz.prog 115 #[.pointer (some ⟨g, 0, none⟩)] w fun e w' => e = .returned (.tuple #[.slice none 0 0, .nilIface]) ∧
      BunTo w (ownL (logL g gd gm X M rm n D own rd)) (rdL (logL g gd gm X M rm n D own rd)) (logL g gd gm X M rm n D own rd) w' := by
  have H := hb.open_
  have HG := Lib.hid hg
  have e1 := Lib.hid (show 2 + X.place % X.ring = 2 + X.place by rw [Nat.mod_eq_of_lt hg.place])
  have ht : (X.turn : Int) < 2305843009213693952 := by have := hg.turn; omega
  have ht0 : 0 ≤ (X.turn : Int) := by omega
  have b1 : ((0 : Int) != 2 * (X.turn : Int) + 1) = true := by
    have : ((0 : Int) == 2 * (X.turn : Int) + 1) = false := beq_eq_false_iff_ne.2 (by omega)
    simp [bne, this]
  have z1 := Lib.hid (le_none 0 8)
  have z2 := Lib.hid (le_none 8 2)
  clear hb hg
  go_enter Tryz.func115, Tryz.ntmps115
  go_wp2_with (first
    | (refine wpList_load1_st rfl 3 _ rfl _ _ rfl _ _ _ (H.at 0 rfl) _ Tryz.underlying3 rfl _ (lRow5 _ _ _ _ _ _ _ _ _) ?_)
    | (refine wpList_load1_st rfl 33 _ rfl _ _ rfl _ _ _ (H.at 0 rfl) _ Tryz.underlying33 rfl _ (lRow4 _ _ _ _ _ _ _ _ _) ?_)
    | (go_at_call 89; go_loud ((with_reducible refine (at_calls (g := g) (gd := gd) (gm := gm) (X := X) (M := M) (rm := rm) (n := n) (D := D) (own := own) (rd := rd) H.bundle _ X.place rfl HG.out.r0 HG.out.r2).mono ?_); rintro e W' ⟨rfl, rfl⟩; rw [e1.out]))
    | (go_at_call 55; go_loud ((with_reducible refine (lread_ok (g := g) (gd := gd) (gm := gm) (X := X) (M := M) (rm := rm) (n := n) (D := D) (own := own) (rd := rd) H.bundle HG.out.dead (2 + (X.place : Int)) (2 + X.place) (by omega) (by have := HG.out.len; have := HG.out.fit; have := HG.out.place; omega)).mono ?_); rintro e W ⟨gc, cap, junk, rfl, hl2, ha2, hag, hto⟩; replace H := hto.front2 (R := []) H; clear hto; rw [HG.out.sect] at H; simp only [logL, List.nil_append, List.cons_append, List.append_nil] at H))
    | (go_at_call 114; go_loud ((with_reducible refine (num2 gc 0 256 cap noSect 8 8 (by decide) _ (BytesAt.front (H.at 4 rfl)) noSect_len (by omega) ha2 (by omega)).mono ?_); rintro e W' ⟨rfl, rfl⟩; rw [z2.out]))
    | (go_at_call 113; go_loud ((with_reducible refine (tag_calls gc 0 256 cap noSect _ (BytesAt.front (H.at 4 rfl)) noSect_len (by omega) ha2 (by omega)).mono ?_); rintro e W' ⟨rfl, rfl⟩; rw [z1.out])))
  refine bodyPost_ret (results_tmp2 rfl _ _ _) rfl ?_
  exact ⟨rfl, (H.take 4).bunTo⟩

theorem group_no {w : World} {g gd gm : Nat} {X : LS} {M : DataW Value} {rm : Nat → Prop} {n : Nat} {D : DS} {own rd : Nat → Prop} (hb : Bundle w (logL g gd gm X M rm n D own rd)) {N : Nat} (hg : NoGroup X D N) :
    Calls Tryz.prog 104 #[.pointer (some ⟨g, 0, none⟩)] w fun e w' => e = .returned (.tuple #[.map none, .nilIface]) ∧
      BunTo w (ownL (logL g gd gm X M rm n D own rd)) (rdL (logL g gd gm X M rm n D own rd)) (logL g gd gm X M rm n D own rd) w' := by
  have HM := Lib.hid (mark_no hb hg)
  clear hb hg
  go_enter Tryz.func104, Tryz.ntmps104
  go_wp2_with (first
    | (go_at_call 115; go_loud ((with_reducible refine (HM.out).mono ?_); rintro e W ⟨rfl, hto⟩)))
  refine bodyPost_ret (results_tmp2 rfl _ _ _) rfl ?_
  exact ⟨rfl, hto⟩

theorem takes_no {w : World} {g gd gm : Nat} {X : LS} {M : DataW Value} {rm : Nat → Prop} {n : Nat} {D : DS} {own rd : Nat → Prop} (hb : Bundle w (logL g gd gm X M rm n D own rd)) {N : Nat} (hg : NoGroup X D N) :
    Calls Tryz.prog 82 #[.pointer (some ⟨g, 0, none⟩)] w fun e w' => e = .returned .nilIface ∧
      BunTo w (ownL (logL g gd gm X M rm n D own rd)) (rdL (logL g gd gm X M rm n D own rd)) (logL g gd gm X M rm n D own rd) w' := by
  have HM := Lib.hid (group_no hb hg)
  clear hb hg
  go_enter Tryz.func82, Tryz.ntmps82
  go_wp2
  go_loopw [3, 4] (fun _ _ wr => wr = w) (fun _ _ _ => 0)
  case atStart => rfl
  case round =>
    subst hrel
    go_wp2_with (first
      | (go_at_call 104; go_loud ((with_reducible refine (HM.out).mono ?_); rintro e W ⟨rfl, hto⟩))
      | (go_at_call 81; (with_reducible refine (within_nil _).mono ?_); rintro e W' ⟨rfl, rfl⟩))
    go_ret
    exact ⟨rfl, hto⟩

end Go.Proofs.YtajlhloapglafaaGreatDoor
