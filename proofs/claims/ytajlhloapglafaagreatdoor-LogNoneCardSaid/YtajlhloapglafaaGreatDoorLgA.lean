/- Open, on a disk that was formatted. -/
import Derived.Test.YtajlhloapglafaaGreatDoorLg9
namespace Go.Proofs.YtajlhloapglafaaGreatDoor
open Go.RowKit
set_option linter.unusedSimpArgs false
set_option linter.unusedVariables false
set_option maxRecDepth 4000

/-- len of a map that is ours. -/
theorem wpList_lenmap {P : Program} {ops : Array Oper} {rest : List Oper} {o : Oper} {a : Act} {Q : Exit → Act → World → Prop} {W : World} (hwt : Region.wanted o (yielded ops a.tmps) = true) (x : Operand) (T : TypeId)
    (ho : o.op = .call { callee := .builtin .len, args := #[x], argTypes := #[T] }) (b : Nat) (hx : a.eval x = .map (some b)) {k e : TypeId} {R : Value → Option (DataW Value × List MemPlace)} {n : Nat} {M : DataW Value} (hm : W.ownsMap P k R b n M) (ht : P.underlying T = some (.map k e))
    (h : wpList P ops Q rest (a.put o.dst (.int .i64 (Go.Maps.size M))) W) : wpList P ops Q (o :: rest) a W := by
  refine wpList_want hwt fun K hK => ?_
  have hr := hm.len (t := T) ht o.type
  unfold Oper.wp execOp
  simp only [ho, resolve, invoke, builtin, Sem.run_bind, Sem.run_pure, Result.andThen_ok, List.map_toArray, List.map_cons, List.map_nil, hx, hr]
  exact hK _ _ h

theorem FreshD.noGroup {X : LS} {D : DS} {N ring : Nat} (h : FreshD D N ring) : NoGroup (X.found 1 1 0 ring) D N := by
  have h1 := h.r1; have h2 := h.r2; have h3 := h.fit
  exact ⟨h.dead, h.len, by show 0 < ring; omega, h2, by show 2 + ring ≤ N; omega, by show 0 < ring; omega, by show 1 < 2305843009213693952; omega, h.rest 2 (by omega) (by omega)⟩

theorem opens_fresh {w : World} {g gd gm : Nat} {X : LS} {rm : Nat → Prop} {n : Nat} {D : DS} {own rd : Nat → Prop} (hb : Bundle w (logL g gd gm X (.map []) rm n D own rd)) (hX : X.s = 0) {N ring : Nat} (hf : FreshD D N ring) :
    Calls Tryz.prog 47 #[.pointer (some ⟨g, 0, none⟩)] w fun e w' => e = .returned .nilIface ∧
      BunTo w (ownL (logL g gd gm X (.map []) rm n D own rd)) (rdL (logL g gd gm X (.map []) rm n D own rd)) (logL g gd gm { X.found 1 1 0 ring with free := (ring : Int) } (.map []) rm n D own rd) w' := by
  have H := hb.open_
  have HF := Lib.hid (find_fresh hb hX hf)
  have HN := Lib.hid (hf.noGroup (X := X))
  obtain ⟨O, hO⟩ : ∃ O, ownL (logL g gd gm X (.map []) rm n D own rd) = O := ⟨_, rfl⟩
  obtain ⟨R, hR⟩ : ∃ R, rdL (logL g gd gm X (.map []) rm n D own rd) = R := ⟨_, rfl⟩
  clear hb hf hX
  go_enter Tryz.func47, Tryz.ntmps47
  go_wp2_with (first
    | (go_at_call 80; go_loud ((with_reducible refine (HF.out).mono ?_); rintro e W ⟨rfl, hto⟩; replace H := hto.front (R := []) H; clear hto; replace H : St _ _ w W (logL g gd gm (X.found 1 1 0 ring) (.map []) rm n D own rd) := H))
    | (go_at_call 82; go_loud ((with_reducible refine (takes_no (g := g) (gd := gd) (gm := gm) (X := X.found 1 1 0 ring) (M := .map []) (rm := rm) (n := n) (D := D) (own := own) (rd := rd) H.bundle HN.out).mono ?_); rintro e W ⟨rfl, hto⟩; replace H := hto.front (R := []) H; clear hto; replace H : St _ _ w W (logL g gd gm (X.found 1 1 0 ring) (.map []) rm n D own rd) := H))
    | (refine wpList_load1_st rfl 74 _ rfl _ _ rfl _ _ _ (H.at 0 rfl) _ Tryz.underlying74 rfl _ (lRow8 _ _ _ _ _ _ _ _ _) ?_)
    | (refine wpList_load1_st rfl 3 _ rfl _ _ rfl _ _ _ (H.at 0 rfl) _ Tryz.underlying3 rfl _ (lRow6 _ _ _ _ _ _ _ _ _) ?_)
    | (refine wpList_lenmap rfl _ 74 rfl gm rfl (H.at 1 rfl : World.ownsMap _ Tryz.prog 3 RV gm _ (.map [])) Tryz.underlying74 ?_)
    | (refine wpList_store1_st H 0 rfl 3 _ _ rfl _ _ (.int .i64 (ring : Int)) rfl rfl rfl _ _ rfl rfl (by simp [lRow]) ?_; clear H; intro W H; (try simp only [logL, List.set_cons_zero, List.set_cons_succ] at H); (try simp only [lSet2, lSet3, lSet4, lSet5, lSet6, lSet7, lSet8] at H)))
  go_ret
  exact ⟨rfl, H.bunTo⟩

/-- A log that Open has made of a disk that was formatted. -/
def LS.start (lives : Int) (ring : Nat) : LS := { lives := lives, s := 1, turn := 1, place := 0, ring := ring, free := (ring : Int), m := fun _ => none }

def lEmpty (lives : Int) : LS := { lives := lives, s := 0, turn := 0, place := 0, ring := 0, free := 0, m := fun _ => none }

theorem St.logOpen {M0 R0 : Nat → Prop} {w0 W : World} {g gd gm : Nat} {D : DS} {own rd : Nat → Prop} {lv : Int} (n : Nat)
    (H : St M0 R0 w0 W [dA gd D own rd, mapA gm 0 (.map []), blk g (.cells (lRow (.pointer (some ⟨gd, 0, none⟩)) lv false 0 0 0 0 0 (.map (some gm))).toArray 84 (0, 0))]) :
    St M0 R0 w0 W (logL g gd gm (lEmpty lv) (.map []) NoBlk n D own rd) := by
  have H1 := H.add (Fix.refl _ _) (mapIsA NoBlk (.map []) (fun _ => none) n 248) (MapIs.empty W n 248) (fun k hk => hk.elim) (fun k hk => hk.elim)
  simp only [List.cons_append, List.nil_append] at H1
  refine H1.pick (fun m => [2, 1, 3, 0].getD m 0) ?_ ?_
  · intro m C hm
    rcases m with _ | _ | _ | _ | m
    · exact hm
    · exact hm
    · exact hm
    · exact hm
    · simp [logL] at hm
  · intro m l hm hl e
    have hm4 : m < 4 := hm
    have hl4 : l < 4 := hl
    rcases m with _ | _ | _ | _ | m <;> rcases l with _ | _ | _ | _ | l <;> first | rfl | omega | (simp at e)

set_option maxHeartbeats 1000000 in
theorem open_fresh {w : World} {gd : Nat} {D : DS} {own rd : Nat → Prop} (hd : DiskIs w gd D own rd) {N ring : Nat} (hf : FreshD D N ring) (n : Nat) :
    Calls Tryz.prog 13 #[.pointer (some ⟨gd, 0, none⟩)] w fun e w' => ∃ g gm own' rd', e = .returned (.tuple #[.pointer (some ⟨g, 0, none⟩), .int .i64 0]) ∧ BunTo w own rd (logL g gd gm (LS.start D.lives ring) (.map []) NoBlk n D own' rd') w' := by
  have H : St own rd w w [dA gd D own rd] := St.one (A := dA gd D own rd) hd
  have HF := Lib.hid hf
  have hl : ((D.last.length : Int) == 0) = false := beq_eq_false_iff_ne.2 (by rw [hf.len]; have := hf.fit; omega)
  clear hd hf
  go_enter Tryz.func13, Tryz.ntmps13
  go_wp2_with (first
    | (go_at_call 40; go_loud ((with_reducible refine (len_calls (H.at 0 rfl)).mono ?_); rintro e W' ⟨rfl, rfl⟩))
    | (go_at_call 46; go_loud ((with_reducible refine (lives_at (H.at 0 rfl) (z := D.lives) rfl).mono ?_); rintro e W' ⟨rfl, rfl⟩))
    | (refine wpList_makemap_st H rfl 74 rfl ?_; clear H; intro W gm H; simp only [List.nil_append, List.cons_append] at H)
    | (refine wpList_box_st H rfl 84 _ rfl _ rfl ?_; clear H; intro W g H; simp only [List.nil_append, List.cons_append] at H; replace H := St.logOpen (lv := D.lives) n H)
    | (go_at_call 47; go_loud ((with_reducible refine (opens_fresh (g := g) (gd := gd) (gm := gm) (X := lEmpty D.lives) (rm := NoBlk) (n := n) (D := D) (own := own) (rd := rd) H.bundle rfl HF.out).mono ?_); rintro e W ⟨rfl, hto⟩; replace H := hto.front (R := []) H; clear hto; replace H : St _ _ w W (logL g gd gm (LS.start D.lives ring) (.map []) NoBlk n D own rd) := H)))
  refine bodyPost_ret (results_tmp2 rfl _ _ _) rfl ?_
  exact ⟨g, gm, own, rd, rfl, H.bunTo⟩

end Go.Proofs.YtajlhloapglafaaGreatDoor
