/- begun of the log's laws. -/
import Derived.Test.YtajlhloapglafaaGreatDoorLgJ
namespace Go.Proofs.YtajlhloapglafaaGreatDoor
open Go.RowKit
set_option linter.unusedSimpArgs false
set_option linter.unusedVariables false
set_option maxRecDepth 4000

/-- A row of ours is read from now on. -/
theorem St.ro {M0 R0 : Nat → Prop} {w0 W : World} {L : List Asrt} (H : St M0 R0 w0 W L) (i : Nat) {g : Nat} {vs : List Value} {t : TypeId} (hi : L[i]? = some (blk g (.cells vs.toArray t (0, 0)))) :
    St M0 R0 w0 W (L.set i (rdA (some ⟨g, 0, none⟩) vs)) := by
  have hg : W.heap[g]? = some (.cells vs.toArray t (0, 0)) := H.at i hi
  refine H.step i hi (Fix.refl _ _) ?_ ⟨fun k hk => hk.elim, fun k hk => ?_⟩
  · refine .inr ⟨g, 0, rfl, (Array.getElem?_eq_some_iff.1 hg).1, fun j x hj => ?_⟩
    rw [Nat.zero_add, cell_of_row W g j _ _ _ hg]
    simpa using hj
  · obtain ⟨_, ad, e, rfl⟩ := hk
    cases e
    exact .inl rfl

theorem bytesAt_row {W : World} {g : Nat} {l : List UInt8} {junk : List Value} {t : TypeId} {fr : Nat × Nat} (hg : W.heap[g]? = some (.cells (byteV l ++ junk).toArray t fr)) : BytesAt W g 0 l := BytesAt.front hg

/-- Bytes of ours are a put's from now on. -/
theorem St.asPut {M0 R0 : Nat → Prop} {w0 W : World} {L : List Asrt} (H : St M0 R0 w0 W L) (i : Nat) {g : Nat} {l : List UInt8} {t : TypeId} (hi : L[i]? = some (blk g (.cells (byteV l).toArray t (0, 0)))) (k cap : Nat) (hl : l.length = 248) (hc : 248 ≤ cap) :
    St M0 R0 w0 W (L.set i (putsA (fun j => j = g) [⟨k, .slice (some ⟨g, 0, none⟩) 248 cap, l⟩])) := by
  have hg : W.heap[g]? = some (.cells (byteV l).toArray t (0, 0)) := H.at i hi
  refine H.step i hi (Fix.refl _ _) ?_ ⟨fun k hk => hk.elim, fun k hk => .inl hk⟩
  refine ⟨fun x hx => ?_, fun j hj => by rw [show j = g from hj]; exact (Array.getElem?_eq_some_iff.1 hg).1⟩
  obtain rfl := List.mem_singleton.1 hx
  refine .inr ⟨g, 0, cap, by rw [hl], by rw [hl]; exact hc, .inr rfl, ?_⟩
  exact BytesAt.front (junk := []) (by rw [List.append_nil]; exact hg)

theorem LS.start_fine {D : DS} {N ring u : Nat} (hc : Calm D N u) (h1 : 8 ≤ ring) (h2 : ring ≤ 512) (n : Nat) (hn : n + 2 + ring = N) (h8 : 8 ≤ n) (ht : N ≤ 1900) : LogFine (LS.start D.lives ring) n D N u :=
  ⟨hc, hn, ht, h1, h2, h8, by show 0 < ring; omega, rfl, fun _ => rfl, ⟨by show (0 : Int) ≤ (ring : Int); omega, by show (ring : Int) ≤ (ring : Int); omega⟩, Nat.le_refl _, Nat.le_refl _⟩

theorem noB_248 : (List.replicate 248 (0 : UInt8)).length = 248 := List.length_replicate
/-- What Open has made of a disk. -/
theorem BunTo.opened {M0 R0 : Nat → Prop} {w0 W W' : World} {gd : Nat} {D : DS} {own rd : Nat → Prop} {Ls : List Asrt} (h : BunTo W own rd Ls W') (H : St M0 R0 w0 W [dA gd D own rd]) : St M0 R0 w0 W' Ls :=
  St.unbun (L := []) (H.step 0 rfl (A' := bun Ls) h.fix h.holds ⟨h.owns, h.reads⟩)

theorem Turn_at {w : World} {g gd gm : Nat} {X : LS} {M : DataW Value} {rm : Nat → Prop} {n : Nat} {D : DS} {own rd : Nat → Prop} (hb : Bundle w (logL g gd gm X M rm n D own rd)) {z : Int} (hz : (X.turn : Int) = z) :
    Calls Tryz.prog 18 #[.pointer (some ⟨g, 0, none⟩)] w fun e w' => e = .returned (.int .u64 z) ∧ w = w' := by
  subst hz; exact Turn_ok hb
theorem Free_at {w : World} {g gd gm : Nat} {X : LS} {M : DataW Value} {rm : Nat → Prop} {n : Nat} {D : DS} {own rd : Nat → Prop} (hb : Bundle w (logL g gd gm X M rm n D own rd)) {z : Int} (hz : X.free = z) :
    Calls Tryz.prog 17 #[.pointer (some ⟨g, 0, none⟩)] w fun e w' => e = .returned (.int .i64 z) ∧ w = w' := by
  subst hz; exact Free_ok hb
theorem Homes_at {w : World} {g gd gm : Nat} {X : LS} {M : DataW Value} {rm : Nat → Prop} {n : Nat} {D : DS} {own rd : Nat → Prop} (hb : Bundle w (logL g gd gm X M rm n D own rd)) {N : Nat} (hN : D.last.length = N) (hf : n + 2 + X.ring = N) (ht : N ≤ 1900) {z : Int} (hz : (n : Int) = z) :
    Calls Tryz.prog 14 #[.pointer (some ⟨g, 0, none⟩)] w fun e w' => e = .returned (.int .i64 z) ∧
      BunTo w (ownL (logL g gd gm X M rm n D own rd)) (rdL (logL g gd gm X M rm n D own rd)) (logL g gd gm X M rm n D own rd) w' := by
  subst hz; exact Homes_ok hb hN hf ht

def bPut (v : Value) : PutS := ⟨2, v, List.replicate 248 0⟩
theorem fill_put (v : Value) (h : v.oneCell' = true) : Instr.fill (fun i => some (i * 2, 2)) ((Array.range (1 * 2)).map ((Value.agg #[.int .i64 0, .slice none 0 0]).cells[· % (Value.agg #[.int .i64 0, .slice none 0 0]).cells.size]!)) [(0, .agg #[.int .i64 2, v])] = some (putV [bPut v]).toArray := by
  kernel_rfl

set_option maxHeartbeats 4000000 in
theorem begun_calls (w : World) : Calls Tryz.prog 10 #[] w fun e w' => e = .returned (.bool true) ∧ Below w.heap.size w w' := by
  have H := St.nil NoBlk NoBlk w
  have hc0 := Lib.hid (show Calm (DS.new 32) 32 0 from ⟨List.length_replicate, rfl, rfl, rfl⟩)
  have hc1 := Lib.hid (fmt_calm (ring := 8) hc0.out (by omega))
  have hf1 := Lib.hid (fmt_fresh (ring := 8) hc0.out (by omega) (by omega) (by omega) (by omega))
  obtain ⟨D1, hD1⟩ : ∃ D1, fmtD (DS.new 32) 32 8 6 = D1 := ⟨_, rfl⟩
  rw [hD1] at hc1 hf1
  obtain ⟨X1, hX1⟩ : ∃ X1, LS.start D1.lives 8 = X1 := ⟨_, rfl⟩
  have hX := Lib.hid (LS.start_fine hc1.out (ring := 8) (by omega) (by omega) 22 rfl (by omega) (by omega))
  rw [hX1] at hX
  have tok1 : True := trivial
  have ht1 := Lib.hid (show (X1.turn : Int) = 1 by rw [← hX1]; rfl)
  have hr1 := Lib.hid (show X1.free = 8 by rw [← hX1]; rfl)
  have hg1 := Lib.hid (show X1.ring = 8 by rw [← hX1]; rfl)
  go_enter Tryz.func10, Tryz.ntmps10
  go_wp2_with (first
    | (go_at_call 11; go_loud ((with_reducible refine (new_at 32 32 (by decide) (by omega) (by omega) _).mono ?_); rintro e W ⟨gd, own, rd, rfl, hd, hb, hn⟩; replace H := H.add (Fix.of_below hb NoBlk) (dA gd (DS.new 32) own rd) hd (fun k hk => hn k (.inl hk)) (fun k hk => .inl (hn k (.inr hk))); clear hd hb hn; simp only [List.nil_append, List.cons_append] at H))
    | (go_at_call 12; go_loud ((with_reducible refine (format_calls (H.at 0 rfl) hc0.out (by omega) 8 8 (by decide) (by omega) (by omega) (by omega) (by omega)).mono ?_); rintro e W ⟨rfl, hto⟩; obtain ⟨own1, rd1, H'⟩ := DiskTo.step H 0 rfl hto; clear H; have H := H'; clear H' hto; simp only [List.set_cons_zero, List.set_cons_succ, hD1] at H))
    | (go_at_call 13; go_loud ((with_reducible refine (open_fresh (H.at 0 rfl) hf1.out 22).mono ?_); rintro e W ⟨g, gm, own1, rd1, rfl, hto⟩; replace H := hto.opened H; clear hto; rw [hX1] at H))
    | (go_at_call 14; go_loud ((refine (Homes_at (g := g) (gd := gd) (gm := gm) (X := X1) (M := .map []) (rm := NoBlk) (n := 22) (D := D1) (own := own1) (rd := rd1) H.bundle (N := 32) hc1.out.len hX.out.fits (by omega) (z := 22) rfl).mono ?_); rintro e W ⟨rfl, hto⟩; replace H := hto.front (R := []) H; clear hto; simp only [List.append_nil] at H))
    | (go_at_call 18; have _t := tok1; clear _t; go_loud ((refine (Turn_at (g := g) (gd := gd) (gm := gm) (X := X1) (M := .map []) (rm := NoBlk) (n := 22) (D := D1) (own := own1) (rd := rd1) H.bundle ht1.out).mono ?_); rintro e W' ⟨rfl, rfl⟩))
    | (go_at_call 17; have _t := tok1; clear _t; go_loud ((refine (Free_at (g := g) (gd := gd) (gm := gm) (X := X1) (M := .map []) (rm := NoBlk) (n := 22) (D := D1) (own := own1) (rd := rd1) H.bundle hr1.out).mono ?_); rintro e W' ⟨rfl, rfl⟩))
    | (refine wpList_make2_st H rfl 22 _ _ rfl _ Tryz.underlying22 _ _ info_u8 rfl 248 248 rfl rfl (by omega) (by omega) (by simp only [maxLen]; omega) ?_; clear H; intro W gz H; replace H := H.asPut 4 (l := List.replicate 248 0) (by simp only [byteV, List.map_replicate]; rfl) 2 248 noB_248 (by omega); simp only [logL, List.cons_append, List.nil_append, List.set_cons_zero, List.set_cons_succ] at H)
    | (refine wpList_buildslice_st H rfl 34 36 _ _ rfl Tryz.underlying34 _ size_put _ zero_put (by decide) (by decide) [(0, .agg #[.int .i64 2, .slice (some ⟨gz, 0, none⟩) 248 248])] (by simp [Act.eval]) (putV [bPut (.slice (some ⟨gz, 0, none⟩) 248 248)]).toArray (fill_put _ rfl) ?_; clear H; intro W gs H; replace H := H.ro 5 rfl; simp only [List.cons_append, List.nil_append, List.set_cons_zero, List.set_cons_succ] at H;
       replace H := St.swap (A := logL g gd gm X1 (.map []) NoBlk 22 D1 own1 rd1) (E := [putsA (fun j => j = gz) [bPut (.slice (some ⟨gz, 0, none⟩) 248 248)]]) (R := [rdA (some ⟨gs, 0, none⟩) (putV [bPut (.slice (some ⟨gz, 0, none⟩) 248 248)])]) H)
    | (go_at_call 15; go_loud ((refine (commit_room (g := g) (gd := gd) (gm := gm) (X := X1) (M := .map []) (rm := NoBlk) (n := 22) (D := D1) (own := own1) (rd := rd1) (ps := [bPut (.slice (some ⟨gz, 0, none⟩) 248 248)]) H.bundle hX.out ⟨by simp [bPut], by simp [bPut], by simp, by simp, by rw [hg1.out]; simp⟩ (by simp) (by have := ht1.out; omega) (by omega) (by rw [hr1.out]; simp)).mono ?_); rintro e W ⟨rfl, M', rm', D', own', rd', u', hu', hoff, hto⟩; replace H := hto.front (R := []) H; clear hto tok1; simp only [List.append_nil] at H; replace H := H.take 4))
    | (go_at_call 18; go_loud ((refine (Turn_at (g := g) (gd := gd) (gm := gm) (X := X1.done [bPut (.slice (some ⟨gz, 0, none⟩) 248 248)]) (M := M') (rm := rm') (n := 22) (D := D') (own := own') (rd := rd') H.bundle (z := 2) (show ((X1.turn + 1 : Nat) : Int) = 2 by have := ht1.out; omega)).mono ?_); rintro e W' ⟨rfl, rfl⟩))
    | (go_at_call 17; go_loud ((refine (Free_at (g := g) (gd := gd) (gm := gm) (X := X1.done [bPut (.slice (some ⟨gz, 0, none⟩) 248 248)]) (M := M') (rm := rm') (n := 22) (D := D') (own := own') (rd := rd') H.bundle (z := 6) (show X1.free - ((1 + 1 : Nat) : Int) = 6 by rw [hr1.out]; rfl)).mono ?_); rintro e W' ⟨rfl, rfl⟩)))
  go_ret
  exact ⟨rfl, H.fix.below⟩

end Go.Proofs.YtajlhloapglafaaGreatDoor
