/- LogNone. -/
import Derived.Test.YtajlhloapglafaaGreatDoorLgL
namespace Go.Proofs.YtajlhloapglafaaGreatDoor
open Go.RowKit
set_option linter.unusedSimpArgs false
set_option linter.unusedVariables false
set_option maxRecDepth 4000

theorem bare_new (n : Nat) (h : 2 ≤ n) : BareD (DS.new n) n :=
  ⟨rfl, List.length_replicate, h, fun k hk => by
    show (List.replicate n noSect).getD k [] = noSect
    rw [List.getD_eq_getElem?_getD, List.getElem?_replicate, if_pos (by omega)]; rfl⟩

theorem St.err {w : World} (hg : errA.prop w) : St NoBlk (fun _ => True) w w [errA] :=
  St.reads_only [errA] (by
    intro B hB
    obtain rfl := List.mem_singleton.1 hB
    exact ⟨hg, fun _ h => h⟩)

set_option maxHeartbeats 4000000 in
theorem logNone_calls (w : World) (hg : errA.prop w) : Calls Tryz.prog 4 #[] w fun e w' => e = .returned (.bool true) ∧ Below w.heap.size w w' := by
  have H := St.err hg
  have hbr := Lib.hid (bare_new 40 (by omega))
  go_enter Tryz.func4, Tryz.ntmps4
  go_wp2_with (first
    | (go_at_call 19; (with_reducible refine (Read_nil _ _).mono ?_); rintro e W' ⟨rfl, rfl⟩)
    | (go_at_call 15; (with_reducible refine (Commit_nil _ _).mono ?_); rintro e W' ⟨rfl, rfl⟩)
    | (go_at_call 16; (with_reducible refine (Checkpoint_nil _).mono ?_); rintro e W' ⟨rfl, rfl⟩)
    | (go_at_call 14; (with_reducible refine (Homes_nil _).mono ?_); rintro e W' ⟨rfl, rfl⟩)
    | (go_at_call 17; (with_reducible refine (Free_nil _).mono ?_); rintro e W' ⟨rfl, rfl⟩)
    | (go_at_call 18; (with_reducible refine (Turn_nil _).mono ?_); rintro e W' ⟨rfl, rfl⟩)
    | (go_at_call 13; (with_reducible refine (open_nil _).mono ?_); rintro e W' ⟨rfl, rfl⟩)
    | (go_at_call 12; (with_reducible refine (format_nil _ _).mono ?_); rintro e W ⟨rfl, hb⟩; replace H := H.stay (Fix.of_below hb _); clear hb)
    | (go_at_call 10; (with_reducible refine (begun_calls _).mono ?_); rintro e W ⟨rfl, hb⟩; replace H := H.stay (Fix.of_below hb _); clear hb)
    | (go_at_call 11; go_loud ((with_reducible refine (new_at 40 40 (by decide) (by omega) (by omega) _).mono ?_); rintro e W ⟨gd, own, rd, rfl, hd, hb, hn⟩; replace H := H.add (Fix.of_below hb NoBlk) (dA gd (DS.new 40) own rd) hd (fun k hk => hn k (.inl hk)) (fun k hk => .inl (hn k (.inr hk))); clear hd hb hn; simp only [List.nil_append, List.cons_append] at H; replace H := St.rotate (A := [errA]) H; simp only [List.nil_append, List.cons_append] at H))
    | (go_at_call 13; go_loud ((refine (open_none (gd := gd) (D := DS.new 40) (own := own) (rd := rd) H.bundle hbr.out 10).mono ?_); rintro e W ⟨rfl, hto⟩; replace H := hto.front (R := []) H; clear hto; simp only [List.append_nil] at H)))
  go_ret
  exact ⟨rfl, H.fix.below⟩

end Go.Proofs.YtajlhloapglafaaGreatDoor
