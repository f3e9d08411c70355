/- The log's Commit, of a group that has room; Read of what was committed. -/
import Derived.Test.YtajlhloapglafaaGreatDoorLgG
namespace Go.Proofs.YtajlhloapglafaaGreatDoor
open Go.RowKit
set_option linter.unusedSimpArgs false
set_option linter.unusedVariables false
set_option maxRecDepth 4000

theorem commit_room {w : World} {g gd gm : Nat} {X : LS} {M : DataW Value} {rm : Nat → Prop} {n : Nat} {D : DS} {own rd : Nat → Prop} {p : Option Addr} {cap : Nat} {ps : List PutS} {rp : Nat → Prop}
    (hb : Bundle w (logL g gd gm X M rm n D own rd ++ [rdA p (putV ps), putsA rp ps])) {N u : Nat} (hf : LogFine X n D N u) (hg : Good ps n X.ring) (hps : 0 < ps.length) (ht : X.turn < 1000000) (hu : u + 1000 < 1000000) (hroom : ((ps.length : Int) + 1) ≤ X.free) :
    Calls Tryz.prog 15 #[.pointer (some ⟨g, 0, none⟩), .slice p ps.length cap] w fun e w' => e = .returned (.int .i64 0) ∧ ∃ M' rm' D' own' rd' u', u' ≤ u + 200 ∧ Off D D' N X.ring u' ∧
      BunTo w (ownL (logL g gd gm X M rm n D own rd ++ [rdA p (putV ps), putsA rp ps])) (rdL (logL g gd gm X M rm n D own rd ++ [rdA p (putV ps), putsA rp ps]))
        (logL g gd gm (X.done ps) M' rm' n D' own' rd' ++ [rdA p (putV ps), putsA rp ps]) w' := by
  have H := hb.open_
  have HF := Lib.hid hf
  have HG := Lib.hid hg
  have HS := Lib.hid hps
  have HT := Lib.hid ht
  have HU := Lib.hid hu
  have HR := Lib.hid hroom
  clear hb hf hg hps ht hu hroom
  go_enter Tryz.func15, Tryz.ntmps15
  go_wp2_with (first
    | (go_at_call 51; go_loud ((refine (may_ok (g := g) (gd := gd) (gm := gm) (X := X) (M := M) (rm := rm) (n := n) (D := D) (own := own) (rd := rd) (H.take 4).bundle HF.out.lives).mono ?_); rintro e W ⟨rfl, hto⟩; replace H := hto.front (R := [rdA p (putV ps), putsA rp ps]) H; clear hto))
    | (go_at_call 52; go_loud ((refine (commits_room (g := g) (gd := gd) (gm := gm) (X := X) (M := M) (rm := rm) (n := n) (D := D) (own := own) (rd := rd) (p := p) (cap := cap) (ps := ps) (rp := rp) H.bundle HF.out HG.out HS.out HT.out HU.out HR.out).mono ?_); rintro e W2 ⟨rfl, M', rm', D', own', rd', u', hu', hoff, hto⟩; replace H := hto.front (R := []) H; clear hto; simp only [List.append_nil] at H))
    | (go_at_call 48; go_loud ((refine (code_nil _).mono ?_); rintro e W3 ⟨rfl, hbl⟩; replace H := H.stay (Fix.of_below hbl _); clear hbl)))
  go_ret
  exact ⟨rfl, M', rm', D', own', rd', u', hu', hoff, H.bunTo⟩

end Go.Proofs.YtajlhloapglafaaGreatDoor
