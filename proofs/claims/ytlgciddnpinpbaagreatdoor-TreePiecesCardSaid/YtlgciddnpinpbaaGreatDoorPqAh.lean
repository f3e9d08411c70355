/- Texts of this proof, packed. -/
import Derived.Test.YtlgciddnpinpbaaGreatDoorPkBase4
import Derived.Test.YtlgciddnpinpbaaGreatDoorPqX
import Derived.Test.YtlgciddnpinpbaaGreatDoorPqAd
import Derived.Test.YtlgciddnpinpbaaGreatDoorPqAf
set_option linter.unusedSimpArgs false
set_option linter.unusedVariables false
namespace Go.Proofs.YtlgciddnpinpbaaGreatDoor
open Go.RowKit
set_option maxRecDepth 40000
theorem treePieces_many (w : World) (pz : Option Addr) (n cz : Nat) (step : UInt8) (h : 80 < n) (hg : errA.prop w) :
  Calls Tryz.prog 9 #[.slice pz n cz,.int .u8 (step.toNat : Int)] w fun e w' => e = .returned (.bool true) ∧ Below w.heap.size w w' := by
 have H := St.err hg
 clear hg
 have h1 : 80 < (n : Int) := by omega
 go_enter Tryz.func9,Tryz.ntmps9
 go_wp2_with (first
  | (go_at_call 39;go_loud ((refine (begun21_calls _ (H.at 0 rfl)).mono ?_);rintro e W ⟨rfl,hb⟩;replace H := H.stay (Fix.of_below hb _);clear hb)))
 go_ret
 exact ⟨rfl,H.fix.below⟩
theorem treePieces_calls (w : World) (pz : Option Addr) (cz : Nat) (zs : List Int) (step : UInt8) (hz : ∀ z ∈ zs,0 ≤ z ∧ z ≤ 65535) (hg : errA.prop w) (ha : (rdA pz (zs.map (Value.int .u16))).prop w) :
  Calls Tryz.prog 9 #[.slice pz zs.length cz,.int .u8 (step.toNat : Int)] w fun e w' => e = .returned (.bool true) ∧ Below w.heap.size w w' := by
 by_cases h : zs.length ≤ 80
 ·have hu := u16V_of zs hz
  exact treePieces_short w pz (zs.map Int.toNat) zs.length cz step (List.length_map ..) h hu.2 hg (by rw [hu.1];exact ha)
 ·exact treePieces_many w pz zs.length cz step (by omega) hg
end Go.Proofs.YtlgciddnpinpbaaGreatDoor
