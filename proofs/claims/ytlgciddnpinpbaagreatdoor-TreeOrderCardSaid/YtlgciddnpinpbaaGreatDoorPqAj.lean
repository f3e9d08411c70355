/- Texts of this proof, packed. -/
import Derived.Test.YtlgciddnpinpbaaGreatDoorPkBase4
import Derived.Test.YtlgciddnpinpbaaGreatDoorPqX
import Derived.Test.YtlgciddnpinpbaaGreatDoorPqAd
import Derived.Test.YtlgciddnpinpbaaGreatDoorPqAe
set_option linter.unusedSimpArgs false
set_option linter.unusedVariables false
namespace Go.Proofs.YtlgciddnpinpbaaGreatDoor
open Go.RowKit
set_option maxRecDepth 40000
theorem treeOrder_many (w : World) (pz : Option Addr) (n cz : Nat) (turn : UInt8) (h : 60 < n) (hg : errA.prop w) :
  Calls Tryz.prog 8 #[.slice pz n cz,.int .u8 (turn.toNat : Int)] w fun e w' => e = .returned (.bool true) ∧ Below w.heap.size w w' := by
 have H := St.err hg
 clear hg
 have h1 : 60 < (n : Int) := by omega
 have hn0 : ¬ (n : Int) = 0 := by omega
 have hnb : ((n : Int) == 0) = false := beq_eq_false_iff_ne.2 hn0
 go_enter Tryz.func8,Tryz.ntmps8
 go_wp2_with (first
  | (go_at_call 39;go_loud ((refine (begun21_calls _ (H.at 0 rfl)).mono ?_);rintro e W ⟨rfl,hb⟩;replace H := H.stay (Fix.of_below hb _);clear hb)))
 go_ret
 exact ⟨rfl,H.fix.below⟩
theorem treeOrder_none (w : World) (pz : Option Addr) (cz : Nat) (turn : UInt8) (hg : errA.prop w) :
  Calls Tryz.prog 8 #[.slice pz 0 cz,.int .u8 (turn.toNat : Int)] w fun e w' => e = .returned (.bool true) ∧ Below w.heap.size w w' := by
 have H := St.err hg
 clear hg
 go_enter Tryz.func8,Tryz.ntmps8
 go_wp2_with (first
  | (go_at_call 39;go_loud ((refine (begun21_calls _ (H.at 0 rfl)).mono ?_);rintro e W ⟨rfl,hb⟩;replace H := H.stay (Fix.of_below hb _);clear hb)))
 go_ret
 exact ⟨rfl,H.fix.below⟩
theorem treeOrder_calls (w : World) (pz : Option Addr) (cz : Nat) (zs : List Int) (turn : UInt8) (hz : ∀ z ∈ zs,0 ≤ z ∧ z ≤ 65535) (hg : errA.prop w) (ha : (rdA pz (zs.map (Value.int .u16))).prop w) :
  Calls Tryz.prog 8 #[.slice pz zs.length cz,.int .u8 (turn.toNat : Int)] w fun e w' => e = .returned (.bool true) ∧ Below w.heap.size w w' := by
 by_cases h : zs.length ≤ 60
 ·by_cases h0 : zs.length = 0
  ·rw [h0];exact treeOrder_none w pz cz turn hg
  ·have hu := u16V_of zs hz
   exact treeOrder_short w pz (zs.map Int.toNat) zs.length cz turn (List.length_map ..) (by omega) h hu.2 hg (by rw [hu.1];exact ha)
 ·exact treeOrder_many w pz zs.length cz turn (by omega) hg
end Go.Proofs.YtlgciddnpinpbaaGreatDoor
