/- Texts of this proof, packed. -/
import Derived.Test.YtlgciddnpinpbaaGreatDoorPkBase4
import Derived.Test.YtlgciddnpinpbaaGreatDoorPqB
set_option linter.unusedSimpArgs false
set_option linter.unusedVariables false
namespace Go.Proofs.YtlgciddnpinpbaaGreatDoor
open Go.RowKit
def lAt (m : Nat) : Nat → Nat
 | 0 => max (m / 3) 1
 | j + 1 => max (lAt m j / 4) 1
theorem lAt_pos (m : Nat) : ∀ j,1 ≤ lAt m j
 | 0 => Nat.le_max_right ..
 | _ + 1 => Nat.le_max_right ..
theorem sumF_le {f g : Nat → Nat} : ∀ d,(∀ j,j ≤ d → f j ≤ g j) → sumF f d ≤ sumF g d
 | 0,h => h 0 (Nat.le_refl 0)
 | d + 1,h => by
  have a := sumF_le d fun j hj => h j (by omega)
  have b := h (d + 1) (Nat.le_refl _)
  simp only [sumF]
  omega
theorem sumF_mono (f : Nat → Nat) : ∀ {d j : Nat},d ≤ j → sumF f d ≤ sumF f j
 | d,0,h => by rw [Nat.le_zero.1 h];exact Nat.le_refl _
 | d,j + 1,h => by
  rcases Nat.lt_or_ge d (j + 1) with h1 | h1
  ·have := sumF_mono f (show d ≤ j by omega)
   simp only [sumF]
   omega
  ·rw [show d = j + 1 by omega];exact Nat.le_refl _
theorem deep_law {v : Nat → List UInt8} {d s h m j : Nat} {hs : List Nat} {ps : List PairT} (hl : Lies v d s h hs ps) (h1 : 1 ≤ s) (hm : ps.length ≤ m) (hj : lAt m j ≤ 1) : d ≤ j ∧ hs.length ≤ sumF (lAt m) j := by
 obtain ⟨f,f1,f2,f3,f4,f5⟩ := hl.floors1 d h1
 have hf : ∀ i,i ≤ d → f i ≤ lAt m i := by
  intro i
  induction i with
  | zero =>
   intro hi
   rcases Nat.eq_or_lt_of_le hi with h0 | h0
   ·rw [h0,f1];exact lAt_pos m d
   ·have := f3 h0
    show f 0 ≤ max (m / 3) 1
    omega
  | succ i ih =>
   intro hi
   rcases Nat.eq_or_lt_of_le hi with h0 | h0
   ·rw [h0,f1];exact lAt_pos m d
   ·have a := f4 i h0
    have b := ih (by omega)
    show f (i + 1) ≤ max (lAt m i / 4) 1
    omega
 have hd : d ≤ j := by
  rcases Nat.lt_or_ge j d with h0 | h0
  ·have a := f2 j h0
   have b := hf j (by omega)
   omega
  ·exact h0
 refine ⟨hd,?_⟩
 rw [f5]
 exact Nat.le_trans (sumF_le d hf) (sumF_mono _ hd)
end Go.Proofs.YtlgciddnpinpbaaGreatDoor
