/- What stands in a sector: noughts are no anchor; an anchor's bytes are it. Plain. -/
import Derived.Test.YtajlhloapglafaaGreatDoorLg5
namespace Go.Proofs.YtajlhloapglafaaGreatDoor
open Go.RowKit
set_option linter.unusedSimpArgs false
set_option linter.unusedVariables false
set_option maxRecDepth 4000

theorem leNat_zeros : ∀ n, Lib.leNat (List.replicate n 0) = 0
  | 0 => rfl
  | n + 1 => by rw [List.replicate_succ, Lib.leNat, leNat_zeros n]; rfl

theorem le_none (at_ k : Nat) : le noSect at_ k = 0 := by
  unfold le noSect
  rw [List.drop_replicate, List.take_replicate]
  exact leNat_zeros _

theorem le_at (a b c : List UInt8) (n k v : Nat) (ha : a.length = n) (hb : b = Lib.leBytes k v) (hv : v < 256 ^ k) : le (a ++ b ++ c) n k = v := by
  subst hb
  unfold le
  rw [List.append_assoc, List.drop_append_of_le_length (by omega), List.drop_of_length_le (by omega), List.nil_append, List.take_append_of_le_length (by rw [Lib.leBytes_length]; exact Nat.le_refl _), List.take_of_length_le (by rw [Lib.leBytes_length]; exact Nat.le_refl _)]
  exact Lib.leNat_leBytes k v hv

theorem le_anchor (s turn place ring : Nat) (hs : s < 18446744073709551616) (ht : turn < 18446744073709551616) (hp : place < 4294967296) (hr : ring < 4294967296) :
    le (anchorB s turn place ring) 0 8 = s ∧ le (anchorB s turn place ring) 8 8 = turn ∧ le (anchorB s turn place ring) 16 4 = place ∧ le (anchorB s turn place ring) 20 4 = ring ∧ le (anchorB s turn place ring) 248 8 = s := by
  have l8 : ∀ v, (Lib.leBytes 8 v).length = 8 := fun v => Lib.leBytes_length 8 v
  have l4 : ∀ v, (Lib.leBytes 4 v).length = 4 := fun v => Lib.leBytes_length 4 v
  refine ⟨?_, ?_, ?_, ?_, ?_⟩
  · have := le_at [] (Lib.leBytes 8 s) (Lib.leBytes 8 turn ++ Lib.leBytes 4 place ++ Lib.leBytes 4 ring ++ List.replicate 224 0 ++ Lib.leBytes 8 s) 0 8 s rfl rfl (by omega)
    simpa [anchorB, List.append_assoc] using this
  · have := le_at (Lib.leBytes 8 s) (Lib.leBytes 8 turn) (Lib.leBytes 4 place ++ Lib.leBytes 4 ring ++ List.replicate 224 0 ++ Lib.leBytes 8 s) 8 8 turn (l8 _) rfl (by omega)
    simpa [anchorB, List.append_assoc] using this
  · have := le_at (Lib.leBytes 8 s ++ Lib.leBytes 8 turn) (Lib.leBytes 4 place) (Lib.leBytes 4 ring ++ List.replicate 224 0 ++ Lib.leBytes 8 s) 16 4 place (by simp [l8]) rfl (by omega)
    simpa [anchorB, List.append_assoc] using this
  · have := le_at (Lib.leBytes 8 s ++ Lib.leBytes 8 turn ++ Lib.leBytes 4 place) (Lib.leBytes 4 ring) (List.replicate 224 0 ++ Lib.leBytes 8 s) 20 4 ring (by simp [l8, l4]) rfl (by omega)
    simpa [anchorB, List.append_assoc] using this
  · have := le_at (Lib.leBytes 8 s ++ Lib.leBytes 8 turn ++ Lib.leBytes 4 place ++ Lib.leBytes 4 ring ++ List.replicate 224 0) (Lib.leBytes 8 s) [] 248 8 s (by simp [l8, l4]) rfl (by omega)
    simpa [anchorB, List.append_assoc] using this

end Go.Proofs.YtajlhloapglafaaGreatDoor
