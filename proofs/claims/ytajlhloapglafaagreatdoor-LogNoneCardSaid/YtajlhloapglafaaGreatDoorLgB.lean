/- What Format leaves. Plain. -/
import Derived.Test.YtajlhloapglafaaGreatDoorLgA
namespace Go.Proofs.YtajlhloapglafaaGreatDoor
open Go.RowKit
set_option linter.unusedSimpArgs false
set_option linter.unusedVariables false
set_option maxRecDepth 4000

theorem sect_fill (D : DS) (a b : Nat) (l : List UInt8) (k : Nat) : (D.fill a b l).sect k = if a ≤ k ∧ k < b then l else D.sect k := by
  show (if a ≤ k ∧ k < b then some l else D.wait k).getD (D.last.getD k []) = _
  split
  · rfl
  · rfl

theorem sect_put (D : DS) (s : Nat) (l : List UInt8) (k : Nat) : (D.put s l).sect k = if k = s then l else D.sect k := by
  show (if k = s then some l else D.wait k).getD (D.last.getD k []) = _
  split
  · rfl
  · rfl

theorem sect_flushed (D : DS) (k : Nat) (hk : k < D.last.length) : D.flushed.sect k = D.sect k := by
  show (D.all).getD k [] = _
  rw [DS.all, List.getD_eq_getElem?_getD, List.getElem?_map, List.getElem?_range hk]; rfl

theorem flushed_len (D : DS) : D.flushed.last.length = D.last.length := DS.all_len D

theorem fmt_fresh {D : DS} {N u ring : Nat} (hc : Calm D N u) (h1 : 8 ≤ ring) (h2 : ring ≤ 512) (h3 : 8 + 2 + ring ≤ N) (h4 : N ≤ 1900) : FreshD (fmtD D N ring 6) N ring := by
  have c1 := hc.fill 0 2 noSect
  have c2 := c1.flushed
  have c3 := c2.fill 2 N noSect
  have c4 := c3.flushed
  have c5 := c4.put 1 (anchorB 1 1 0 ring)
  have c6 := c5.flushed
  have key : ∀ k, k < N → (fmtD D N ring 6).sect k = if k = 1 then anchorB 1 1 0 ring else noSect := by
    intro k hk
    show ((((((D.fill 0 2 noSect).flushed).fill 2 N noSect).flushed).put 1 (anchorB 1 1 0 ring)).flushed).sect k = _
    rw [sect_flushed _ k (by rw [c5.len]; exact hk), sect_put]
    by_cases e : k = 1
    · rw [if_pos e, if_pos e]
    · rw [if_neg e, if_neg e, sect_flushed _ k (by rw [c3.len]; exact hk), sect_fill]
      by_cases e2 : 2 ≤ k ∧ k < N
      · rw [if_pos e2]
      · rw [if_neg e2, sect_flushed _ k (by rw [c1.len]; exact hk), sect_fill, if_pos (by omega)]
  refine ⟨c6.dead, c6.len, h1, h2, h3, h4, ?_, ?_, ?_⟩
  · rw [key 0 (by omega)]; rfl
  · rw [key 1 (by omega)]; rfl
  · intro k hk hkN
    rw [key k hkN, if_neg (by omega)]

theorem fmt_calm {D : DS} {N u ring : Nat} (hc : Calm D N u) (hN : 2 ≤ N) : Calm (fmtD D N ring 6) N (u + N + 1) := by
  have c6 := ((((((hc.fill 0 2 noSect).flushed).fill 2 N noSect).flushed).put 1 (anchorB 1 1 0 ring)).flushed)
  have e : u + (2 - 0) + (N - 2) + 1 = u + N + 1 := by omega
  rw [e] at c6
  exact c6

theorem fmt_lives {D : DS} {N ring : Nat} : (fmtD D N ring 6).lives = D.lives := rfl

/-- code of nil. -/
theorem errorsAs_nil_dummy : True := trivial

end Go.Proofs.YtajlhloapglafaaGreatDoor
