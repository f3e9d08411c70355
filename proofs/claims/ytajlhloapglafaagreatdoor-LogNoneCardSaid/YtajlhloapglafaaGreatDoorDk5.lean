/- The disk's Write. -/
import Derived.Test.YtajlhloapglafaaGreatDoorDk4
import Derived.Deep.RegionHeld3
namespace Go.Proofs.YtajlhloapglafaaGreatDoor
open Go.RowKit
set_option linter.unusedSimpArgs false
set_option linter.unusedVariables false
set_option maxRecDepth 4000

theorem DiskTo.st {W W' : World} {g : Nat} {D' : DS} {own rd : Nat → Prop} (h : DiskTo W g own rd D' W') : ∃ own' rd', St own rd W W' [dA g D' own' rd'] := by
  obtain ⟨own', rd', h1, h2, h3, h4⟩ := h
  refine ⟨own', rd', h2, ?_, ?_, ?_, ?_⟩
  · intro i A hi
    rcases i with _ | i <;> simp at hi
    subst hi; exact h1
  · intro i j A B hi hj hne
    rcases i with _ | i <;> rcases j with _ | j <;> simp at hi hj
    exact absurd rfl hne
  · intro i A hi k hk
    rcases i with _ | i <;> simp at hi
    subst hi; exact (h3 k hk).symm
  · intro i A hi k hk
    rcases i with _ | i <;> simp at hi
    subst hi
    rcases h4 k hk with h | h | h
    · exact .inr (.inl h)
    · exact .inr (.inr h)
    · exact .inl h

/-- A call on a disk goes on behind another one. -/
theorem DiskTo.open_ {W W' : World} {g : Nat} {D : DS} {own rd : Nat → Prop} (h : DiskTo W g own rd D W') :
    ∃ rd' gl gm cap rows junk M tv, D.Fine ∧ rows.length = D.last.length ∧ (rows ++ junk).length = cap ∧
      St own rd W W' [blk g (.cells (dRow (.slice (some ⟨gl, 0, none⟩) D.last.length cap) (.map (some gm)) D.dead D.armed D.n D.part D.way tv D.writes D.lives).toArray 77 (0, 0)),
        blk gl (.cells (rows ++ junk).toArray 22 (0, 0)), mapA gm (Go.Maps.size M) M, payA rd' rows D.last M D.wait tv D.torn] := by
  obtain ⟨own', rd', H⟩ := h.st
  obtain ⟨gl, gm, cap, rows, junk, M, tv, h1, h2, h3, H'⟩ := (H.at 0 rfl : DiskIs W' g D own' rd').open_
  exact ⟨rd', gl, gm, cap, rows, junk, M, tv, h1, h2, h3, H.sub H'⟩

/-- A slice of bytes that comes in: its block is no part of the disk. -/
structure ArgB (w : World) (own : Nat → Prop) (v : Value) (l : List UInt8) : Prop where
  is : ∃ g off cap, v = .slice (some ⟨g, off, none⟩) l.length cap ∧ l.length ≤ cap ∧ BytesAt w g off l ∧ (l = [] ∨ (g < w.heap.size ∧ ¬ own g))
  len : l.length ≤ 1048576

/-- Write: what it says, and the disk behind it. -/
def DS.writeC (D : DS) (i : Int) (l : List UInt8) : Int := if D.may i = 0 then (if l.length = 256 then (if D.failsB then 12 else 0) else 13) else D.may i
def DS.writeD (D : DS) (i : Int) (l : List UInt8) : DS :=
  if D.may i = 0 then (if l.length = 256 then
    (if D.failsB then { D.failsD with way := i, torn := l.take D.part.toNat } else { D.failsD with wait := fun j => if (j : Int) = i then some l else D.wait j, writes := D.writes + 1 }) else D) else D

theorem write_no {w : World} {g : Nat} {D : DS} {own rd : Nat → Prop} (hd : DiskIs w g D own rd) (i : Int) (v : Value) (m : Int) (hm : D.may i = m) (hne : m ≠ 0) :
    Calls Tryz.prog 20 #[.pointer (some ⟨g, 0, none⟩), .int .i64 i, v] w fun e w' => e = .returned (.int .i64 m) ∧ w = w' := by
  have HM := Lib.hid (may_calls hd i)
  rw [hm] at HM
  have b1 : (m == 0) = false := beq_eq_false_iff_ne.2 hne
  have b2 : (m != 0) = true := by simp [bne, b1]
  clear hd hm hne
  go_enter Tryz.func20, Tryz.ntmps20
  go_wp2_with (first | (go_at_call 57; (with_reducible refine (HM.out).mono ?_); rintro e W' ⟨rfl, rfl⟩))
  go_ret
  exact ⟨rfl, rfl⟩

theorem write_short {w : World} {g : Nat} {D : DS} {own rd : Nat → Prop} (hd : DiskIs w g D own rd) (i : Int) (p : Option Addr) (n cap : Nat) (hm : D.may i = 0) (hn : n ≠ 256) :
    Calls Tryz.prog 20 #[.pointer (some ⟨g, 0, none⟩), .int .i64 i, .slice p n cap] w fun e w' => e = .returned (.int .i64 13) ∧ w = w' := by
  have HM := Lib.hid (may_calls hd i)
  rw [hm] at HM
  have b1 : ((n : Int) == 256) = false := beq_eq_false_iff_ne.2 (by omega)
  have b2 : ((n : Int) != 256) = true := by simp [bne, b1]
  clear hd hm hn
  go_enter Tryz.func20, Tryz.ntmps20
  go_wp2_with (first | (go_at_call 57; (with_reducible refine (HM.out).mono ?_); rintro e W' ⟨rfl, rfl⟩))
  go_ret
  exact ⟨rfl, rfl⟩

end Go.Proofs.YtajlhloapglafaaGreatDoor
