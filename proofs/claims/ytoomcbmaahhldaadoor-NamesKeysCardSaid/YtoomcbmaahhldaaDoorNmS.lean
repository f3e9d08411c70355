/- The plain words of layer 3 (names): which bytes are signs, which lists are names. No program. -/
import Derived.WalkKit
namespace Go.Proofs.YtoomcbmaahhldaaDoor
open Go.RowKit

/-- May a byte stand in a name (in front, if first)? -/
def signB (c : UInt8) (first : Bool) : Bool :=
  if 97 ≤ c.toNat ∧ c.toNat ≤ 122 then true
  else if (48 ≤ c.toNat ∧ c.toNat ≤ 57) ∨ c.toNat = 45 ∨ c.toNat = 46 then !first
  else false

/-- Do all bytes of a list serve behind the first one? -/
def tailB (l : List UInt8) : Bool := l.all (fun c => signB c false)

/-- Is a list of bytes a name? -/
def mayB : List UInt8 → Bool
  | [] => false
  | c :: r => signB c true && tailB r && decide (r.length ≤ 13)

/-- The bytes in front of place k serve. -/
def headB : List UInt8 → Nat → Bool
  | _, 0 => true
  | [], _ => true
  | c :: r, k + 1 => signB c true && tailB (r.take k)

theorem headB_succ (l : List UInt8) (k : Nat) (hk : k < l.length) :
    headB l (k + 1) = (headB l k && signB l[k] (k == 0)) := by
  cases l with
  | nil => simp at hk
  | cons c r =>
    cases k with
    | zero => simp [headB, tailB]
    | succ k =>
      have hk' : k < r.length := by simpa using hk
      have : r.take (k + 1) = r.take k ++ [r[k]] := by rw [List.take_succ_eq_append_getElem hk']
      simp only [headB, tailB, this, List.all_append, List.all_cons, List.all_nil, Bool.and_true, List.getElem_cons_succ]
      rw [Bool.and_assoc]; rfl

theorem headB_all (l : List UInt8) (h : l ≠ []) (hl : l.length ≤ 14) : headB l l.length = mayB l := by
  cases l with
  | nil => exact absurd rfl h
  | cons c r =>
    have hr : r.length ≤ 13 := by simp at hl; omega
    simp [headB, mayB, hr]

theorem headB_no (l : List UInt8) (k : Nat) (hk : k < l.length) (h : headB l (k + 1) = false) : mayB l = false := by
  cases l with
  | nil => rfl
  | cons c r =>
    simp only [headB, Bool.and_eq_false_iff] at h
    simp only [mayB]
    rcases h with h | h
    · simp [h]
    · have : tailB r = false := by
        have e : r = r.take k ++ r.drop k := (List.take_append_drop k r).symm
        rw [e]; unfold tailB at h ⊢; rw [List.all_append, h]; rfl
      simp [this]

theorem mayB_long (l : List UInt8) (h : 14 < l.length) : mayB l = false := by
  cases l with
  | nil => rfl
  | cons c r => simp at h; simp [mayB]; omega

end Go.Proofs.YtoomcbmaahhldaaDoor
