/- Texts of this proof, packed: What memory bears, piece by piece: assertions with footprints, and the frame over a step. No program and what follows it. -/
import Derived.WalkKit
import Derived.WalkSpells
import Derived.Lib.Hide
import Derived.Laws.CopyOwn
import Derived.Deep.MidRow
import Derived.Deep.Quiet
import Derived.Stop.BytesEq
import Derived.Laws.BytesArg
import Derived.Test.YtlgciddnpinpbaaGreatDoorRows
import Derived.Lib.EndianMore
import Derived.Lib.EndianBits
import Derived.Lib.LazyBuf
import Derived.Deep.Upon
import Derived.Lib.AppendZerosOnto
import Derived.Maps.RangeWalk
import Derived.Maps.OwnSet
import Derived.Maps.OwnOps
import Derived.Maps.Ext
import Derived.Deep.RegionHeld3
import Derived.Deep.AppendLies
import Derived.Deep.RegionLaw

namespace Go.Proofs.YtlgciddnpinpbaaGreatDoor
open Go.RowKit

/-- From w to w' nothing has turned but blocks of M, and new ones. -/
structure Fix (M : Nat → Prop) (w w' : World) : Prop where
  os : w'.os = w.os
  tape : w'.tape = w.tape
  output : w'.output = w.output
  size : w.heap.size ≤ w'.heap.size
  block : ∀ k, k < w.heap.size → ¬ M k → w'.heap[k]? = w.heap[k]?

def NoBlk : Nat → Prop := fun _ => False

theorem Fix.refl (M : Nat → Prop) (w : World) : Fix M w w := ⟨rfl, rfl, rfl, Nat.le_refl _, fun _ _ _ => rfl⟩
theorem Fix.of_below {w w' : World} (h : Below w.heap.size w w') (M : Nat → Prop) : Fix M w w' := ⟨h.os, h.tape, h.output, h.size, fun k hk _ => h.block k hk⟩
theorem Fix.below {w w' : World} (h : Fix NoBlk w w') : Below w.heap.size w w' := ⟨h.os, h.tape, h.output, h.size, fun k hk => h.block k hk (fun h => h)⟩
theorem Fix.mono {M M' : Nat → Prop} {w w' : World} (h : Fix M w w') (hm : ∀ k, k < w.heap.size → M k → M' k) : Fix M' w w' :=
  ⟨h.os, h.tape, h.output, h.size, fun k hk hn => h.block k hk (fun hM => hn (hm k hk hM))⟩
/-- Two steps: what the second one turns is of M, or new. -/
theorem Fix.trans {M M' : Nat → Prop} {a b c : World} (h : Fix M a b) (k : Fix M' b c) (hm : ∀ i, i < a.heap.size → M' i → M i) : Fix M a c :=
  ⟨k.os.trans h.os, k.tape.trans h.tape, k.output.trans h.output, Nat.le_trans h.size k.size,
   fun i hi hn => (k.block i (Nat.lt_of_lt_of_le hi h.size) (fun hM => hn (hm i hi hM))).trans (h.block i hi hn)⟩
theorem Fix.drew (M : Nat → Prop) (w : World) : Fix M w w.drew := ⟨rfl, rfl, rfl, Nat.le_refl _, fun _ _ _ => rfl⟩
theorem Fix.drewN (M : Nat → Prop) (w : World) (n : Nat) : Fix M w (w.drewN n) := ⟨rfl, rfl, rfl, Nat.le_refl _, fun _ _ _ => rfl⟩
theorem Fix.alloc (M : Nat → Prop) (w : World) (o : Obj) : Fix M w (w.alloc o) :=
  ⟨rfl, rfl, rfl, by simp, fun k hk _ => Below.heap_alloc _ _ _ hk⟩
theorem Fix.setCell (w : World) (a : Addr) (v : Value) : Fix (· = a.block) w (w.setCell a v) :=
  ⟨rfl, rfl, rfl, by simp [World.setCell], fun k _ hn => Below.heap_setCell _ _ _ _ hn⟩
theorem Fix.setRow (w : World) (g : Nat) (cs : Array Value) : Fix (· = g) w (w.setRow g cs) :=
  ⟨rfl, rfl, rfl, by simp [World.setRow], fun k _ hn => setRow_other w g k cs hn⟩
theorem Fix.cell {M : Nat → Prop} {w w' : World} (h : Fix M w w') {p : Addr} (hp : p.block < w.heap.size) (hn : ¬ M p.block) : w'.cell? p = w.cell? p :=
  World.cell?_of_block (w := w) (h.block p.block hp hn)

/-- An assertion on memory: the blocks that it owns, those that it reads, what it says. -/
structure Asrt where
  own : Nat → Prop
  rd : Nat → Prop
  prop : World → Prop
  stable : ∀ W W', (∀ k, own k ∨ rd k → W'.heap[k]? = W.heap[k]?) → prop W → prop W'
  bound : ∀ W, prop W → ∀ k, own k ∨ rd k → k < W.heap.size

/-- Block g bears o, and may be written. -/
def blk (g : Nat) (o : Obj) : Asrt where
  own k := k = g
  rd _ := False
  prop W := W.heap[g]? = some o
  stable _ _ h hp := (h g (.inl rfl)).trans hp
  bound W hp k hk := by
    rcases hk with rfl | hk
    · exact (Array.getElem?_eq_some_iff.1 hp).1
    · exact hk.elim

/-- Block g bears o, and stays so. -/
def imm (g : Nat) (o : Obj) : Asrt where
  own _ := False
  rd k := k = g
  prop W := W.heap[g]? = some o
  stable _ _ h hp := (h g (.inr rfl)).trans hp
  bound W hp k hk := by
    rcases hk with hk | rfl
    · exact hk.elim
    · exact (Array.getElem?_eq_some_iff.1 hp).1

/-- A fact of no block. -/
def pureA (p : Prop) : Asrt := ⟨NoBlk, NoBlk, fun _ => p, fun _ _ _ h => h, fun _ _ _ hk => (hk.elim id id).elim⟩

/-- Two assertions do not meet. -/
def Apart (A B : Asrt) : Prop := (∀ k, A.own k → ¬ B.own k) ∧ (∀ k, A.own k → ¬ B.rd k) ∧ (∀ k, B.own k → ¬ A.rd k)

theorem Apart.symm {A B : Asrt} (h : Apart A B) : Apart B A := ⟨fun k hb ha => h.1 k ha hb, h.2.2, h.2.1⟩

/-- The state of a call: it began in w0 (where it may turn M0's blocks and read R0's); memory bears the assertions of L now. -/
structure St (M0 R0 : Nat → Prop) (w0 W : World) (L : List Asrt) : Prop where
  fix : Fix M0 w0 W
  all : ∀ (i : Nat) (A : Asrt), L[i]? = some A → A.prop W
  apart : ∀ (i j : Nat) (A B : Asrt), L[i]? = some A → L[j]? = some B → i ≠ j → Apart A B
  mine : ∀ (i : Nat) (A : Asrt), L[i]? = some A → ∀ k, A.own k → w0.heap.size ≤ k ∨ M0 k
  reads : ∀ (i : Nat) (A : Asrt), L[i]? = some A → ∀ k, A.rd k → w0.heap.size ≤ k ∨ M0 k ∨ R0 k

theorem St.nil (M0 R0 : Nat → Prop) (w : World) : St M0 R0 w w [] :=
  ⟨Fix.refl _ _, fun _ _ h => by simp at h, fun _ _ _ _ h => by simp at h, fun _ _ h => by simp at h, fun _ _ h => by simp at h⟩

/-- A call that begins with one assertion. -/
theorem St.one {A : Asrt} {w : World} (h : A.prop w) : St A.own A.rd w w [A] := by
  refine ⟨Fix.refl _ _, ?_, ?_, ?_, ?_⟩
  · intro i B hi
    rcases i with _ | i
    · simp at hi; subst hi; exact h
    · simp at hi
  · intro i j B C hi hj hne
    rcases i with _ | i <;> rcases j with _ | j <;> first | omega | simp at hi hj
  · intro i B hi k hk
    rcases i with _ | i
    · simp at hi; subst hi; exact .inr hk
    · simp at hi
  · intro i B hi k hk
    rcases i with _ | i
    · simp at hi; subst hi; exact .inr (.inr hk)
    · simp at hi

/-- What A has become is A's own, or new; what it reads was A's, or is new. -/
def Grew (w : World) (A A' : Asrt) : Prop :=
  (∀ k, A'.own k → A.own k ∨ w.heap.size ≤ k) ∧ (∀ k, A'.rd k → A.own k ∨ A.rd k ∨ w.heap.size ≤ k)

theorem Grew.refl (w : World) (A : Asrt) : Grew w A A := ⟨fun _ h => .inl h, fun _ h => .inr (.inl h)⟩

/-- THE STEP: assertion i is turned, and no other. -/
theorem St.step {M0 R0 : Nat → Prop} {w0 W W' : World} {L : List Asrt} (H : St M0 R0 w0 W L) (i : Nat) {A A' : Asrt} (hi : L[i]? = some A)
    (hf : Fix A.own W W') (hp : A'.prop W') (hg : Grew W A A') : St M0 R0 w0 W' (L.set i A') := by
  have hlt : i < L.length := (List.getElem?_eq_some_iff.1 hi).1
  have hget : ∀ (j : Nat) (B : Asrt), (L.set i A')[j]? = some B → (j = i ∧ B = A') ∨ (j ≠ i ∧ L[j]? = some B) := by
    intro j B hj
    rw [List.getElem?_set] at hj
    split at hj
    · rename_i e
      exact .inl ⟨e.symm, (Option.some.inj hj).symm⟩
    · rename_i e
      exact .inr ⟨fun h => e h.symm, hj⟩
  have hap : ∀ (j : Nat) (B : Asrt), j ≠ i → L[j]? = some B → Apart A' B := by
    intro j B hne hB
    have h0 := H.apart i j A B hi hB (fun e => hne e.symm)
    have hb := H.all j B hB
    refine ⟨fun k hk hBk => ?_, fun k hk hBk => ?_, fun k hBk hk => ?_⟩
    · rcases hg.1 k hk with h | h
      · exact h0.1 k h hBk
      · have := B.bound W hb k (.inl hBk); omega
    · rcases hg.1 k hk with h | h
      · exact h0.2.1 k h hBk
      · have := B.bound W hb k (.inr hBk); omega
    · rcases hg.2 k hk with h | h | h
      · exact h0.1 k h hBk
      · exact h0.2.2 k hBk h
      · have := B.bound W hb k (.inl hBk); omega
  refine ⟨?_, ?_, ?_, ?_, ?_⟩
  · refine H.fix.trans hf (fun k hk hA => ?_)
    rcases H.mine i A hi k hA with h | h
    · omega
    · exact h
  · intro j B hj
    rcases hget j B hj with ⟨rfl, rfl⟩ | ⟨hne, hB⟩
    · exact hp
    · have hb := H.all j B hB
      have h0 := H.apart i j A B hi hB (fun e => hne e.symm)
      refine B.stable W W' (fun k hk => hf.block k (B.bound W hb k hk) (fun hA => ?_)) hb
      rcases hk with hk | hk
      · exact h0.1 k hA hk
      · exact h0.2.1 k hA hk
  · intro j l B C hj hl hne
    rcases hget j B hj with ⟨rfl, rfl⟩ | ⟨h1, hB⟩ <;> rcases hget l C hl with ⟨rfl, rfl⟩ | ⟨h2, hC⟩
    · exact absurd rfl hne
    · exact hap l C h2 hC
    · exact (hap j B h1 hB).symm
    · exact H.apart j l B C hB hC hne
  · intro j B hj k hk
    rcases hget j B hj with ⟨rfl, rfl⟩ | ⟨_, hB⟩
    · rcases hg.1 k hk with h | h
      · exact H.mine j A hi k h
      · have := H.fix.size; exact .inl (by omega)
    · exact H.mine j B hB k hk
  · intro j B hj k hk
    rcases hget j B hj with ⟨rfl, rfl⟩ | ⟨_, hB⟩
    · rcases hg.2 k hk with h | h | h
      · rcases H.mine j A hi k h with h | h
        · exact .inl h
        · exact .inr (.inl h)
      · exact H.reads j A hi k h
      · have := H.fix.size; exact .inl (by omega)
    · exact H.reads j B hB k hk

/-- Nothing that was there has turned. -/
theorem St.stay {M0 R0 : Nat → Prop} {w0 W W' : World} {L : List Asrt} (H : St M0 R0 w0 W L) (hf : Fix NoBlk W W') : St M0 R0 w0 W' L := by
  refine ⟨H.fix.trans hf (fun _ _ h => h.elim), fun i A hi => ?_, H.apart, H.mine, H.reads⟩
  exact A.stable W W' (fun k hk => hf.block k (A.bound W (H.all i A hi) k hk) (fun h => h)) (H.all i A hi)

/-- A new assertion, on new blocks (it may read what others read). -/
theorem St.add {M0 R0 : Nat → Prop} {w0 W W' : World} {L : List Asrt} (H : St M0 R0 w0 W L) (hf : Fix NoBlk W W') (A : Asrt) (hp : A.prop W')
    (ho : ∀ k, A.own k → W.heap.size ≤ k) (hr : ∀ k, A.rd k → W.heap.size ≤ k ∨ ((w0.heap.size ≤ k ∨ M0 k ∨ R0 k) ∧ ∀ B ∈ L, ¬ B.own k)) : St M0 R0 w0 W' (L ++ [A]) := by
  have H' := H.stay hf
  have hget : ∀ (j : Nat) (B : Asrt), (L ++ [A])[j]? = some B → (j = L.length ∧ B = A) ∨ (j < L.length ∧ L[j]? = some B) := by
    intro j B hj
    rw [List.getElem?_append] at hj
    split at hj
    · exact .inr ⟨by assumption, hj⟩
    · rename_i hlt
      have : j - L.length = 0 := by
        have := (List.getElem?_eq_some_iff.1 hj).1
        simp at this; omega
      rw [this] at hj
      exact .inl ⟨by omega, (by simpa using hj : A = B).symm⟩
  have hap : ∀ (j : Nat) (B : Asrt), L[j]? = some B → Apart A B := by
    intro j B hB
    have hb := H.all j B hB
    refine ⟨fun k hk hBk => ?_, fun k hk hBk => ?_, fun k hBk hk => ?_⟩
    · have := B.bound W hb k (.inl hBk); have := ho k hk; omega
    · have := B.bound W hb k (.inr hBk); have := ho k hk; omega
    · rcases hr k hk with h | ⟨_, h⟩
      · have := B.bound W hb k (.inl hBk); omega
      · exact h B (List.mem_of_getElem? hB) hBk
  refine ⟨H'.fix, ?_, ?_, ?_, ?_⟩
  · intro j B hj
    rcases hget j B hj with ⟨rfl, rfl⟩ | ⟨_, hB⟩
    · exact hp
    · exact H'.all j B hB
  · intro j l B C hj hl hne
    rcases hget j B hj with ⟨e1, rfl⟩ | ⟨_, hB⟩ <;> rcases hget l C hl with ⟨e2, rfl⟩ | ⟨_, hC⟩
    · omega
    · exact hap l C hC
    · exact (hap j B hB).symm
    · exact H.apart j l B C hB hC hne
  · intro j B hj k hk
    rcases hget j B hj with ⟨rfl, rfl⟩ | ⟨_, hB⟩
    · have := ho k hk; have := H.fix.size; exact .inl (by omega)
    · exact H.mine j B hB k hk
  · intro j B hj k hk
    rcases hget j B hj with ⟨rfl, rfl⟩ | ⟨_, hB⟩
    · rcases hr k hk with h | ⟨h, _⟩
      · have := H.fix.size; exact .inl (by omega)
      · exact h
    · exact H.reads j B hB k hk

/-- Nothing. -/
def emp : Asrt := pureA True

/-- TWO ASSERTIONS BECOME ONE: j takes i's blocks over; the world stays. -/
theorem St.join {M0 R0 : Nat → Prop} {w0 W : World} {L : List Asrt} (H : St M0 R0 w0 W L) (i j : Nat) {A B A' : Asrt} (hi : L[i]? = some B) (hj : L[j]? = some A)
    (hp : A'.prop W) (ho : ∀ k, A'.own k → A.own k ∨ B.own k) (hr : ∀ k, A'.rd k → (A.own k ∨ A.rd k) ∨ (B.own k ∨ B.rd k)) : St M0 R0 w0 W ((L.set i emp).set j A') := by
  have hjl : j < L.length := (List.getElem?_eq_some_iff.1 hj).1
  have hil : i < L.length := (List.getElem?_eq_some_iff.1 hi).1
  have hget : ∀ (m : Nat) (C : Asrt), ((L.set i emp).set j A')[m]? = some C → (m = j ∧ C = A') ∨ (m = i ∧ C = emp) ∨ (m ≠ i ∧ m ≠ j ∧ L[m]? = some C) := by
    intro m C hm
    rw [List.getElem?_set] at hm
    split at hm
    · rename_i e
      split at hm
      · exact .inl ⟨e.symm, (Option.some.inj hm).symm⟩
      · cases hm
    · rename_i e
      rw [List.getElem?_set] at hm
      split at hm
      · rename_i e2
        exact .inr (.inl ⟨e2.symm, (Option.some.inj hm).symm⟩)
      · rename_i e2
        exact .inr (.inr ⟨fun h => e2 h.symm, fun h => e h.symm, hm⟩)
  have hemp : ∀ C : Asrt, Apart emp C := fun C => ⟨fun _ h => h.elim, fun _ h => h.elim, fun _ _ h => h.elim⟩
  have hap : ∀ (m : Nat) (C : Asrt), m ≠ i → m ≠ j → L[m]? = some C → Apart A' C := by
    intro m C h1 h2 hC
    have a1 := H.apart j m A C hj hC (fun e => h2 e.symm)
    have a2 := H.apart i m B C hi hC (fun e => h1 e.symm)
    refine ⟨fun k hk hCk => ?_, fun k hk hCk => ?_, fun k hCk hk => ?_⟩
    · rcases ho k hk with h | h
      · exact a1.1 k h hCk
      · exact a2.1 k h hCk
    · rcases ho k hk with h | h
      · exact a1.2.1 k h hCk
      · exact a2.2.1 k h hCk
    · rcases hr k hk with (h | h) | (h | h)
      · exact a1.1 k h hCk
      · exact a1.2.2 k hCk h
      · exact a2.1 k h hCk
      · exact a2.2.2 k hCk h
  refine ⟨H.fix, ?_, ?_, ?_, ?_⟩
  · intro m C hm
    rcases hget m C hm with ⟨_, rfl⟩ | ⟨_, rfl⟩ | ⟨_, _, hC⟩
    · exact hp
    · exact trivial
    · exact H.all m C hC
  · intro m l C E hm hl hml
    rcases hget m C hm with ⟨e1, rfl⟩ | ⟨e1, rfl⟩ | ⟨e1, e1', hC⟩ <;> rcases hget l E hl with ⟨e2, rfl⟩ | ⟨e2, rfl⟩ | ⟨e2, e2', hE⟩
    · omega
    · exact (hemp _).symm
    · exact hap l E e2 e2' hE
    · exact hemp _
    · exact hemp _
    · exact hemp _
    · exact (hap m C e1 e1' hC).symm
    · exact (hemp _).symm
    · exact H.apart m l C E hC hE hml
  · intro m C hm k hk
    rcases hget m C hm with ⟨_, rfl⟩ | ⟨_, rfl⟩ | ⟨_, _, hC⟩
    · rcases ho k hk with h | h
      · exact H.mine j A hj k h
      · exact H.mine i B hi k h
    · exact hk.elim
    · exact H.mine m C hC k hk
  · intro m C hm k hk
    rcases hget m C hm with ⟨_, rfl⟩ | ⟨_, rfl⟩ | ⟨_, _, hC⟩
    · rcases hr k hk with (h | h) | (h | h)
      · rcases H.mine j A hj k h with h | h
        · exact .inl h
        · exact .inr (.inl h)
      · exact H.reads j A hj k h
      · rcases H.mine i B hi k h with h | h
        · exact .inl h
        · exact .inr (.inl h)
      · exact H.reads i B hi k h
    · exact hk.elim
    · exact H.reads m C hC k hk

theorem St.at {M0 R0 : Nat → Prop} {w0 W : World} {L : List Asrt} (H : St M0 R0 w0 W L) (i : Nat) {A : Asrt} (hi : L[i]? = some A) : A.prop W := H.all i A hi

/-- Two blocks that are apart are two. -/
theorem St.ne {M0 R0 : Nat → Prop} {w0 W : World} {L : List Asrt} (H : St M0 R0 w0 W L) (i j : Nat) {g h : Nat} {x y : Obj} (hi : L[i]? = some (blk g x)) (hj : L[j]? = some (blk h y)) (hne : i ≠ j) : g ≠ h :=
  fun e => (H.apart i j _ _ hi hj hne).1 g rfl e

end Go.Proofs.YtlgciddnpinpbaaGreatDoor

namespace Go.Proofs.YtlgciddnpinpbaaGreatDoor
open Go.RowKit

variable {P : Program} {ops : Array Oper} {rest : List Oper} {o : Oper} {a : Act} {Q : Exit → Act → World → Prop}
variable {M0 R0 : Nat → Prop} {w0 W : World} {L : List Asrt}

/-- A new block. -/
theorem St.alloc (H : St M0 R0 w0 W L) (x : Obj) : St M0 R0 w0 (W.alloc x) (L ++ [blk W.heap.size x]) :=
  H.add (Fix.alloc _ W x) (blk W.heap.size x) (heap_alloc_new W x) (fun _ h => Nat.le_of_eq h.symm) (fun _ h => h.elim)

/-- A new block that nobody writes. -/
theorem St.allocImm (H : St M0 R0 w0 W L) (x : Obj) : St M0 R0 w0 (W.alloc x) (L ++ [imm W.heap.size x]) :=
  H.add (Fix.alloc _ W x) (imm W.heap.size x) (heap_alloc_new W x) (fun _ h => h.elim) (fun _ h => .inl (Nat.le_of_eq h.symm))

theorem St.drew (H : St M0 R0 w0 W L) : St M0 R0 w0 W.drew L := H.stay (Fix.drew _ W)

/-- A row is written anew. -/
theorem St.setRow (H : St M0 R0 w0 W L) (i : Nat) {g : Nat} {cs : Array Value} {t : TypeId} {fr : Nat × Nat} (hi : L[i]? = some (blk g (.cells cs t fr))) (cs' : Array Value) :
    St M0 R0 w0 (W.setRow g cs') (L.set i (blk g (.cells cs' t fr))) :=
  H.step i hi (Fix.setRow W g cs') (setRow_heap W g cs cs' t fr (H.at i hi)) ⟨fun _ h => .inl h, fun _ h => h.elim⟩

/-- An operation that is wanted (it has no guard, or its guard says so). -/
theorem wpList_want (hwt : Region.wanted o (yielded ops a.tmps) = true) (h : ∀ K : Act → World → Prop, (∀ a w, wpList P ops Q rest a w → K a w) → o.wp P a W K Q) : wpList P ops Q (o :: rest) a W :=
  wpList_step fun K hK => by rw [if_pos hwt]; exact h K hK

theorem wp_alloc (T : TypeId) (ho : o.op = .alloc T) (z : Value) (hz : (P.info? T).bind (·.zero) = some z) {K : Act → World → Prop}
    (h : K (a.put o.dst (.pointer (some ⟨W.heap.size, 0, none⟩))) (W.alloc (.cells z.cells T))) : o.wp P a W K Q := by
  obtain ⟨i, hi, hzz⟩ := Option.bind_eq_some_iff.1 hz
  unfold Oper.wp execOp
  simp [ho, Instr.alloc, zeroValue, typeInfo, hi, hzz, newVar, newRow, Result.andThen]
  exact h

theorem wpList_alloc_st (H : St M0 R0 w0 W L) (hwt : Region.wanted o (yielded ops a.tmps) = true) (T : TypeId) (ho : o.op = .alloc T) (z : Value) (hz : (P.info? T).bind (·.zero) = some z)
    (h : ∀ W' g, St M0 R0 w0 W' (L ++ [blk g (.cells z.cells T)]) → wpList P ops Q rest (a.put o.dst (.pointer (some ⟨g, 0, none⟩))) W') : wpList P ops Q (o :: rest) a W :=
  wpList_want hwt fun _ hK => wp_alloc T ho z hz (hK _ _ (h _ _ (H.alloc _)))

theorem wpList_box_st (H : St M0 R0 w0 W L) (hwt : Region.wanted o (yielded ops a.tmps) = true) (T : TypeId) (x : Operand) (ho : o.op = .box T x) (v : Value) (hv : a.eval x = v)
    (h : ∀ W' g, St M0 R0 w0 W' (L ++ [blk g (.cells v.cells T)]) → wpList P ops Q rest (a.put o.dst (.pointer (some ⟨g, 0, none⟩))) W') : wpList P ops Q (o :: rest) a W := by
  refine wpList_want hwt fun K hK => ?_
  have h' := hK _ _ (h _ _ (H.alloc (.cells v.cells T)))
  unfold Oper.wp execOp
  simp [ho, Instr.box, newVar, newRow, Result.andThen, hv]
  exact h'

/-- A whole row is loaded. -/
theorem wpList_loadrow_st (hwt : Region.wanted o (yielded ops a.tmps) = true) (ty : TypeId) (x : Operand) (ho : o.op = .load ty x) (g : Nat) (hx : a.eval x = .pointer (some ⟨g, 0, none⟩))
    (cs : Array Value) (t : TypeId) (fr : Nat × Nat) (hg : W.heap[g]? = some (.cells cs t fr)) (d : TypeDesc) (hu : P.underlying ty = some d)
    (hd : (match d with | .struct _ | .array _ _ => true | _ => false) = true) (hi : (P.info? ty).map (·.size) = some cs.size)
    (h : wpList P ops Q rest (a.put o.dst (.agg cs)) W) : wpList P ops Q (o :: rest) a W :=
  wpList_want hwt fun _ hK => wp_load_row ty x ho g hx t cs fr d hg hu hd hi (hK _ _ h)

/-- A whole row is stored. -/
theorem wpList_storerow_st (H : St M0 R0 w0 W L) (i : Nat) (hwt : Region.wanted o (yielded ops a.tmps) = true) (ty : TypeId) (x y : Operand) (ho : o.op = .store ty x y)
    (g : Nat) (cs : Array Value) (hx : a.eval x = .pointer (some ⟨g, 0, none⟩)) (hy : a.eval y = .agg cs)
    (t : TypeId) (old : Array Value) (hi : L[i]? = some (blk g (.cells old t (0, 0)))) (hn : (P.info? ty).map (·.size) = some cs.size)
    (hold : old.size = cs.size) (h1 : cs.all (·.oneCell') = true)
    (h : ∀ W', St M0 R0 w0 W' (L.set i (blk g (.cells cs t (0, 0)))) → wpList P ops Q rest (a.put o.dst undef) W') : wpList P ops Q (o :: rest) a W :=
  wpList_want hwt fun _ hK => wp_store_row ty x y ho g cs hx hy t old (H.at i hi) hn hold h1 (hK _ _ (h _ (H.setRow i hi cs)))

/-- One cell is loaded. -/
theorem wpList_load1_st (hwt : Region.wanted o (yielded ops a.tmps) = true) (ty : TypeId) (x : Operand) (ho : o.op = .load ty x) (g off : Nat) (hx : a.eval x = .pointer (some ⟨g, off, none⟩))
    (cs : Array Value) (t : TypeId) (fr : Nat × Nat) (hg : W.heap[g]? = some (.cells cs t fr)) (d : TypeDesc) (hu : P.underlying ty = some d)
    (hd : (match d with | .struct _ | .array _ _ => true | _ => false) = false) (v : Value) (hv : cs[off]? = some v)
    (h : wpList P ops Q rest (a.put o.dst v) W) : wpList P ops Q (o :: rest) a W := by
  refine wpList_want hwt fun K hK => ?_
  have hc : W.cell? ⟨g, off, none⟩ = some v := by rw [cell_of_row W g off cs t fr hg]; exact hv
  have hagg : (isAgg ty).run P W = .ok false W := by
    unfold isAgg
    rw [Sem.run_bind, run_underlying hu W]
    cases d <;> simp_all
  unfold Oper.wp execOp
  simp only [ho, hx, Instr.loadAt, Instr.sureAddr, Sem.run_bind, Sem.run_pure, Result.andThen_ok, loadVar, hagg]
  have hl : (load ⟨g, off, none⟩).run P W = .ok v W := by simp [load, Sem.run, hc]
  simp [hl, Result.andThen]
  exact hK _ _ h

/-- One cell is stored. -/
theorem wpList_store1_st (H : St M0 R0 w0 W L) (i : Nat) (hwt : Region.wanted o (yielded ops a.tmps) = true) (ty : TypeId) (x y : Operand) (ho : o.op = .store ty x y)
    (g off : Nat) (v : Value) (hx : a.eval x = .pointer (some ⟨g, off, none⟩)) (hy : a.eval y = v) (h1 : v.oneCell' = true)
    (t : TypeId) (old : Array Value) (hi : L[i]? = some (blk g (.cells old t (0, 0)))) (hn : (P.info? ty).map (·.size) = some 1) (hoff : off < old.size)
    (h : ∀ W', St M0 R0 w0 W' (L.set i (blk g (.cells (old.setIfInBounds off v) t (0, 0)))) → wpList P ops Q rest (a.put o.dst undef) W') : wpList P ops Q (o :: rest) a W := by
  refine wpList_want hwt fun K hK => ?_
  have hg := H.at i hi
  have hc : W.cell? ⟨g, off, none⟩ = some old[off] := by rw [cell_of_row W g off old t (0, 0) hg]; simp [hoff]
  have hf : W.frozen? ⟨g, off, none⟩ = false := frozen_of_row W g off old t hg
  have h' := hK _ _ (h _ (H.setRow i hi (old.setIfInBounds off v)))
  have hcells : v.cells = #[v] := by cases v <;> first | rfl | simp [Value.oneCell'] at h1
  have hst : (store ⟨g, off, none⟩ v).run P W = .ok () (W.setRow g (old.setIfInBounds off v)) := by
    rw [run_store P W _ v _ h1, hc]
    simp [hf, setCell_eq_setRow W g off old t (0, 0) v hg]
  cases hq : P.info? ty with
  | none => simp [hq] at hn
  | some i =>
    have hs : i.size = 1 := by simpa [hq] using hn
    have hadd : (⟨g, off, none⟩ : Addr).add 0 = ⟨g, off, none⟩ := by simp [Addr.add]
    unfold Oper.wp execOp
    simp [ho, hx, hy, Instr.storeAt, Instr.sureAddr, storeVar, sizeOf, typeInfo, hq, hs, hcells, storeCells, hadd, hst, Result.andThen]
    exact h'

/-- A string's bytes, as cells. -/
def byteV (l : List UInt8) : List Value := l.map fun b => Value.int .u8 b.toNat
theorem byteV_one (l : List UInt8) : ∀ v ∈ byteV l, v.oneCell' = true := by
  intro v hv
  obtain ⟨_, _, rfl⟩ := List.mem_map.1 hv
  rfl
@[simp] theorem byteV_length (l : List UInt8) : (byteV l).length = l.length := by simp [byteV]
theorem byteV_get (l : List UInt8) (i : Nat) : (byteV l)[i]? = (l[i]?).map fun b => Value.int .u8 b.toNat := by simp [byteV]

/-- Bytes as an array's value. -/
def arrV (l : List UInt8) : Value := .agg (byteV l).toArray
theorem cells_arrV (l : List UInt8) : (arrV l).cells = (byteV l).toArray := rfl
theorem byteV_all (l : List UInt8) : (byteV l).toArray.all (·.oneCell') = true := all_oneCell_toArray (byteV_one l)
theorem byteV_set (l : List UInt8) (i : Nat) (b : UInt8) : (byteV l).toArray.setIfInBounds i (.int .u8 b.toNat) = (byteV (l.set i b)).toArray := by
  simp [byteV]

/-- A whole array of bytes is loaded. -/
theorem wpList_loadarr_st (hwt : Region.wanted o (yielded ops a.tmps) = true) (ty : TypeId) (x : Operand) (ho : o.op = .load ty x) (g : Nat) (hx : a.eval x = .pointer (some ⟨g, 0, none⟩))
    (l : List UInt8) (t : TypeId) (fr : Nat × Nat) (hg : W.heap[g]? = some (.cells (byteV l).toArray t fr)) (d : TypeDesc) (hu : P.underlying ty = some d)
    (hd : (match d with | .struct _ | .array _ _ => true | _ => false) = true) (n : Nat) (hi : (P.info? ty).map (·.size) = some n) (hl : l.length = n)
    (h : wpList P ops Q rest (a.put o.dst (arrV l)) W) : wpList P ops Q (o :: rest) a W :=
  wpList_want hwt fun _ hK => wp_load_row ty x ho g hx t (byteV l).toArray fr d hg hu hd (by rw [hi]; simp [hl]) (hK _ _ h)

/-- A whole array of bytes is stored. -/
theorem wpList_storearr_st (H : St M0 R0 w0 W L) (i : Nat) (hwt : Region.wanted o (yielded ops a.tmps) = true) (ty : TypeId) (x y : Operand) (ho : o.op = .store ty x y)
    (g : Nat) (l : List UInt8) (hx : a.eval x = .pointer (some ⟨g, 0, none⟩)) (hy : a.eval y = arrV l)
    (t : TypeId) (old : List UInt8) (hi : L[i]? = some (blk g (.cells (byteV old).toArray t (0, 0)))) (n : Nat) (hn : (P.info? ty).map (·.size) = some n)
    (hold : old.length = n) (hl : l.length = n)
    (h : ∀ W', St M0 R0 w0 W' (L.set i (blk g (.cells (byteV l).toArray t (0, 0)))) → wpList P ops Q rest (a.put o.dst undef) W') : wpList P ops Q (o :: rest) a W :=
  wpList_want hwt fun _ hK => wp_store_row ty x y ho g (byteV l).toArray hx hy t _ (H.at i hi) (by rw [hn]; simp [hl]) (by simp [hold, hl]) (byteV_all _) (hK _ _ (h _ (H.setRow i hi _)))

/-- copy(x[..], s): a string's bytes go into a row. -/
theorem wpList_copystr_st (H : St M0 R0 w0 W L) (i : Nat) (hwt : Region.wanted o (yielded ops a.tmps) = true) (d s : Operand) (dT sT : TypeId)
    (ho : o.op = .call { callee := .builtin .copy, args := #[d, s], argTypes := #[dT, sT] }) (elem : TypeId) (hu : P.underlying dT = some (.slice elem)) (hsz : (P.info? elem).map (·.size) = some 1)
    (g off dLen dCap : Nat) (hd : a.eval d = .slice (some ⟨g, off, none⟩) dLen dCap) (b : ByteArray) (hs : a.eval s = .string b)
    (old : List UInt8) (t : TypeId) (hi : L[i]? = some (blk g (.cells (byteV old).toArray t (0, 0)))) (hn : b.size ≤ dLen) (hfit : off + b.size ≤ old.length)
    (h : ∀ W', St M0 R0 w0 W' (L.set i (blk g (.cells (byteV (old.take off ++ b.data.toList ++ old.drop (off + b.size))).toArray t (0, 0)))) → wpList P ops Q rest (a.put o.dst (goInt b.size)) W') :
    wpList P ops Q (o :: rest) a W := by
  refine wpList_want hwt fun K hK => ?_
  have hg := H.at i hi
  have hbs : b.data.toList.length = b.size := by simp
  have hst := run_storeCells_at P g off t (byteV b.data.toList) 0 _ W hg (by simp; omega) (byteV_one _)
  have e1 : (b.extract 0 b.size).data.map (fun c => Value.int .u8 c.toNat) = (byteV b.data.toList).toArray := by
    have : b.extract 0 b.size = b := by
      apply ByteArray.ext; simp
    rw [this]
    apply Array.ext'
    simp [byteV]
  have e2 : Nat.min b.size dLen = b.size := Nat.min_eq_left hn
  have e3 : ((byteV old).take off ++ byteV b.data.toList ++ (byteV old).drop (off + b.size)) = byteV (old.take off ++ b.data.toList ++ old.drop (off + b.size)) := by
    simp [byteV]
  simp only [Nat.add_zero, byteV_length, hbs] at hst
  rw [e3] at hst
  have h' := hK _ _ (h _ (H.setRow i hi _))
  cases hq : P.info? elem with
  | none => simp [hq] at hsz
  | some j =>
    have hj : j.size = 1 := by simpa [hq] using hsz
    have hfc : (Builtin.firstCells j.size b.size (.string b)).run P W = .ok (byteV b.data.toList).toArray W := by
      simp only [Builtin.firstCells, e1]
      rfl
    have hrun : (Builtin.copy_ #[dT, sT] o.type #[.slice (some ⟨g, off, none⟩) dLen dCap, .string b]).run P W = .ok (goInt b.size) (W.setRow g (byteV (old.take off ++ b.data.toList ++ old.drop (off + b.size))).toArray) := by
      simp [Builtin.copy_, run_underlying hu, Builtin.lenOf, sizeOf, typeInfo, hq, e2, hfc, hst]
    unfold Oper.wp
    simp [execOp, ho, resolve, invoke, builtin, hd, hs, hrun, Result.andThen]
    rw [← List.append_assoc]
    exact h'

/-- Two arrays of bytes are the same, or not. -/
theorem wpList_eqarr (hwt : Region.wanted o (yielded ops a.tmps) = true) (T T' : TypeId) (x y : Operand) (ho : o.op = .binOp .eql T x y T') (l m : List UInt8) (hx : a.eval x = arrV l) (hy : a.eval y = arrV m)
    (e : TypeId) (n : Nat) (hu : P.underlying T = some (.array n e)) (he : P.underlying e = some (.int .u8)) (hsz : (P.info? e).map (·.size) = some 1) (hgd : P.eqGuardType P.depth T = false) (hl : l.length = n) (hm : m.length = n)
    (h : wpList P ops Q rest (a.put o.dst (.bool (l == m))) W) : wpList P ops Q (o :: rest) a W := by
  refine wpList_want hwt fun K hK => ?_
  have hz : ∀ w, (sizeOf e).run P w = .ok 1 w := fun w => by
    cases hq : P.info? e with
    | none => simp [hq] at hsz
    | some i =>
      have hi : i.size = 1 := by simpa [hq] using hsz
      simp [sizeOf, typeInfo, hq, hi]
  have hrun := run_eql_bytes (P := P) W T e n hu he hz l m hl hm
  have hg := run_eqGuard_agg (P := P) W .eql T x y (l.map Extern.Stop.cell).toArray (m.map Extern.Stop.cell).toArray hgd
  unfold Oper.wp execOp
  simp only [ho, hx, hy]
  have e1 : arrV l = .agg (l.map Extern.Stop.cell).toArray := rfl
  have e2 : arrV m = .agg (m.map Extern.Stop.cell).toArray := rfl
  rw [e1, e2]
  simp only [Sem.run_bind, hg, hrun, Result.andThen_ok, Sem.run_pure]
  exact hK _ _ h

theorem wpList_nearr (hwt : Region.wanted o (yielded ops a.tmps) = true) (T T' : TypeId) (x y : Operand) (ho : o.op = .binOp .neq T x y T') (l m : List UInt8) (hx : a.eval x = arrV l) (hy : a.eval y = arrV m)
    (e : TypeId) (n : Nat) (hu : P.underlying T = some (.array n e)) (he : P.underlying e = some (.int .u8)) (hsz : (P.info? e).map (·.size) = some 1) (hgd : P.eqGuardType P.depth T = false) (hl : l.length = n) (hm : m.length = n)
    (h : wpList P ops Q rest (a.put o.dst (.bool (!(l == m)))) W) : wpList P ops Q (o :: rest) a W := by
  refine wpList_want hwt fun K hK => ?_
  have hz : ∀ w, (sizeOf e).run P w = .ok 1 w := fun w => by
    cases hq : P.info? e with
    | none => simp [hq] at hsz
    | some i =>
      have hi : i.size = 1 := by simpa [hq] using hsz
      simp [sizeOf, typeInfo, hq, hi]
  have hrun : (binOp .neq T (.agg (l.map Extern.Stop.cell).toArray) (.agg (m.map Extern.Stop.cell).toArray)).run P W = .ok (.bool (!(l == m))) W := by
    rw [run_neq_struct, run_equalIn_bytes W 9998 T e n hu he hz l m hl hm]; rfl
  have hg := run_eqGuard_agg (P := P) W .neq T x y (l.map Extern.Stop.cell).toArray (m.map Extern.Stop.cell).toArray hgd
  unfold Oper.wp execOp
  simp only [ho, hx, hy]
  have e1 : arrV l = .agg (l.map Extern.Stop.cell).toArray := rfl
  have e2 : arrV m = .agg (m.map Extern.Stop.cell).toArray := rfl
  rw [e1, e2]
  simp only [Sem.run_bind, hg, hrun, Result.andThen_ok, Sem.run_pure]
  exact hK _ _ h

/-- From place off of block g on lie the bytes l. -/
def BytesAt (W : World) (g off : Nat) (l : List UInt8) : Prop := ∀ (i : Nat) (h : i < l.length), W.cell? ⟨g, off + i, none⟩ = some (.int .u8 (l[i].toNat : Int))

theorem BytesAt.of_row {W : World} {g : Nat} {l : List UInt8} {t : TypeId} {fr : Nat × Nat} (hg : W.heap[g]? = some (.cells (byteV l).toArray t fr)) (off n : Nat) : BytesAt W g off ((l.drop off).take n) := by
  intro i h
  have h1 : off + i < l.length := by simp at h; omega
  rw [cell_of_row W g _ _ t fr hg]
  simp [byteV, h1]

theorem strOfNums_bytes (l : List UInt8) : strOfNums (l.map fun b => (b.toNat : Int)) = ⟨l.toArray⟩ := by
  apply ByteArray.ext
  apply Array.toList_inj.1
  rw [strOfNums_data, List.map_map]
  show _ = l
  conv => rhs; rw [← List.map_id l]
  apply List.map_congr_left
  intro x _
  simp

theorem run_bytes_str {P : Program} (W : World) (src dst e : TypeId) (hs : P.underlying src = some (.slice e)) (he : P.underlying e = some (.int .u8)) (hd : P.underlying dst = some .string)
    (g off cap : Nat) (l : List UInt8) (h : BytesAt W g off l) (n : Nat) (hn : n = l.length) : (convert src dst (.slice (some ⟨g, off, none⟩) n cap)).run P W = .ok (.string ⟨l.toArray⟩) W := by
  have := run_convert_bytes_arg (P := P) W src e hs he g off l.length cap (l.map fun b => (b.toNat : Int)) (by simp) (fun i hi => by
    rw [h i hi]; simp [List.getD, hi]) dst hd
  rw [hn, this, strOfNums_bytes]

/-- string(b) -/
theorem wpList_bytes_str (hwt : Region.wanted o (yielded ops a.tmps) = true) (src dst : TypeId) (x : Operand) (ho : o.op = .convert src dst x) (g off n cap : Nat) (hx : a.eval x = .slice (some ⟨g, off, none⟩) n cap)
    (e : TypeId) (hs : P.underlying src = some (.slice e)) (he : P.underlying e = some (.int .u8)) (hd : P.underlying dst = some .string) (l : List UInt8) (hb : BytesAt W g off l) (hn : n = l.length)
    (h : wpList P ops Q rest (a.put o.dst (.string ⟨l.toArray⟩)) W) : wpList P ops Q (o :: rest) a W := by
  refine wpList_want hwt fun K hK => ?_
  have hrun := run_bytes_str (P := P) W src dst e hs he hd g off cap l hb n hn
  unfold Oper.wp execOp
  simp only [ho, hx, Sem.run_bind, hrun, Result.andThen_ok, Sem.run_pure]
  exact hK _ _ h

/-- []T{..} -/
theorem wpList_buildslice_st (H : St M0 R0 w0 W L) (hwt : Region.wanted o (yielded ops a.tmps) = true) (T e : TypeId) (len : Nat) (parts : Array (Nat × Operand)) (ho : o.op = .buildSlice T len parts)
    (hu : P.underlying T = some (.slice e)) (s : Nat) (hs : (P.info? e).map (·.size) = some s) (z : Value) (hz : (P.info? e).bind (·.zero) = some z) (hle : len * s ≤ 16777216) (h0 : ¬ len * s = 0)
    (vs : List (Nat × Value)) (hv : (parts.map fun (i, x) => (i, a.eval x)).toList = vs) (cells : Array Value)
    (hf : Instr.fill (fun i => some (i * s, s)) ((Array.range (len * s)).map (z.cells[· % z.cells.size]!)) vs = some cells)
    (h : ∀ W' g, St M0 R0 w0 W' (L ++ [blk g (.cells cells e)]) → wpList P ops Q rest (a.put o.dst (.slice (some ⟨g, 0, none⟩) len len)) W') : wpList P ops Q (o :: rest) a W := by
  refine wpList_want hwt fun K hK => ?_
  have h' := hK _ _ (h _ _ (H.alloc (.cells cells e)))
  cases hq : P.info? e with
  | none => simp [hq] at hs
  | some j =>
    have hj : j.size = s := by simpa [hq] using hs
    have hjz : j.zero = some z := by simpa [hq] using hz
    have hrun : (Instr.buildSlice T len (parts.map fun (i, x) => (i, a.eval x))).run P W = .ok (.slice (some ⟨W.heap.size, 0, none⟩) len len) (W.alloc (.cells cells e)) := by
      unfold Instr.buildSlice
      simp only [Sem.run_bind, run_underlying hu W, Result.andThen_ok, sizeOf, typeInfo, hq, run_program, Sem.run_pure, hj]
      rw [if_neg (by omega)]
      simp only [Sem.run_pure, Result.andThen_ok, if_neg h0, Sem.run_bind, zeroValue, typeInfo, hq, run_program, hjz, hv, hf]
      simp [newRow, Result.andThen]
    unfold Oper.wp execOp
    simp only [ho, Sem.run_bind, hrun, Result.andThen_ok, Sem.run_pure]
    exact h'

/-- x ^ y on bytes -/
theorem wpList_xor8 (hwt : Region.wanted o (yielded ops a.tmps) = true) (T T' : TypeId) (x y : Operand) (ho : o.op = .binOp .xor T x y T') (p q : UInt8) (hx : a.eval x = .int .u8 (p.toNat : Int)) (hy : a.eval y = .int .u8 (q.toNat : Int)) (u : UInt8) (hu : p ^^^ q = u)
    (h : wpList P ops Q rest (a.put o.dst (.int .u8 (u.toNat : Int))) W) : wpList P ops Q (o :: rest) a W := by
  subst hu
  refine wpList_want hwt fun K hK => ?_
  have hrun : (binOp .xor T (.int .u8 (p.toNat : Int)) (.int .u8 (q.toNat : Int))).run P W = .ok (.int .u8 ((p ^^^ q).toNat : Int)) W := by
    have hb := u8_xor_nat p.toNat q.toNat p.toNat_lt q.toNat_lt
    have e : ((p ^^^ q).toNat : Int) = ((p.toNat ^^^ q.toNat : Nat) : Int) := by rw [UInt8.toNat_xor]
    rw [e, ← hb]
    simp [go_sem]
  have hg : (eqGuard .xor T x y (.int .u8 (p.toNat : Int)) (.int .u8 (q.toNat : Int))).run P W = .ok () W := by simp [eqGuard]
  unfold Oper.wp execOp
  simp only [ho, hx, hy, Sem.run_bind, hg, hrun, Result.andThen_ok, Sem.run_pure]
  exact hK _ _ h

/-- [n]byte{} -/
theorem wpList_buildz (hwt : Region.wanted o (yielded ops a.tmps) = true) (T : TypeId) (ho : o.op = .build T #[]) (l : List UInt8) (hb : P.built T [] = some (byteV l).toArray)
    (h : wpList P ops Q rest (a.put o.dst (arrV l)) W) : wpList P ops Q (o :: rest) a W := by
  refine wpList_want hwt fun K hK => ?_
  have e : ((#[] : Array (Nat × Operand)).map fun (i, x) => (i, a.eval x)).toList = [] := by simp
  have := wp_build (P := P) (o := o) (a := a) (w := W) (K := K) (Q := Q) T #[] ho (by rw [e, hb]; rfl) (by rw [e, hb]; exact hK _ _ h)
  exact this

end Go.Proofs.YtlgciddnpinpbaaGreatDoor

namespace Go.Proofs.YtlgciddnpinpbaaGreatDoor
open Go.RowKit
set_option linter.unusedSimpArgs false
set_option linter.unusedVariables false
set_option maxRecDepth 4000

theorem orH (i : Nat) (x y : Int) (hx0 : 0 ≤ x) (hx : x % 2 ^ i = 0) (hx1 : x < 2 ^ 64) (hy0 : 0 ≤ y) (hy : y < 2 ^ i) (hy1 : y < 2 ^ 64) : bits .or .u64 x y = x + y :=
  bits_join .u64 64 (by decide) wraps_u64 i x y hx0 hx hx1 hy0 hy hy1

/-- A number of bytes, the greatest first, as the code joins it. -/
theorem le_join (k : Nat) (hk : k ≤ 8) (hi : Int) (b : Nat) (i p : Nat) (hp : p = 2 ^ i) (hb : b < 256) (x : Int) (hx0 : 0 ≤ x) (hx : x % ((256 * p : Nat) : Int) = 0) (hx1 : x < 18446744073709551616) (hpp : p ≤ 72057594037927936) :
    bits .or .u64 x (IntKind.u64.wrap (IntKind.u64.wrap (b : Int) * (p : Int))) = x + (b : Int) * (p : Int) := by
  have hbp : (b : Int) * (p : Int) ≤ 255 * 72057594037927936 := by
    have h1 : b * p ≤ 255 * 72057594037927936 := Nat.mul_le_mul (by omega) hpp
    rw [← Int.natCast_mul]; omega
  have hbp0 : 0 ≤ (b : Int) * (p : Int) := by rw [← Int.natCast_mul]; omega
  have e1 : IntKind.u64.wrap (b : Int) = b := by rw [IntKind.wrap_u64]; omega
  have e2 : IntKind.u64.wrap ((b : Int) * (p : Int)) = (b : Int) * (p : Int) := by rw [IntKind.wrap_u64]; omega
  rw [e1, e2]
  have h256 : ((256 * p : Nat) : Int) = 2 ^ (i + 8) := by rw [hp]; push_cast; rw [Int.pow_add]; omega
  refine orH (i + 8) x _ hx0 (by rw [← h256]; exact hx) (by omega) hbp0 ?_ (by omega)
  rw [← h256]
  have h1 : b * p < 256 * p := Nat.mul_lt_mul_of_pos_right hb (by rw [hp]; exact Nat.two_pow_pos i)
  exact_mod_cast h1

theorem BytesAt.nth {W : World} {g off : Nat} {l : List UInt8} (h : BytesAt W g off l) (at_ j n : Nat) (hl : at_ + n ≤ l.length) (hj : j < n) : W.cell? ⟨g, off + at_ + j, none⟩ = some (.int .u8 (((l.drop at_).take n).getD j 0).toNat) := by
  have := h (at_ + j) (by omega)
  rw [← Nat.add_assoc] at this
  rw [this, List.getD_eq_getElem?_getD, List.getElem?_take, if_pos hj, List.getElem?_drop, List.getElem?_eq_getElem (by omega)]
  rfl

/-- The greatest byte alone. -/
theorem le_first (b p : Nat) (hb : b < 256) (hpp : p ≤ 72057594037927936) : IntKind.u64.wrap (IntKind.u64.wrap (b : Int) * (p : Int)) = (b : Int) * (p : Int) := by
  have hbp : (b : Int) * (p : Int) ≤ 255 * 72057594037927936 := by
    have h1 : b * p ≤ 255 * 72057594037927936 := Nat.mul_le_mul (by omega) hpp
    rw [← Int.natCast_mul]; omega
  have hbp0 : 0 ≤ (b : Int) * (p : Int) := by rw [← Int.natCast_mul]; omega
  have e1 : IntKind.u64.wrap (b : Int) = b := by rw [IntKind.wrap_u64]; omega
  rw [e1, IntKind.wrap_u64]; omega

theorem le_last (b : Nat) (hb : b < 256) (x : Int) (hx0 : 0 ≤ x) (hx : x % 256 = 0) (hx1 : x < 18446744073709551616) : bits .or .u64 x (IntKind.u64.wrap (b : Int)) = x + (b : Int) := by
  have e1 : IntKind.u64.wrap (b : Int) = b := by rw [IntKind.wrap_u64]; omega
  rw [e1]
  exact orH 8 x _ hx0 (by simpa using hx) (by omega) (by omega) (by omega) (by omega)

theorem le_val8 (b0 b1 b2 b3 b4 b5 b6 b7 : UInt8) :
    bits .or .u64 (bits .or .u64 (bits .or .u64 (bits .or .u64 (bits .or .u64 (bits .or .u64 (bits .or .u64 (IntKind.u64.wrap (IntKind.u64.wrap (b7.toNat : Int) * 72057594037927936)) (IntKind.u64.wrap (IntKind.u64.wrap (b6.toNat : Int) * 281474976710656))) (IntKind.u64.wrap (IntKind.u64.wrap (b5.toNat : Int) * 1099511627776)))
      (IntKind.u64.wrap (IntKind.u64.wrap (b4.toNat : Int) * 4294967296))) (IntKind.u64.wrap (IntKind.u64.wrap (b3.toNat : Int) * 16777216))) (IntKind.u64.wrap (IntKind.u64.wrap (b2.toNat : Int) * 65536))) (IntKind.u64.wrap (IntKind.u64.wrap (b1.toNat : Int) * 256))) (IntKind.u64.wrap (b0.toNat : Int)) =
    ((Lib.leNat [b0, b1, b2, b3, b4, b5, b6, b7] : Nat) : Int) := by
  have h0 := b0.toNat_lt; have h1 := b1.toNat_lt; have h2 := b2.toNat_lt; have h3 := b3.toNat_lt; have h4 := b4.toNat_lt; have h5 := b5.toNat_lt; have h6 := b6.toNat_lt; have h7 := b7.toNat_lt
  have g7 := le_first b7.toNat 72057594037927936 (by omega) (by omega)
  rw [show ((72057594037927936 : Nat) : Int) = 72057594037927936 from rfl] at g7
  rw [g7]
  have g6 := le_join 8 (by omega) 0 b6.toNat 48 281474976710656 (by decide) (by omega) ((b7.toNat : Int) * 72057594037927936) (by omega) (by omega) (by omega) (by omega)
  rw [show ((281474976710656 : Nat) : Int) = 281474976710656 from rfl] at g6
  rw [g6]
  have g5 := le_join 8 (by omega) 0 b5.toNat 40 1099511627776 (by decide) (by omega) _ (show 0 ≤ (b7.toNat : Int) * 72057594037927936 + (b6.toNat : Int) * 281474976710656 by omega) (by omega) (by omega) (by omega)
  rw [show ((1099511627776 : Nat) : Int) = 1099511627776 from rfl] at g5
  rw [g5]
  have g4 := le_join 8 (by omega) 0 b4.toNat 32 4294967296 (by decide) (by omega) _ (show 0 ≤ (b7.toNat : Int) * 72057594037927936 + (b6.toNat : Int) * 281474976710656 + (b5.toNat : Int) * 1099511627776 by omega) (by omega) (by omega) (by omega)
  rw [show ((4294967296 : Nat) : Int) = 4294967296 from rfl] at g4
  rw [g4]
  have g3 := le_join 8 (by omega) 0 b3.toNat 24 16777216 (by decide) (by omega) _ (show 0 ≤ (b7.toNat : Int) * 72057594037927936 + (b6.toNat : Int) * 281474976710656 + (b5.toNat : Int) * 1099511627776 + (b4.toNat : Int) * 4294967296 by omega) (by omega) (by omega) (by omega)
  rw [show ((16777216 : Nat) : Int) = 16777216 from rfl] at g3
  rw [g3]
  have g2 := le_join 8 (by omega) 0 b2.toNat 16 65536 (by decide) (by omega) _ (show 0 ≤ (b7.toNat : Int) * 72057594037927936 + (b6.toNat : Int) * 281474976710656 + (b5.toNat : Int) * 1099511627776 + (b4.toNat : Int) * 4294967296 + (b3.toNat : Int) * 16777216 by omega) (by omega) (by omega) (by omega)
  rw [show ((65536 : Nat) : Int) = 65536 from rfl] at g2
  rw [g2]
  have g1 := le_join 8 (by omega) 0 b1.toNat 8 256 (by decide) (by omega) _ (show 0 ≤ (b7.toNat : Int) * 72057594037927936 + (b6.toNat : Int) * 281474976710656 + (b5.toNat : Int) * 1099511627776 + (b4.toNat : Int) * 4294967296 + (b3.toNat : Int) * 16777216 + (b2.toNat : Int) * 65536 by omega) (by omega) (by omega) (by omega)
  rw [show ((256 : Nat) : Int) = 256 from rfl] at g1
  rw [g1]
  rw [le_last b0.toNat (by omega) _ (by omega) (by omega) (by omega)]
  simp only [Lib.leNat]
  omega

theorem or_none (x : Int) (h0 : 0 ≤ x) (h1 : x < 18446744073709551616) : bits .or .u64 0 x = x := by
  rw [orH 64 0 x (by omega) (by omega) (by omega) h0 (by omega) (by omega)]; omega

theorem le_val4 (b0 b1 b2 b3 : UInt8) :
    bits .or .u64 (bits .or .u64 (bits .or .u64 (bits .or .u64 0 (IntKind.u64.wrap (IntKind.u64.wrap (b3.toNat : Int) * 16777216))) (IntKind.u64.wrap (IntKind.u64.wrap (b2.toNat : Int) * 65536))) (IntKind.u64.wrap (IntKind.u64.wrap (b1.toNat : Int) * 256))) (IntKind.u64.wrap (b0.toNat : Int)) =
    ((Lib.leNat [b0, b1, b2, b3] : Nat) : Int) := by
  have h0 := b0.toNat_lt; have h1 := b1.toNat_lt; have h2 := b2.toNat_lt; have h3 := b3.toNat_lt
  have g3 := le_first b3.toNat 16777216 (by omega) (by omega)
  rw [show ((16777216 : Nat) : Int) = 16777216 from rfl] at g3
  rw [g3, or_none _ (by omega) (by omega)]
  have g2 := le_join 8 (by omega) 0 b2.toNat 16 65536 (by decide) (by omega) _ (show 0 ≤ (b3.toNat : Int) * 16777216 by omega) (by omega) (by omega) (by omega)
  rw [show ((65536 : Nat) : Int) = 65536 from rfl] at g2
  rw [g2]
  have g1 := le_join 8 (by omega) 0 b1.toNat 8 256 (by decide) (by omega) _ (show 0 ≤ (b3.toNat : Int) * 16777216 + (b2.toNat : Int) * 65536 by omega) (by omega) (by omega) (by omega)
  rw [show ((256 : Nat) : Int) = 256 from rfl] at g1
  rw [g1]
  rw [le_last b0.toNat (by omega) _ (by omega) (by omega) (by omega)]
  simp only [Lib.leNat]
  omega

theorem le_val2 (b0 b1 : UInt8) : bits .or .u64 (bits .or .u64 0 (IntKind.u64.wrap (IntKind.u64.wrap (b1.toNat : Int) * 256))) (IntKind.u64.wrap (b0.toNat : Int)) = ((Lib.leNat [b0, b1] : Nat) : Int) := by
  have h0 := b0.toNat_lt; have h1 := b1.toNat_lt
  have g1 := le_first b1.toNat 256 (by omega) (by omega)
  rw [show ((256 : Nat) : Int) = 256 from rfl] at g1
  rw [g1, or_none _ (by omega) (by omega)]
  rw [le_last b0.toNat (by omega) _ (by omega) (by omega) (by omega)]
  simp only [Lib.leNat]
  omega

theorem take8 (g off cap : Nat) (l : List UInt8) (at_ : Nat) (w : World) (hb : BytesAt w g off l) (hl : at_ + 8 ≤ l.length) (hc : l.length ≤ cap) (hm : l.length ≤ 1048576) :
    Calls Tryz.prog 109 #[.slice (some ⟨g, off, none⟩) l.length cap, .int .i64 (at_ : Int), .int .i64 8] w fun e w' => e = .returned (.tuple #[.int .u64 (Lib.leNat ((l.drop at_).take 8) : Int), .int .i64 0]) ∧ w = w' := by
  obtain ⟨s, hs⟩ : ∃ s, (l.drop at_).take 8 = s := ⟨_, rfl⟩
  have hsl : s.length = 8 := by rw [← hs, List.length_take, List.length_drop]; omega
  have h0 := hb.nth at_ 0 8 hl (by omega)
  have h1 := hb.nth at_ 1 8 hl (by omega)
  have h2 := hb.nth at_ 2 8 hl (by omega)
  have h3 := hb.nth at_ 3 8 hl (by omega)
  have h4 := hb.nth at_ 4 8 hl (by omega)
  have h5 := hb.nth at_ 5 8 hl (by omega)
  have h6 := hb.nth at_ 6 8 hl (by omega)
  have h7 := hb.nth at_ 7 8 hl (by omega)
  rw [hs] at *
  match s, hsl with
  | [b0, b1, b2, b3, b4, b5, b6, b7], _ =>
    simp only [List.getD_cons_zero, List.getD_cons_succ, Nat.add_zero] at h0 h1 h2 h3 h4 h5 h6 h7
    have e0 : 0 ≤ (at_ : Int) := by omega
    have e1 : (at_ : Int) ≤ (l.length : Int) := by omega
    have e2 : 8 ≤ (l.length : Int) - (at_ : Int) := by omega
    have e3 : (at_ : Int) + 8 ≤ (cap : Int) := by omega
    clear hs hb
    go_enter Tryz.func109, Tryz.ntmps109
    go_wp2
    refine bodyPost_ret (results_tmp2 rfl _ _ _) rfl ?_
    refine ⟨?_, rfl⟩
    rw [le_val8]; rfl

theorem take4 (g off cap : Nat) (l : List UInt8) (at_ : Nat) (w : World) (hb : BytesAt w g off l) (hl : at_ + 4 ≤ l.length) (hc : l.length ≤ cap) (hm : l.length ≤ 1048576) :
    Calls Tryz.prog 109 #[.slice (some ⟨g, off, none⟩) l.length cap, .int .i64 (at_ : Int), .int .i64 4] w fun e w' => e = .returned (.tuple #[.int .u64 (Lib.leNat ((l.drop at_).take 4) : Int), .int .i64 0]) ∧ w = w' := by
  obtain ⟨s, hs⟩ : ∃ s, (l.drop at_).take 4 = s := ⟨_, rfl⟩
  have hsl : s.length = 4 := by rw [← hs, List.length_take, List.length_drop]; omega
  have h0 := hb.nth at_ 0 4 hl (by omega)
  have h1 := hb.nth at_ 1 4 hl (by omega)
  have h2 := hb.nth at_ 2 4 hl (by omega)
  have h3 := hb.nth at_ 3 4 hl (by omega)
  rw [hs] at *
  match s, hsl with
  | [b0, b1, b2, b3], _ =>
    simp only [List.getD_cons_zero, List.getD_cons_succ, Nat.add_zero] at h0 h1 h2 h3
    have e0 : 0 ≤ (at_ : Int) := by omega
    have e1 : (at_ : Int) ≤ (l.length : Int) := by omega
    have e2 : 4 ≤ (l.length : Int) - (at_ : Int) := by omega
    have e3 : (at_ : Int) + 4 ≤ (cap : Int) := by omega
    clear hs hb
    go_enter Tryz.func109, Tryz.ntmps109
    go_wp2
    refine bodyPost_ret (results_tmp2 rfl _ _ _) rfl ?_
    refine ⟨?_, rfl⟩
    rw [le_val4]; rfl

theorem take2 (g off cap : Nat) (l : List UInt8) (at_ : Nat) (w : World) (hb : BytesAt w g off l) (hl : at_ + 2 ≤ l.length) (hc : l.length ≤ cap) (hm : l.length ≤ 1048576) :
    Calls Tryz.prog 109 #[.slice (some ⟨g, off, none⟩) l.length cap, .int .i64 (at_ : Int), .int .i64 2] w fun e w' => e = .returned (.tuple #[.int .u64 (Lib.leNat ((l.drop at_).take 2) : Int), .int .i64 0]) ∧ w = w' := by
  obtain ⟨s, hs⟩ : ∃ s, (l.drop at_).take 2 = s := ⟨_, rfl⟩
  have hsl : s.length = 2 := by rw [← hs, List.length_take, List.length_drop]; omega
  have h0 := hb.nth at_ 0 2 hl (by omega)
  have h1 := hb.nth at_ 1 2 hl (by omega)
  rw [hs] at *
  match s, hsl with
  | [b0, b1], _ =>
    simp only [List.getD_cons_zero, List.getD_cons_succ, Nat.add_zero] at h0 h1
    have e0 : 0 ≤ (at_ : Int) := by omega
    have e1 : (at_ : Int) ≤ (l.length : Int) := by omega
    have e2 : 2 ≤ (l.length : Int) - (at_ : Int) := by omega
    have e3 : (at_ : Int) + 2 ≤ (cap : Int) := by omega
    clear hs hb
    go_enter Tryz.func109, Tryz.ntmps109
    go_wp2
    refine bodyPost_ret (results_tmp2 rfl _ _ _) rfl ?_
    refine ⟨?_, rfl⟩
    rw [le_val2]; rfl

end Go.Proofs.YtlgciddnpinpbaaGreatDoor

namespace Go.Proofs.YtlgciddnpinpbaaGreatDoor
open Go.RowKit
set_option linter.unusedVariables false

variable {P : Program} {ops : Array Oper} {rest : List Oper} {o : Oper} {a : Act} {Q : Exit → Act → World → Prop}
variable {M0 R0 : Nat → Prop} {w0 W : World} {L : List Asrt}

/-- A step inside a region that draws its order. -/
theorem step_want {K : Act → World → Prop} {E : Prop} (hwt : Region.wanted o (yielded ops a.tmps) = true) (h : o.wp P a W K Q) :
    if Region.wanted o (yielded ops a.tmps) = true then o.wp P a W K Q else E := by rw [if_pos hwt]; exact h

/-- append onto a row that is ours (elements of one cell). -/
theorem wp_append_st (H : St M0 R0 w0 W L) (ix : Nat) {K : Act → World → Prop} (s x : Operand) (T : TypeId)
    (ho : o.op = .call { callee := .builtin .append, args := #[s, x], argTypes := #[T, T] }) (e : TypeId) (ht : P.underlying T = some (.slice e)) (z : Value) (b : Nat) (hi : (P.info? e).map (fun i => (i.zero, i.size, i.bytes)) = some (some z, 1, b)) (hz1 : z.cells.size = 1)
    (g n cap : Nat) (hs : a.eval s = .slice (some ⟨g, 0, none⟩) n cap) (cs : List Value) (hix : L[ix]? = some (blk g (.cells cs.toArray e (0, 0)))) (hn : n ≤ cap) (hcs : cs.length = cap) (hcm : cap ≤ maxLen)
    (ad : Addr) (m c : Nat) (hx : a.eval x = .slice (some ad) m c) (news : List Value) (hl : news.length = m) (hnews : ∀ j u, news[j]? = some u → W.cell? (ad.add j) = some u) (h1 : ∀ u ∈ news, u.oneCell' = true)
    (h63 : n + m ≤ maxLen) (hbytes : (n + m) * b ≤ 140737488355328)
    (h : ∀ W' g' cap' junk, St M0 R0 w0 W' (L.set ix (blk g' (.cells (cs.take n ++ news ++ junk).toArray e (0, 0)))) → (cs.take n ++ news ++ junk).length = cap' → n + m ≤ cap' → cap' ≤ maxLen → K (a.put o.dst (.slice (some ⟨g', 0, none⟩) (n + m) cap')) W') : o.wp P a W K Q := by
  obtain ⟨i, hii, hz, hsz, hby⟩ := info_parts hi
  have hg := H.at ix hix
  have hl' : news.length = m * i.size := by rw [hsz, hl]; omega
  have key : ∃ v W', (Builtin.append_ #[T, T] o.type #[.slice (some ⟨g, 0, none⟩) n cap, .slice (some ad) m c]).run P W = .ok v W' ∧ K (a.put o.dst v) W' := by
    by_cases hroom : n + m ≤ cap
    · have hr := run_append_room (P := P) W T o.type e i ht hii g n cap cs.toArray hg ad m c news hl' hnews h1 hroom (by rw [hsz]; simp; omega)
      rw [hsz] at hr
      refine ⟨_, _, hr, h _ g cap (cs.drop (n + m)) ?_ ?_ hroom hcm⟩
      · have := H.setRow ix hix (cs.take n ++ news ++ cs.drop (n + m)).toArray
        have e2 : (cs.take (n * 1) ++ news ++ cs.drop (n * 1 + news.length)) = (cs.take n ++ news ++ cs.drop (n + m)) := by rw [Nat.mul_one, hl]
        simp only [List.append_assoc] at e2 this ⊢
        rw [e2]
        exact this
      · simp; omega
    · have holds : ∀ j u, (cs.take n)[j]? = some u → W.cell? ((⟨g, 0, none⟩ : Addr).add j) = some u := by
        intro j u hu
        rw [Addr.add_lit, Nat.zero_add, cell_of_row W g j _ _ _ hg]
        rw [List.getElem?_take] at hu
        split at hu
        · simpa using hu
        · cases hu
      have hr := run_append_grow (P := P) W T o.type e i z ht hii hz ⟨g, 0, none⟩ n cap (cs.take n) (by rw [hsz]; simp; omega) holds ad m c news hl' hnews (by omega) (by simp only [maxLen] at h63; omega) (growslice_fits (by omega) (by rw [hby]; exact hbytes))
      have hge := grownCap_ge W (n + m) cap e
      have hle := grownCap_le_maxLen W (n + m) cap e h63
      have hzl : (Builtin.zeroCells z.cells (grownCap W (n + m) cap e - (n + m))).size = grownCap W (n + m) cap e - (n + m) := by simp [Builtin.zeroCells, hz1]
      refine ⟨_, _, hr, h _ W.heap.size (grownCap W (n + m) cap e) (Builtin.zeroCells z.cells (grownCap W (n + m) cap e - (n + m))).toList ?_ ?_ hge hle⟩
      · refine H.step ix hix ?_ ?_ ?_
        · exact (Fix.drew _ W).trans (Fix.alloc _ W.drew _) (fun _ _ h => h)
        · show (W.drew.alloc _).heap[W.heap.size]? = _
          have := heap_alloc_new W.drew (.cells ((cs.take n).toArray ++ news.toArray ++ Builtin.zeroCells z.cells (grownCap W (n + m) cap e - (n + m))) e)
          rw [show W.drew.heap.size = W.heap.size from rfl] at this
          rw [this]
          congr 2
          apply Array.ext'
          simp
        · exact ⟨fun k hk => .inr (Nat.le_of_eq hk.symm), fun k hk => hk.elim⟩
      · simp only [List.length_append, List.length_take, Array.length_toList, hzl, hl]; omega
  obtain ⟨v, W', hr, hK⟩ := key
  unfold Oper.wp execOp
  simp only [ho, resolve, invoke, builtin, Sem.run_bind, Sem.run_pure, Result.andThen_ok, List.map_toArray, List.map_cons, List.map_nil, hs, hx, hr]
  exact hK

/-- []T{} -/
theorem wp_buildslice0_st (H : St M0 R0 w0 W L) {K : Act → World → Prop} (T e : TypeId) (ho : o.op = .buildSlice T 0 #[]) (hu : P.underlying T = some (.slice e)) (s : Nat) (hs : (P.info? e).map (·.size) = some s)
    (h : ∀ W' g, St M0 R0 w0 W' (L ++ [blk g (.cells #[] e)]) → K (a.put o.dst (.slice (some ⟨g, 0, none⟩) 0 0)) W') : o.wp P a W K Q := by
  have h' := h _ _ (H.alloc (.cells #[] e))
  cases hq : P.info? e with
  | none => simp [hq] at hs
  | some j =>
    have hrun : (Instr.buildSlice T 0 (#[].map fun ((i, x) : Nat × Operand) => (i, a.eval x))).run P W = .ok (.slice (some ⟨W.heap.size, 0, none⟩) 0 0) (W.alloc (.cells #[] e)) := by
      unfold Instr.buildSlice
      simp only [Sem.run_bind, run_underlying hu W, Result.andThen_ok, sizeOf, typeInfo, hq, run_program, Sem.run_pure]
      simp [Instr.fill, newRow, Result.andThen]
      congr 2
      apply Array.ext (by simp)
      intro i h1 _
      simp at h1
    unfold Oper.wp execOp
    simp only [ho, Sem.run_bind, hrun, Result.andThen_ok, Sem.run_pure]
    exact h'

theorem wpList_append_st (H : St M0 R0 w0 W L) (ix : Nat) (hwt : Region.wanted o (yielded ops a.tmps) = true) (s x : Operand) (T : TypeId)
    (ho : o.op = .call { callee := .builtin .append, args := #[s, x], argTypes := #[T, T] }) (e : TypeId) (ht : P.underlying T = some (.slice e)) (z : Value) (b : Nat) (hi : (P.info? e).map (fun i => (i.zero, i.size, i.bytes)) = some (some z, 1, b)) (hz1 : z.cells.size = 1)
    (g n cap : Nat) (hs : a.eval s = .slice (some ⟨g, 0, none⟩) n cap) (cs : List Value) (hix : L[ix]? = some (blk g (.cells cs.toArray e (0, 0)))) (hn : n ≤ cap) (hcs : cs.length = cap) (hcm : cap ≤ maxLen)
    (ad : Addr) (m c : Nat) (hx : a.eval x = .slice (some ad) m c) (news : List Value) (hl : news.length = m) (hnews : ∀ j u, news[j]? = some u → W.cell? (ad.add j) = some u) (h1 : ∀ u ∈ news, u.oneCell' = true)
    (h63 : n + m ≤ maxLen) (hbytes : (n + m) * b ≤ 140737488355328)
    (h : ∀ W' g' cap' junk, St M0 R0 w0 W' (L.set ix (blk g' (.cells (cs.take n ++ news ++ junk).toArray e (0, 0)))) → (cs.take n ++ news ++ junk).length = cap' → n + m ≤ cap' → cap' ≤ maxLen → wpList P ops Q rest (a.put o.dst (.slice (some ⟨g', 0, none⟩) (n + m) cap')) W') : wpList P ops Q (o :: rest) a W :=
  wpList_want hwt fun _ hK => wp_append_st H ix s x T ho e ht z b hi hz1 g n cap hs cs hix hn hcs hcm ad m c hx news hl hnews h1 h63 hbytes fun W' g' cap' junk h2 h3 h4 h5 => hK _ _ (h W' g' cap' junk h2 h3 h4 h5)

theorem wpList_buildslice0_st (H : St M0 R0 w0 W L) (hwt : Region.wanted o (yielded ops a.tmps) = true) (T e : TypeId) (ho : o.op = .buildSlice T 0 #[]) (hu : P.underlying T = some (.slice e)) (s : Nat) (hs : (P.info? e).map (·.size) = some s)
    (h : ∀ W' g, St M0 R0 w0 W' (L ++ [blk g (.cells #[] e)]) → wpList P ops Q rest (a.put o.dst (.slice (some ⟨g, 0, none⟩) 0 0)) W') : wpList P ops Q (o :: rest) a W :=
  wpList_want hwt fun _ hK => wp_buildslice0_st H T e ho hu s hs fun W' g h2 => hK _ _ (h W' g h2)

/-- make([]T, n) for elements of one cell. -/
theorem wp_make_st (H : St M0 R0 w0 W L) {K : Act → World → Prop} (T : TypeId) (l c : Operand) (ho : o.op = .makeSlice T l c) (e : TypeId) (ht : P.underlying T = some (.slice e)) (z : Value) (b : Nat)
    (hi : (P.info? e).map (fun i => (i.zero, i.size, i.bytes)) = some (some z, 1, b)) (hz1 : z.cells = #[z]) (n : Nat) (hl : a.eval l = .int .i64 (n : Int)) (hc : a.eval c = .int .i64 (n : Int)) (hb : b * n ≤ 281474976710656) (hm : n ≤ maxLen)
    (h : ∀ W' g, St M0 R0 w0 W' (L ++ [blk g (.cells (List.replicate n z).toArray e (0, 0))]) → K (a.put o.dst (.slice (some ⟨g, 0, none⟩) n n)) W') : o.wp P a W K Q := by
  obtain ⟨i, hii, hz, hsz, hby⟩ := info_parts hi
  obtain ⟨w', hrun, r1, r2⟩ := run_make_full (P := P) W W.heap.size T e i z 1 ht hii hz hsz .i64 .i64 n (by rw [hby]; exact hb) hm (Nat.le_refl _)
  have e1 : (madeCells z.cells (n * 1)).toList = List.replicate n z := by
    rw [hz1, Nat.mul_one]
    apply List.ext_getElem?
    intro j
    by_cases hj : j < n
    · simp [madeCells, hj, Nat.mod_one]
    · simp [madeCells, hj]
  rw [e1] at r1
  rcases r1.2 with ⟨h0, _⟩ | ⟨g, cap, cur, hv, hbg, hg, hnc, hcm, hcs, htake⟩
  · cases h0
  · simp only [Value.slice.injEq, Option.some.injEq, Addr.mk.injEq] at hv
    obtain ⟨⟨rfl, _⟩, _, rfl⟩ := hv
    have hcur : cur = (List.replicate n z).toArray := by
      apply Array.ext'
      have : cur.toList.take (n * 1) = cur.toList := List.take_of_length_le (by rw [Array.length_toList, hcs]; exact Nat.le_refl _)
      rw [← htake, this]
    subst hcur
    have H' := H.add (W' := w') ⟨r2.os, r2.tape, r2.output, r2.size, fun k hk _ => r2.block k hk (by simp)⟩ (blk W.heap.size (.cells (List.replicate n z).toArray e (0, 0))) hg (fun k hk => Nat.le_of_eq hk.symm) (fun k hk => hk.elim)
    unfold Oper.wp execOp
    simp only [ho, hl, hc, Sem.run_bind, hrun, Result.andThen_ok, Sem.run_pure]
    exact h _ _ H'

theorem wpList_make_st (H : St M0 R0 w0 W L) (hwt : Region.wanted o (yielded ops a.tmps) = true) (T : TypeId) (l c : Operand) (ho : o.op = .makeSlice T l c) (e : TypeId) (ht : P.underlying T = some (.slice e)) (z : Value) (b : Nat)
    (hi : (P.info? e).map (fun i => (i.zero, i.size, i.bytes)) = some (some z, 1, b)) (hz1 : z.cells = #[z]) (n : Nat) (hl : a.eval l = .int .i64 (n : Int)) (hc : a.eval c = .int .i64 (n : Int)) (hb : b * n ≤ 281474976710656) (hm : n ≤ maxLen)
    (h : ∀ W' g, St M0 R0 w0 W' (L ++ [blk g (.cells (List.replicate n z).toArray e (0, 0))]) → wpList P ops Q rest (a.put o.dst (.slice (some ⟨g, 0, none⟩) n n)) W') : wpList P ops Q (o :: rest) a W :=
  wpList_want hwt fun _ hK => wp_make_st H T l c ho e ht z b hi hz1 n hl hc hb hm fun W' g h2 => hK _ _ (h W' g h2)

/-- s == nil -/
theorem wpList_eqlnil (hwt : Region.wanted o (yielded ops a.tmps) = true) (T T' : TypeId) (x y : Operand) (ho : o.op = .binOp .eql T x y T') (p : Option Addr) (l c : Nat) (hx : a.eval x = .slice p l c) (hy : a.eval y = .slice none 0 0)
    (e : TypeId) (hu : P.underlying T = some (.slice e)) (h : wpList P ops Q rest (a.put o.dst (.bool p.isNone)) W) : wpList P ops Q (o :: rest) a W := by
  refine wpList_want hwt fun K hK => ?_
  have hrun := Go.run_eql_slice_nil (P := P) W T e p l c hu
  have hg : (eqGuard .eql T x y (.slice p l c) (.slice none 0 0)).run P W = .ok () W := by simp [eqGuard]
  unfold Oper.wp execOp
  simp only [ho, hx, hy, Sem.run_bind, hg, hrun, Result.andThen_ok, Sem.run_pure]
  exact hK _ _ h

end Go.Proofs.YtlgciddnpinpbaaGreatDoor

namespace Go.Proofs.YtlgciddnpinpbaaGreatDoor
open Go.RowKit
set_option linter.unusedVariables false

variable {P : Program} {ops : Array Oper} {rest : List Oper} {o : Oper} {a : Act} {Q : Exit → Act → World → Prop}
variable {M0 R0 : Nat → Prop} {w0 W : World} {L : List Asrt}

/-- make([]T, n, c) for elements of one cell. -/
theorem wp_make2_st (H : St M0 R0 w0 W L) {K : Act → World → Prop} (T : TypeId) (l c : Operand) (ho : o.op = .makeSlice T l c) (e : TypeId) (ht : P.underlying T = some (.slice e)) (z : Value) (b : Nat)
    (hi : (P.info? e).map (fun i => (i.zero, i.size, i.bytes)) = some (some z, 1, b)) (hz1 : z.cells = #[z]) (n m : Nat) (hl : a.eval l = .int .i64 (n : Int)) (hc : a.eval c = .int .i64 (m : Int)) (hnm : n ≤ m) (hb : b * m ≤ 281474976710656) (hm : m ≤ maxLen)
    (h : ∀ W' g, St M0 R0 w0 W' (L ++ [blk g (.cells (List.replicate m z).toArray e (0, 0))]) → K (a.put o.dst (.slice (some ⟨g, 0, none⟩) n m)) W') : o.wp P a W K Q := by
  obtain ⟨i, hii, hz, hsz, hby⟩ := info_parts hi
  have hb' : (i.bytes : Int) * (m : Int) ≤ 281474976710656 := by
    have h : ((i.bytes * m : Nat) : Int) ≤ 281474976710656 := by rw [hby]; omega
    rwa [Int.natCast_mul] at h
  have hr := run_make (P := P) W T e i z ht hii hz .i64 .i64 n m (by omega) (by omega) hb' (by simp only [maxLen] at hm; omega)
  have e1 : madeCells z.cells ((m : Int).toNat * i.size) = (List.replicate m z).toArray := by
    rw [hz1, hsz, Nat.mul_one, Int.toNat_natCast]
    apply Array.ext'
    apply List.ext_getElem?
    intro j
    by_cases hj : j < m
    · simp [madeCells, hj, Nat.mod_one]
    · simp [madeCells, hj]
  rw [e1] at hr
  simp only [Int.toNat_natCast] at hr
  have h' := h _ _ (H.alloc (.cells (List.replicate m z).toArray e))
  unfold Oper.wp execOp
  simp only [ho, hl, hc, Sem.run_bind, hr, Result.andThen_ok, Sem.run_pure]
  exact h'

theorem wpList_make2_st (H : St M0 R0 w0 W L) (hwt : Region.wanted o (yielded ops a.tmps) = true) (T : TypeId) (l c : Operand) (ho : o.op = .makeSlice T l c) (e : TypeId) (ht : P.underlying T = some (.slice e)) (z : Value) (b : Nat)
    (hi : (P.info? e).map (fun i => (i.zero, i.size, i.bytes)) = some (some z, 1, b)) (hz1 : z.cells = #[z]) (n m : Nat) (hl : a.eval l = .int .i64 (n : Int)) (hc : a.eval c = .int .i64 (m : Int)) (hnm : n ≤ m) (hb : b * m ≤ 281474976710656) (hm : m ≤ maxLen)
    (h : ∀ W' g, St M0 R0 w0 W' (L ++ [blk g (.cells (List.replicate m z).toArray e (0, 0))]) → wpList P ops Q rest (a.put o.dst (.slice (some ⟨g, 0, none⟩) n m)) W') : wpList P ops Q (o :: rest) a W :=
  wpList_want hwt fun _ hK => wp_make2_st H T l c ho e ht z b hi hz1 n m hl hc hnm hb hm fun W' g h2 => hK _ _ (h W' g h2)

/-- append of a nil slice: nothing is turned. -/
theorem wp_append_none {K : Act → World → Prop} (s x : Operand) (T : TypeId) (ho : o.op = .call { callee := .builtin .append, args := #[s, x], argTypes := #[T, T] }) (e : TypeId) (ht : P.underlying T = some (.slice e)) (hsz : (P.info? e).map (·.size) = some 1)
    (p : Option Addr) (n cap : Nat) (hs : a.eval s = .slice p n cap) (hn : n ≤ cap) (hx : a.eval x = .slice none 0 0) (h : K (a.put o.dst (.slice p n cap)) W) : o.wp P a W K Q := by
  cases hq : P.info? e with
  | none => simp [hq] at hsz
  | some i =>
    have hrun : (Builtin.append_ #[T, T] o.type #[.slice p n cap, .slice none 0 0]).run P W = .ok (.slice p n cap) W := by
      cases p <;> simp [Builtin.append_, run_underlying ht, sizeOf, typeInfo, hq, Builtin.lenOf, Builtin.firstCells, hn, storeCells]
    unfold Oper.wp execOp
    simp only [ho, resolve, invoke, builtin, Sem.run_bind, Sem.run_pure, Result.andThen_ok, List.map_toArray, List.map_cons, List.map_nil, hs, hx, hrun]
    exact h

theorem wpList_append_none (hwt : Region.wanted o (yielded ops a.tmps) = true) (s x : Operand) (T : TypeId) (ho : o.op = .call { callee := .builtin .append, args := #[s, x], argTypes := #[T, T] }) (e : TypeId) (ht : P.underlying T = some (.slice e)) (hsz : (P.info? e).map (·.size) = some 1)
    (p : Option Addr) (n cap : Nat) (hs : a.eval s = .slice p n cap) (hn : n ≤ cap) (hx : a.eval x = .slice none 0 0) (h : wpList P ops Q rest (a.put o.dst (.slice p n cap)) W) : wpList P ops Q (o :: rest) a W :=
  wpList_want hwt fun _ hK => wp_append_none s x T ho e ht hsz p n cap hs hn hx (hK _ _ h)

theorem zeroCells_one (z : Value) (hz1 : z.cells = #[z]) (k : Nat) : Builtin.zeroCells z.cells k = (List.replicate k z).toArray := by
  rw [hz1]
  apply Array.ext'
  apply List.ext_getElem?
  intro j
  by_cases hj : j < k
  · simp [Builtin.zeroCells, hj, Nat.mod_one]
  · simp [Builtin.zeroCells, hj]

/-- append(s, make([]T, k)...): k noughts. -/
theorem wp_appz_st (H : St M0 R0 w0 W L) (ix : Nat) {K : Act → World → Prop} (s x : Operand) (T TI : TypeId)
    (ho : o.op = .call { callee := .builtin .append, args := #[s, x], argTypes := #[T, TI] }) (e : TypeId) (ht : P.underlying T = some (.slice e)) (kn : IntKind) (htn : P.underlying TI = some (.int kn)) (z : Value) (b : Nat) (hi : (P.info? e).map (fun i => (i.zero, i.size, i.bytes)) = some (some z, 1, b)) (hz1 : z.cells = #[z]) (hzo : z.oneCell' = true)
    (g n cap : Nat) (hs : a.eval s = .slice (some ⟨g, 0, none⟩) n cap) (cs : List Value) (hix : L[ix]? = some (blk g (.cells cs.toArray e (0, 0)))) (hn : n ≤ cap) (hcs : cs.length = cap) (hcm : cap ≤ maxLen)
    (kq : IntKind) (k : Nat) (hx : a.eval x = .int kq (k : Int)) (hk0 : 0 < k) (h63 : n + k ≤ maxLen) (hbytes : (n + k) * b ≤ 140737488355328)
    (h : ∀ W' g' cap' junk, St M0 R0 w0 W' (L.set ix (blk g' (.cells (cs.take n ++ List.replicate k z ++ junk).toArray e (0, 0)))) → (cs.take n ++ List.replicate k z ++ junk).length = cap' → n + k ≤ cap' → cap' ≤ maxLen → K (a.put o.dst (.slice (some ⟨g', 0, none⟩) (n + k) cap')) W') : o.wp P a W K Q := by
  obtain ⟨i, hii, hz, hsz, hby⟩ := info_parts hi
  have hg := H.at ix hix
  have hkb : k * b ≤ 140737488355328 := Nat.le_trans (Nat.mul_le_mul_right _ (by omega)) hbytes
  have hk : k ≠ 0 := by omega
  have hkm : k ≤ 9223372036854775807 := by simp only [maxLen] at h63; omega
  have key : ∃ v W', (Builtin.append_ #[T, TI] o.type #[.slice (some ⟨g, 0, none⟩) n cap, .int kq (k : Int)]).run P W = .ok v W' ∧ K (a.put o.dst v) W' := by
    by_cases hroom : n + k ≤ cap
    · have hst := run_storeCells_at P g n e (List.replicate k z) 0 cs.toArray W hg (by simp; omega) (fun v hv => by rw [List.eq_of_mem_replicate hv]; exact hzo)
      simp only [Nat.add_zero, List.length_replicate] at hst
      have hw : IntKind.i64.wrap (k : Int) = k := by rw [IntKind.wrap_i64]; omega
      have hneg : ¬ ((k : Int) < 0) := by omega
      have h48i : ¬ (281474976710656 < (k : Int) * (i.bytes : Int)) := by
        rw [← Int.natCast_mul, hby]; omega
      have hzc := zeroCells_one z hz1 k
      have hadd : (⟨g, 0, none⟩ : Addr).add n = ⟨g, n, none⟩ := by rw [Addr.add_lit, Nat.zero_add]
      have hr : (Builtin.append_ #[T, TI] o.type #[.slice (some ⟨g, 0, none⟩) n cap, .int kq (k : Int)]).run P W = .ok (.slice (some ⟨g, 0, none⟩) (n + k) cap) (W.setRow g (cs.take n ++ List.replicate k z ++ cs.drop (n + k)).toArray) := by
        simp [Builtin.append_, run_underlying ht, run_underlying htn, sizeOf, typeInfo, zeroValue, hii, hz, hsz, asInt, asIntOf, hw, hneg, h48i, hk, hroom, hzc, hadd]
        simp only [List.append_assoc] at hst
        rw [hst]
        simp
      exact ⟨_, _, hr, h _ g cap (cs.drop (n + k)) (H.setRow ix hix _) (by simp; omega) hroom hcm⟩
    · have holds : (Builtin.firstCells i.size n (.slice (some ⟨g, 0, none⟩) n cap)).run P W.drew = .ok (cs.take n).toArray W.drew := by
        have hrow := run_firstCells_some (P := P) W.drew i.size n ⟨g, 0, none⟩ n cap (cs.take n) (by rw [hsz]; simp; omega) (fun q u hu => by
          rw [Addr.add_lit, Nat.zero_add]
          have h1 : W.drew.cell? ⟨g, q, none⟩ = W.cell? ⟨g, q, none⟩ := rfl
          rw [h1, cell_of_row W g q _ _ _ hg]
          rw [List.getElem?_take] at hu
          split at hu
          · simpa using hu
          · cases hu)
        exact hrow
      have hr := Lib.run_append_grow_zeros (P := P) W T TI o.type e i z kq kn ht htn hii hz (some ⟨g, 0, none⟩) n cap (cs.take n) holds k hk0 (by omega) (by omega) (by simp only [maxLen] at h63; omega) (by rw [hby]; omega) (growslice_fits (by omega) (by rw [hby]; exact hbytes))
      have hge := grownCap_ge W (n + k) cap e
      have hle := grownCap_le_maxLen W (n + k) cap e h63
      rw [zeroCells_one z hz1, zeroCells_one z hz1] at hr
      refine ⟨_, _, hr, h _ W.heap.size (grownCap W (n + k) cap e) (List.replicate (grownCap W (n + k) cap e - (n + k)) z) ?_ ?_ hge hle⟩
      · refine H.step ix hix ?_ ?_ ?_
        · exact (Fix.drew _ W).trans (Fix.alloc _ W.drew _) (fun _ _ h => h)
        · show (W.drew.alloc _).heap[W.heap.size]? = _
          have := heap_alloc_new W.drew (.cells ((cs.take n).toArray ++ (List.replicate k z).toArray ++ (List.replicate (grownCap W (n + k) cap e - (n + k)) z).toArray) e)
          rw [show W.drew.heap.size = W.heap.size from rfl] at this
          rw [this]
          congr 2
          apply Array.ext'
          simp
        · exact ⟨fun k hk => .inr (Nat.le_of_eq hk.symm), fun k hk => hk.elim⟩
      · simp only [List.length_append, List.length_take, List.length_replicate]; omega
  obtain ⟨v, W', hr, hK⟩ := key
  unfold Oper.wp execOp
  simp only [ho, resolve, invoke, builtin, Sem.run_bind, Sem.run_pure, Result.andThen_ok, List.map_toArray, List.map_cons, List.map_nil, hs, hx, hr]
  exact hK

theorem wpList_appz_st (H : St M0 R0 w0 W L) (ix : Nat) (hwt : Region.wanted o (yielded ops a.tmps) = true) (s x : Operand) (T TI : TypeId)
    (ho : o.op = .call { callee := .builtin .append, args := #[s, x], argTypes := #[T, TI] }) (e : TypeId) (ht : P.underlying T = some (.slice e)) (kn : IntKind) (htn : P.underlying TI = some (.int kn)) (z : Value) (b : Nat) (hi : (P.info? e).map (fun i => (i.zero, i.size, i.bytes)) = some (some z, 1, b)) (hz1 : z.cells = #[z]) (hzo : z.oneCell' = true)
    (g n cap : Nat) (hs : a.eval s = .slice (some ⟨g, 0, none⟩) n cap) (cs : List Value) (hix : L[ix]? = some (blk g (.cells cs.toArray e (0, 0)))) (hn : n ≤ cap) (hcs : cs.length = cap) (hcm : cap ≤ maxLen)
    (kq : IntKind) (k : Nat) (hx : a.eval x = .int kq (k : Int)) (hk0 : 0 < k) (h63 : n + k ≤ maxLen) (hbytes : (n + k) * b ≤ 140737488355328)
    (h : ∀ W' g' cap' junk, St M0 R0 w0 W' (L.set ix (blk g' (.cells (cs.take n ++ List.replicate k z ++ junk).toArray e (0, 0)))) → (cs.take n ++ List.replicate k z ++ junk).length = cap' → n + k ≤ cap' → cap' ≤ maxLen → wpList P ops Q rest (a.put o.dst (.slice (some ⟨g', 0, none⟩) (n + k) cap')) W') : wpList P ops Q (o :: rest) a W :=
  wpList_want hwt fun _ hK => wp_appz_st H ix s x T TI ho e ht kn htn z b hi hz1 hzo g n cap hs cs hix hn hcs hcm kq k hx hk0 h63 hbytes fun W' g' cap' junk h2 h3 h4 h5 => hK _ _ (h W' g' cap' junk h2 h3 h4 h5)

/-- append(s, make([]T, 0)...): nothing. -/
theorem wpList_appz0 (hwt : Region.wanted o (yielded ops a.tmps) = true) (s x : Operand) (T TI : TypeId)
    (ho : o.op = .call { callee := .builtin .append, args := #[s, x], argTypes := #[T, TI] }) (e : TypeId) (ht : P.underlying T = some (.slice e)) (kn : IntKind) (htn : P.underlying TI = some (.int kn)) (hsz : (P.info? e).map (·.size) = some 1)
    (g n cap : Nat) (hs : a.eval s = .slice (some ⟨g, 0, none⟩) n cap) (hn : n ≤ cap) (kq : IntKind) (hx : a.eval x = .int kq 0)
    (h : wpList P ops Q rest (a.put o.dst (.slice (some ⟨g, 0, none⟩) n cap)) W) : wpList P ops Q (o :: rest) a W := by
  refine wpList_want hwt fun K hK => ?_
  cases hq : P.info? e with
  | none => simp [hq] at hsz
  | some i =>
    have hw : IntKind.i64.wrap (0 : Int) = 0 := by decide
    have hrun : (Builtin.append_ #[T, TI] o.type #[.slice (some ⟨g, 0, none⟩) n cap, .int kq 0]).run P W = .ok (.slice (some ⟨g, 0, none⟩) n cap) W := by
      simp [Builtin.append_, run_underlying ht, run_underlying htn, sizeOf, typeInfo, hq, asInt, asIntOf, hw, hn, storeCells]
    unfold Oper.wp execOp
    simp only [ho, resolve, invoke, builtin, Sem.run_bind, Sem.run_pure, Result.andThen_ok, List.map_toArray, List.map_cons, List.map_nil, hs, hx, hrun]
    exact hK _ _ h

end Go.Proofs.YtlgciddnpinpbaaGreatDoor

namespace Go.Proofs.YtlgciddnpinpbaaGreatDoor
open Go.RowKit
set_option linter.unusedVariables false

/-- Bytes behind a slice's value, in blocks of rd. -/
def ByS (W : World) (rd : Nat → Prop) (v : Value) (l : List UInt8) : Prop :=
  (l = [] ∧ v = .slice none 0 0) ∨ ∃ g off cap, v = .slice (some ⟨g, off, none⟩) l.length cap ∧ l.length ≤ cap ∧ (l = [] ∨ rd g) ∧ BytesAt W g off l

theorem BytesAt.same {W W' : World} {g off : Nat} {l : List UInt8} (h : BytesAt W g off l) (hb : l = [] ∨ W'.heap[g]? = W.heap[g]?) : BytesAt W' g off l := by
  intro i hi
  rcases hb with rfl | hb
  · simp at hi
  · have := World.cell?_of_block (w := W) (w' := W') (a := ⟨g, off + i, none⟩) hb
    rw [this]; exact h i hi

theorem ByS.same {W W' : World} {rd rd' : Nat → Prop} {v : Value} {l : List UInt8} (h : ByS W rd v l) (hb : ∀ k, rd k → W'.heap[k]? = W.heap[k]? ∧ rd' k) : ByS W' rd' v l := by
  rcases h with h | ⟨g, off, cap, h1, h2, h3, h4⟩
  · exact .inl h
  · refine .inr ⟨g, off, cap, h1, h2, ?_, h4.same ?_⟩
    · rcases h3 with h3 | h3
      · exact .inl h3
      · exact .inr (hb g h3).2
    · rcases h3 with h3 | h3
      · exact .inl h3
      · exact .inr (hb g h3).1

/-- How a map's element reads here: as itself. -/
def RV (v : Value) : Option (DataW Value × List MemPlace) := some (.held v, [])
theorem keyedInt : Go.Maps.Keyed Tryz.prog 3 := Go.Maps.int_keyed Tryz.underlying3

/-- A map of slices of bytes, in block g. -/
def mapA (g n : Nat) (D : DataW Value) : Asrt where
  own k := k = g
  rd _ := False
  prop W := W.ownsMap Tryz.prog 3 RV g n D
  stable W W' h hp := by
    obtain ⟨es, clock, hb, F, hs, hD⟩ := hp
    exact ⟨es, clock, (h g (.inl rfl)).trans hb, F, hs, hD⟩
  bound W hp k hk := by
    rcases hk with rfl | hk
    · exact hp.lt
    · exact hk.elim

/-- A disk, in plain words. -/
structure DS where
  last : List (List UInt8)
  wait : Nat → Option (List UInt8)
  dead : Bool
  armed : Bool
  n : Int
  part : Int
  way : Int
  torn : List UInt8
  writes : Int
  lives : Int

/-- The struct's cells. -/
def dRow (sl mv : Value) (dead armed : Bool) (n part way : Int) (torn : Value) (writes lives : Int) : List Value :=
  [sl, mv, .bool dead, .bool armed, .int .i64 n, .int .i64 part, .int .i64 way, torn, .int .i64 writes, .int .i64 lives]

theorem dRow0 (x0 x1 : Value) (x2 x3 : Bool) (x4 x5 x6 : Int) (x7 : Value) (x8 x9 : Int) : (dRow x0 x1 x2 x3 x4 x5 x6 x7 x8 x9).toArray[0]? = some (x0) := rfl
theorem dRow1 (x0 x1 : Value) (x2 x3 : Bool) (x4 x5 x6 : Int) (x7 : Value) (x8 x9 : Int) : (dRow x0 x1 x2 x3 x4 x5 x6 x7 x8 x9).toArray[1]? = some (x1) := rfl
theorem dRow2 (x0 x1 : Value) (x2 x3 : Bool) (x4 x5 x6 : Int) (x7 : Value) (x8 x9 : Int) : (dRow x0 x1 x2 x3 x4 x5 x6 x7 x8 x9).toArray[2]? = some (.bool x2) := rfl
theorem dRow3 (x0 x1 : Value) (x2 x3 : Bool) (x4 x5 x6 : Int) (x7 : Value) (x8 x9 : Int) : (dRow x0 x1 x2 x3 x4 x5 x6 x7 x8 x9).toArray[3]? = some (.bool x3) := rfl
theorem dRow4 (x0 x1 : Value) (x2 x3 : Bool) (x4 x5 x6 : Int) (x7 : Value) (x8 x9 : Int) : (dRow x0 x1 x2 x3 x4 x5 x6 x7 x8 x9).toArray[4]? = some (.int .i64 x4) := rfl
theorem dRow5 (x0 x1 : Value) (x2 x3 : Bool) (x4 x5 x6 : Int) (x7 : Value) (x8 x9 : Int) : (dRow x0 x1 x2 x3 x4 x5 x6 x7 x8 x9).toArray[5]? = some (.int .i64 x5) := rfl
theorem dRow6 (x0 x1 : Value) (x2 x3 : Bool) (x4 x5 x6 : Int) (x7 : Value) (x8 x9 : Int) : (dRow x0 x1 x2 x3 x4 x5 x6 x7 x8 x9).toArray[6]? = some (.int .i64 x6) := rfl
theorem dRow7 (x0 x1 : Value) (x2 x3 : Bool) (x4 x5 x6 : Int) (x7 : Value) (x8 x9 : Int) : (dRow x0 x1 x2 x3 x4 x5 x6 x7 x8 x9).toArray[7]? = some (x7) := rfl
theorem dRow8 (x0 x1 : Value) (x2 x3 : Bool) (x4 x5 x6 : Int) (x7 : Value) (x8 x9 : Int) : (dRow x0 x1 x2 x3 x4 x5 x6 x7 x8 x9).toArray[8]? = some (.int .i64 x8) := rfl
theorem dRow9 (x0 x1 : Value) (x2 x3 : Bool) (x4 x5 x6 : Int) (x7 : Value) (x8 x9 : Int) : (dRow x0 x1 x2 x3 x4 x5 x6 x7 x8 x9).toArray[9]? = some (.int .i64 x9) := rfl

theorem dSet1 (x0 x1 : Value) (x2 x3 : Bool) (x4 x5 x6 : Int) (x7 : Value) (x8 x9 : Int) (y : Value) : (dRow x0 x1 x2 x3 x4 x5 x6 x7 x8 x9).toArray.setIfInBounds 1 (y) = (dRow x0 y x2 x3 x4 x5 x6 x7 x8 x9).toArray := rfl
theorem dSet2 (x0 x1 : Value) (x2 x3 : Bool) (x4 x5 x6 : Int) (x7 : Value) (x8 x9 : Int) (y : Bool) : (dRow x0 x1 x2 x3 x4 x5 x6 x7 x8 x9).toArray.setIfInBounds 2 (.bool y) = (dRow x0 x1 y x3 x4 x5 x6 x7 x8 x9).toArray := rfl
theorem dSet3 (x0 x1 : Value) (x2 x3 : Bool) (x4 x5 x6 : Int) (x7 : Value) (x8 x9 : Int) (y : Bool) : (dRow x0 x1 x2 x3 x4 x5 x6 x7 x8 x9).toArray.setIfInBounds 3 (.bool y) = (dRow x0 x1 x2 y x4 x5 x6 x7 x8 x9).toArray := rfl
theorem dSet4 (x0 x1 : Value) (x2 x3 : Bool) (x4 x5 x6 : Int) (x7 : Value) (x8 x9 : Int) (y : Int) : (dRow x0 x1 x2 x3 x4 x5 x6 x7 x8 x9).toArray.setIfInBounds 4 (.int .i64 y) = (dRow x0 x1 x2 x3 y x5 x6 x7 x8 x9).toArray := rfl
theorem dSet5 (x0 x1 : Value) (x2 x3 : Bool) (x4 x5 x6 : Int) (x7 : Value) (x8 x9 : Int) (y : Int) : (dRow x0 x1 x2 x3 x4 x5 x6 x7 x8 x9).toArray.setIfInBounds 5 (.int .i64 y) = (dRow x0 x1 x2 x3 x4 y x6 x7 x8 x9).toArray := rfl
theorem dSet6 (x0 x1 : Value) (x2 x3 : Bool) (x4 x5 x6 : Int) (x7 : Value) (x8 x9 : Int) (y : Int) : (dRow x0 x1 x2 x3 x4 x5 x6 x7 x8 x9).toArray.setIfInBounds 6 (.int .i64 y) = (dRow x0 x1 x2 x3 x4 x5 y x7 x8 x9).toArray := rfl
theorem dSet7 (x0 x1 : Value) (x2 x3 : Bool) (x4 x5 x6 : Int) (x7 : Value) (x8 x9 : Int) (y : Value) : (dRow x0 x1 x2 x3 x4 x5 x6 x7 x8 x9).toArray.setIfInBounds 7 (y) = (dRow x0 x1 x2 x3 x4 x5 x6 y x8 x9).toArray := rfl
theorem dSet8 (x0 x1 : Value) (x2 x3 : Bool) (x4 x5 x6 : Int) (x7 : Value) (x8 x9 : Int) (y : Int) : (dRow x0 x1 x2 x3 x4 x5 x6 x7 x8 x9).toArray.setIfInBounds 8 (.int .i64 y) = (dRow x0 x1 x2 x3 x4 x5 x6 x7 y x9).toArray := rfl
theorem dSet9 (x0 x1 : Value) (x2 x3 : Bool) (x4 x5 x6 : Int) (x7 : Value) (x8 x9 : Int) (y : Int) : (dRow x0 x1 x2 x3 x4 x5 x6 x7 x8 x9).toArray.setIfInBounds 9 (.int .i64 y) = (dRow x0 x1 x2 x3 x4 x5 x6 x7 x8 y).toArray := rfl

def keyI (k : Nat) : Lit := .int .i64 (k : Int)

/-- The bytes that a disk's parts name. -/
structure PayIs (W : World) (rd : Nat → Prop) (rows : List Value) (last : List (List UInt8)) (D : DataW Value) (wait : Nat → Option (List UInt8)) (tv : Value) (torn : List UInt8) : Prop where
  sect : ∀ (i : Nat) (h : i < last.length), ByS W rd (rows.getD i undef) last[i]
  keys : ∀ kl, Go.Maps.has D kl = true → ∃ k : Nat, k < last.length ∧ kl = keyI k
  waits : ∀ k, (Go.Maps.has D (keyI k) = false ∧ wait k = none) ∨ ∃ v l, Go.Maps.has D (keyI k) = true ∧ D.atKey (keyI k) (.held (.slice none 0 0)) = .held v ∧ wait k = some l ∧ l.length = 256 ∧ ByS W rd v l
  torn : ByS W rd tv torn
  lt : ∀ k, rd k → k < W.heap.size

theorem PayIs.same {W W' : World} {rd rd' : Nat → Prop} {rows : List Value} {last : List (List UInt8)} {D : DataW Value} {wait : Nat → Option (List UInt8)} {tv : Value} {torn : List UInt8}
    (h : PayIs W rd rows last D wait tv torn) (hb : ∀ k, rd k → W'.heap[k]? = W.heap[k]? ∧ rd' k) (hl : ∀ k, rd' k → k < W'.heap.size) : PayIs W' rd' rows last D wait tv torn :=
  ⟨fun i hi => (h.sect i hi).same hb, h.keys, fun k => by
    rcases h.waits k with h1 | ⟨v, l, h1, h2, h3, h4, h5⟩
    · exact .inl h1
    · exact .inr ⟨v, l, h1, h2, h3, h4, h5.same hb⟩, h.torn.same hb, hl⟩

def payA (rd : Nat → Prop) (rows : List Value) (last : List (List UInt8)) (D : DataW Value) (wait : Nat → Option (List UInt8)) (tv : Value) (torn : List UInt8) : Asrt where
  own _ := False
  rd := rd
  prop W := PayIs W rd rows last D wait tv torn
  stable W W' h hp := by
    refine hp.same (fun k hk => ⟨h k (.inr hk), hk⟩) (fun k hk => ?_)
    have h1 := hp.lt k hk
    have h2 := h k (.inr hk)
    rw [Array.getElem?_eq_getElem h1] at h2
    exact (Array.getElem?_eq_some_iff.1 h2).1
  bound W hp k hk := by
    rcases hk with hk | hk
    · exact hk.elim
    · exact hp.lt k hk

/-- What a disk may be. -/
structure DS.Fine (D : DS) : Prop where
  n1 : 32 ≤ D.last.length
  n2 : D.last.length ≤ 1900
  len : ∀ l ∈ D.last, l.length = 256
  part : 0 ≤ D.part ∧ D.part ≤ 256
  way : -1 ≤ D.way ∧ D.way < D.last.length
  torn : D.torn.length ≤ 256
  nlo : -9223372036854775808 ≤ D.n
  nhi : D.n ≤ 9223372036854775807

/-- In world W the disk at block g is D: it owns own, and reads rd. -/
structure DiskIs (W : World) (g : Nat) (D : DS) (own rd : Nat → Prop) : Prop where
  fine : D.Fine
  parts : ∃ gl gm cap rows junk M tv, W.heap[g]? = some (.cells (dRow (.slice (some ⟨gl, 0, none⟩) D.last.length cap) (.map (some gm)) D.dead D.armed D.n D.part D.way tv D.writes D.lives).toArray 159 (0, 0)) ∧
    W.heap[gl]? = some (.cells (rows ++ junk).toArray 22 (0, 0)) ∧ rows.length = D.last.length ∧ (rows ++ junk).length = cap ∧
    W.ownsMap Tryz.prog 3 RV gm (Go.Maps.size M) M ∧ PayIs W rd rows D.last M D.wait tv D.torn ∧
    (∀ k, own k ↔ k = g ∨ k = gl ∨ k = gm) ∧ g ≠ gl ∧ g ≠ gm ∧ gl ≠ gm ∧ (∀ k, own k → ¬ rd k)

theorem DiskIs.lt {W : World} {g : Nat} {D : DS} {own rd : Nat → Prop} (h : DiskIs W g D own rd) : ∀ k, own k ∨ rd k → k < W.heap.size := by
  obtain ⟨_, gl, gm, cap, rows, junk, M, tv, h1, h2, _, _, h3, h4, h5, _⟩ := h
  intro k hk
  rcases hk with hk | hk
  · rcases (h5 k).1 hk with rfl | rfl | rfl
    · exact (Array.getElem?_eq_some_iff.1 h1).1
    · exact (Array.getElem?_eq_some_iff.1 h2).1
    · exact h3.lt
  · exact h4.lt k hk

/-- The disk, as an assertion. -/
def dA (g : Nat) (D : DS) (own rd : Nat → Prop) : Asrt where
  own := own
  rd := rd
  prop W := DiskIs W g D own rd
  stable W W' h hp := by
    have hlt := hp.lt
    obtain ⟨hf, gl, gm, cap, rows, junk, M, tv, h1, h2, h3, h4, h5, h6, h7, h8⟩ := hp
    have hg := h g (.inl ((h7 g).2 (.inl rfl)))
    have hgl := h gl (.inl ((h7 gl).2 (.inr (.inl rfl))))
    have hgm := h gm (.inl ((h7 gm).2 (.inr (.inr rfl))))
    refine ⟨hf, gl, gm, cap, rows, junk, M, tv, hg.trans h1, hgl.trans h2, h3, h4, ?_, (payA rd rows D.last M D.wait tv D.torn).stable W W' (fun k hk => h k (.inr (hk.resolve_left id))) h6, h7, h8⟩
    exact (mapA gm _ M).stable W W' (fun k hk => by
      rcases hk with rfl | hk
      · exact hgm
      · exact hk.elim) h5
  bound W hp k hk := hp.lt k hk

/-- A call on a disk begins with its parts. -/
theorem DiskIs.open_ {W : World} {g : Nat} {D : DS} {own rd : Nat → Prop} (h : DiskIs W g D own rd) :
    ∃ gl gm cap rows junk M tv, D.Fine ∧ rows.length = D.last.length ∧ (rows ++ junk).length = cap ∧
      St own rd W W [blk g (.cells (dRow (.slice (some ⟨gl, 0, none⟩) D.last.length cap) (.map (some gm)) D.dead D.armed D.n D.part D.way tv D.writes D.lives).toArray 159 (0, 0)),
        blk gl (.cells (rows ++ junk).toArray 22 (0, 0)), mapA gm (Go.Maps.size M) M, payA rd rows D.last M D.wait tv D.torn] := by
  obtain ⟨hf, gl, gm, cap, rows, junk, M, tv, h1, h2, h3, h4, h5, h6, h7, n1, n2, n3, h8⟩ := h
  refine ⟨gl, gm, cap, rows, junk, M, tv, hf, h3, h4, Fix.refl _ _, ?_, ?_, ?_, ?_⟩
  · intro i A hi
    rcases i with _ | _ | _ | _ | i <;> simp at hi
    · subst hi; exact h1
    · subst hi; exact h2
    · subst hi; exact h5
    · subst hi; exact h6
  · have hg := (h7 g).2 (.inl rfl)
    have hgl := (h7 gl).2 (.inr (.inl rfl))
    have hgm := (h7 gm).2 (.inr (.inr rfl))
    intro i j A B hi hj hne
    rcases i with _ | _ | _ | _ | i <;> rcases j with _ | _ | _ | _ | j <;> simp at hi hj <;> first | omega | skip
    all_goals
      subst hi hj
      refine ⟨?_, ?_, ?_⟩ <;> intro k hk hk' <;> simp only [blk, mapA, payA] at hk hk' <;> first | exact hk.elim | exact hk'.elim | omega | skip
    all_goals
      first
        | (subst hk; exact h8 _ hg hk')
        | (subst hk; exact h8 _ hgl hk')
        | (subst hk; exact h8 _ hgm hk')
  · intro i A hi k hk
    right
    rcases i with _ | _ | _ | _ | i <;> simp at hi
    · subst hi; exact (h7 k).2 (.inl hk)
    · subst hi; exact (h7 k).2 (.inr (.inl hk))
    · subst hi; exact (h7 k).2 (.inr (.inr hk))
    · subst hi; exact hk.elim
  · intro i A hi k hk
    right; right
    rcases i with _ | _ | _ | _ | i <;> simp at hi
    · subst hi; exact hk.elim
    · subst hi; exact hk.elim
    · subst hi; exact hk.elim
    · subst hi; exact hk

/-- What a call on a disk leaves. -/
def DiskTo (W : World) (g : Nat) (own rd : Nat → Prop) (D' : DS) (W' : World) : Prop :=
  ∃ own' rd', DiskIs W' g D' own' rd' ∧ Fix own W W' ∧ (∀ k, own' k → own k ∨ W.heap.size ≤ k) ∧ (∀ k, rd' k → own k ∨ rd k ∨ W.heap.size ≤ k)

/-- A call on a disk ends with its parts. -/
theorem St.disk {W W' : World} {own rd : Nat → Prop} {L : List Asrt} (H : St own rd W W' L) {g : Nat} {D' : DS} (hf : D'.Fine) (gl gm cap : Nat) (rows junk : List Value) (M : DataW Value) (tv : Value) (rd' : Nat → Prop) (h3 : rows.length = D'.last.length) (h4 : (rows ++ junk).length = cap)
    (i0 i1 i2 i3 : Nat) (e0 : L[i0]? = some (blk g (.cells (dRow (.slice (some ⟨gl, 0, none⟩) D'.last.length cap) (.map (some gm)) D'.dead D'.armed D'.n D'.part D'.way tv D'.writes D'.lives).toArray 159 (0, 0))))
    (e1 : L[i1]? = some (blk gl (.cells (rows ++ junk).toArray 22 (0, 0)))) (e2 : L[i2]? = some (mapA gm (Go.Maps.size M) M)) (e3 : L[i3]? = some (payA rd' rows D'.last M D'.wait tv D'.torn))
    (n01 : i0 ≠ i1) (n02 : i0 ≠ i2) (n03 : i0 ≠ i3) (n12 : i1 ≠ i2) (n13 : i1 ≠ i3) (n23 : i2 ≠ i3) : DiskTo W g own rd D' W' := by
  have a01 := H.apart _ _ _ _ e0 e1 n01
  have a02 := H.apart _ _ _ _ e0 e2 n02
  have a03 := H.apart _ _ _ _ e0 e3 n03
  have a12 := H.apart _ _ _ _ e1 e2 n12
  have a13 := H.apart _ _ _ _ e1 e3 n13
  have a23 := H.apart _ _ _ _ e2 e3 n23
  refine ⟨fun k => k = g ∨ k = gl ∨ k = gm, rd', ⟨hf, gl, gm, cap, rows, junk, M, tv, H.at i0 e0, H.at i1 e1, h3, h4, H.at i2 e2, H.at i3 e3, fun _ => Iff.rfl, fun e => a01.1 g rfl e, fun e => a02.1 g rfl e, fun e => a12.1 gl rfl e, ?_⟩, H.fix, ?_, ?_⟩
  · rintro k (rfl | rfl | rfl) hk
    · exact a03.2.1 _ rfl hk
    · exact a13.2.1 _ rfl hk
    · exact a23.2.1 _ rfl hk
  · rintro k (rfl | rfl | rfl)
    · exact (H.mine i0 _ e0 _ rfl).symm
    · exact (H.mine i1 _ e1 _ rfl).symm
    · exact (H.mine i2 _ e2 _ rfl).symm
  · intro k hk
    rcases H.reads i3 _ e3 k hk with h | h | h
    · exact .inr (.inr h)
    · exact .inl h
    · exact .inr (.inl h)

end Go.Proofs.YtlgciddnpinpbaaGreatDoor

namespace Go.Proofs.YtlgciddnpinpbaaGreatDoor
open Go.RowKit
set_option linter.unusedSimpArgs false
set_option linter.unusedVariables false
set_option maxRecDepth 4000

theorem info_u8 : (Tryz.prog.info? 5).map (fun i => (i.zero, i.size, i.bytes)) = some (some (.int .u8 0), 1, 1) := by kernel_rfl

theorem BytesAt.news {w W : World} {g off : Nat} {l : List UInt8} (hb : BytesAt w g off l) (hf : Fix NoBlk w W) (hlb : l = [] ∨ g < w.heap.size) :
    ∀ j u, (byteV l)[j]? = some u → W.cell? ((⟨g, off, none⟩ : Addr).add j) = some u := by
  intro j u hu
  have hj : j < l.length := by have := (List.getElem?_eq_some_iff.1 hu).1; simpa using this
  rw [byteV_get, List.getElem?_eq_getElem hj, Option.map_some, Option.some.injEq] at hu
  have e1 := hb j hj
  rw [Addr.add_lit, ← hu, ← e1]
  refine hf.cell ?_ (fun h => h)
  rcases hlb with rfl | h
  · simp at hj
  · exact h

/-- slices.Clone of bytes. -/
theorem clone_calls (w : World) (g off cap : Nat) (l : List UInt8) (hb : BytesAt w g off l) (hl : l.length ≤ 1048576) (hlb : l = [] ∨ g < w.heap.size) :
    Calls Tryz.prog 63 #[.slice (some ⟨g, off, none⟩) l.length cap] w fun e w' => ∃ g' cap' junk, e = .returned (.slice (some ⟨g', 0, none⟩) l.length cap') ∧
      l.length ≤ cap' ∧ cap' ≤ maxLen ∧ w.heap.size ≤ g' ∧ w'.heap[g']? = some (.cells (byteV l ++ junk).toArray 5 (0, 0)) ∧ Below w.heap.size w w' := by
  have H := St.nil NoBlk NoBlk w
  go_enter Tryz.func63, Tryz.ntmps63
  go_wp2_with (first
    | (refine wpList_eqlnil rfl 22 _ _ _ rfl _ _ _ rfl rfl _ Tryz.underlying22 ?_)
    | (refine wpList_buildslice0_st H rfl 22 _ rfl Tryz.underlying22 _ rfl ?_; clear H; intro W g0 H; simp only [List.nil_append] at H)
    | (refine wpList_append_st H 0 rfl _ _ 22 rfl _ Tryz.underlying22 _ _ info_u8 rfl _ 0 _ rfl [] rfl (Nat.le_refl _) rfl (Nat.zero_le _) _ _ _ rfl (byteV l) (byteV_length l) (hb.news H.fix hlb) (byteV_one l) (by simp only [maxLen]; omega) (by omega) ?_; clear H; intro W g' cap' junk H h1 h2 h3; simp only [List.take_nil, List.nil_append, List.set_cons_zero, Nat.zero_add] at H h1 h2 ⊢))
  go_ret
  refine ⟨g', cap', junk, rfl, h2, h3, ?_, H.at 0 rfl, H.fix.below⟩
  rcases H.mine 0 _ rfl g' rfl with h | h
  · exact h
  · exact h.elim

theorem len_calls {w : World} {g : Nat} {D : DS} {own rd : Nat → Prop} (hd : DiskIs w g D own rd) :
    Calls Tryz.prog 91 #[.pointer (some ⟨g, 0, none⟩)] w fun e w' => e = .returned (.int .i64 (D.last.length : Int)) ∧ w = w' := by
  obtain ⟨gl, gm, cap, rows, junk, M, tv, hf, h3, h4, H⟩ := hd.open_
  clear hd
  go_enter Tryz.func91, Tryz.ntmps91
  go_wp2_with (first | (refine wpList_load1_st rfl 47 _ rfl _ _ rfl _ _ _ (H.at 0 rfl) _ Tryz.underlying47 rfl _ (dRow0 _ _ _ _ _ _ _ _ _ _) ?_))
  go_ret
  exact ⟨rfl, rfl⟩

theorem len_nil (w : World) : Calls Tryz.prog 91 #[.pointer none] w fun e w' => e = .returned (.int .i64 0) ∧ w = w' := by
  go_enter Tryz.func91, Tryz.ntmps91
  go_wp2
  go_ret
  exact ⟨rfl, rfl⟩

/-- What may says. -/
def DS.may (D : DS) (i : Int) : Int := if D.dead then 12 else if i < 0 ∨ (D.last.length : Int) ≤ i then 1 else 0

theorem may_calls {w : World} {g : Nat} {D : DS} {own rd : Nat → Prop} (hd : DiskIs w g D own rd) (i : Int) :
    Calls Tryz.prog 128 #[.pointer (some ⟨g, 0, none⟩), .int .i64 i] w fun e w' => e = .returned (.int .i64 (D.may i)) ∧ w = w' := by
  have HL := Lib.hid (len_calls hd)
  obtain ⟨gl, gm, cap, rows, junk, M, tv, hf, h3, h4, H⟩ := hd.open_
  have h32 : (32 : Int) ≤ (D.last.length : Int) := by have := hf.n1; omega
  have b1 : ((D.last.length : Int) == 0) = false := beq_eq_false_iff_ne.2 (by omega)
  cases hdd : D.dead
  · rw [hdd] at H
    by_cases h1 : i < 0
    · have hm : D.may i = 1 := by simp [DS.may, hdd, h1]
      rw [hm]
      have b2 : decide (i < 0) = true := by simp [h1]
      clear hd hm h1 hf h3 h4
      generalize hn : (D.last.length : Int) = n at *
      go_enter Tryz.func128, Tryz.ntmps128
      go_wp2_with (first | (refine wpList_load1_st rfl 47 _ rfl _ _ rfl _ _ _ (H.at 0 rfl) _ Tryz.underlying47 rfl _ (dRow0 _ _ _ _ _ _ _ _ _ _) ?_) | (refine wpList_load1_st rfl 4 _ rfl _ _ rfl _ _ _ (H.at 0 rfl) _ Tryz.underlying4 rfl _ (dRow2 _ _ _ _ _ _ _ _ _ _) ?_) | (go_at_call 91; (with_reducible refine (HL.out).mono ?_); rintro e W' ⟨rfl, rfl⟩))
      go_ret
      exact ⟨rfl, rfl⟩
    · have b2 : decide (i < 0) = false := by simp [h1]
      by_cases h2 : (D.last.length : Int) ≤ i
      · have hm : D.may i = 1 := by simp [DS.may, hdd, h2]
        rw [hm]
        have b3 : decide ((D.last.length : Int) ≤ i) = true := by simp [h2]
        clear hd hm h1 h2 hf h3 h4
        go_enter Tryz.func128, Tryz.ntmps128
        go_wp2_with (first | (refine wpList_load1_st rfl 47 _ rfl _ _ rfl _ _ _ (H.at 0 rfl) _ Tryz.underlying47 rfl _ (dRow0 _ _ _ _ _ _ _ _ _ _) ?_) | (refine wpList_load1_st rfl 4 _ rfl _ _ rfl _ _ _ (H.at 0 rfl) _ Tryz.underlying4 rfl _ (dRow2 _ _ _ _ _ _ _ _ _ _) ?_) | (go_at_call 91; (with_reducible refine (HL.out).mono ?_); rintro e W' ⟨rfl, rfl⟩))
        go_ret
        exact ⟨rfl, rfl⟩
      · have hm : D.may i = 0 := by simp [DS.may, hdd, h1, h2]
        rw [hm]
        have b3 : decide ((D.last.length : Int) ≤ i) = false := by simp [h2]
        clear hd hm h1 h2 hf h3 h4
        go_enter Tryz.func128, Tryz.ntmps128
        go_wp2_with (first | (refine wpList_load1_st rfl 47 _ rfl _ _ rfl _ _ _ (H.at 0 rfl) _ Tryz.underlying47 rfl _ (dRow0 _ _ _ _ _ _ _ _ _ _) ?_) | (refine wpList_load1_st rfl 4 _ rfl _ _ rfl _ _ _ (H.at 0 rfl) _ Tryz.underlying4 rfl _ (dRow2 _ _ _ _ _ _ _ _ _ _) ?_) | (go_at_call 91; (with_reducible refine (HL.out).mono ?_); rintro e W' ⟨rfl, rfl⟩))
        go_ret
        exact ⟨rfl, rfl⟩
  · have hm : D.may i = 12 := by simp [DS.may, hdd]
    rw [hm]
    rw [hdd] at H
    clear hd hm hf h3 h4
    go_enter Tryz.func128, Tryz.ntmps128
    go_wp2_with (first | (refine wpList_load1_st rfl 47 _ rfl _ _ rfl _ _ _ (H.at 0 rfl) _ Tryz.underlying47 rfl _ (dRow0 _ _ _ _ _ _ _ _ _ _) ?_) | (refine wpList_load1_st rfl 4 _ rfl _ _ rfl _ _ _ (H.at 0 rfl) _ Tryz.underlying4 rfl _ (dRow2 _ _ _ _ _ _ _ _ _ _) ?_) | (go_at_call 91; (with_reducible refine (HL.out).mono ?_); rintro e W' ⟨rfl, rfl⟩))
    go_ret
    exact ⟨rfl, rfl⟩

theorem may_nil (i : Int) (w : World) :
    Calls Tryz.prog 128 #[.pointer none, .int .i64 i] w fun e w' => e = .returned (.int .i64 1) ∧ w = w' := by
  have HL := Lib.hid (len_nil w)
  go_enter Tryz.func128, Tryz.ntmps128
  go_wp2_with (first | (go_at_call 91; (with_reducible refine (HL.out).mono ?_); rintro e W' ⟨rfl, rfl⟩))
  go_ret
  exact ⟨rfl, rfl⟩

end Go.Proofs.YtlgciddnpinpbaaGreatDoor

namespace Go.Proofs.YtlgciddnpinpbaaGreatDoor
open Go.RowKit
set_option linter.unusedSimpArgs false
set_option linter.unusedVariables false
set_option maxRecDepth 4000

theorem keyI_is {k : Nat} (h : k < 1048576) : keyOf Tryz.prog 3 (.int .i64 (k : Int)) = some (keyI k) := by
  refine Go.Maps.keyOf_int_mk Tryz.underlying3 ?_
  simp only [Lit.wf, IntKind.min, IntKind.max, IntKind.signed, IntKind.bits, Bool.and_eq_true, decide_eq_true_eq]
  refine ⟨?_, ?_⟩ <;> simp <;> omega

theorem keyI_inj {a b : Nat} (h : keyI a = keyI b) : a = b := by
  simp [keyI] at h; omega

theorem zero_bytes (W : World) : (zeroValue 22).run Tryz.prog W = .ok (.slice none 0 0) W := by kernel_rfl

/-- A look-up that has been run. -/
theorem wpList_lookup_run {P : Program} {ops : Array Oper} {rest : List Oper} {o : Oper} {a : Act} {Q : Exit → Act → World → Prop} {W : World}
    (hwt : Region.wanted o (yielded ops a.tmps) = true) (t : TypeId) (m x : Operand) (c : Bool) (hop : o.op = .lookup t m x c) (mv xv v : Value) (hm : a.eval m = mv) (hx : a.eval x = xv)
    (hrun : (Instr.lookup t mv xv c).run P W = .ok v W) (h : wpList P ops Q rest (a.put o.dst v) W) : wpList P ops Q (o :: rest) a W := by
  refine wpList_want hwt fun K hK => ?_
  unfold Oper.wp
  simp [execOp, hop, hm, hx, hrun, Result.andThen]
  exact hK _ _ h

theorem PayIs.look_no {W : World} {rd : Nat → Prop} {rows : List Value} {last : List (List UInt8)} {M : DataW Value} {wait : Nat → Option (List UInt8)} {tv : Value} {torn : List UInt8} (h : PayIs W rd rows last M wait tv torn) {gm n : Nat}
    (hm : W.ownsMap Tryz.prog 3 RV gm n M) (k : Nat) (hk : k < 1048576) (hw : wait k = none) :
    (Instr.lookup 110 (.map (some gm)) (.int .i64 (k : Int)) true).run Tryz.prog W = .ok (.tuple #[.slice none 0 0, .bool false]) W := by
  rcases h.waits k with ⟨h1, _⟩ | ⟨v, l, _, _, h3, _⟩
  · obtain ⟨v, ps, hrun, hv⟩ := hm.look_ok keyedInt Tryz.underlying110 (zero_bytes W) (zd := .held (.slice none 0 0)) (zp := []) rfl (keyI_is hk)
    rw [Go.Maps.atKey_of_not_has h1] at hv
    simp [RV] at hv
    rw [hrun, hv.1, h1]
  · rw [hw] at h3; cases h3

theorem PayIs.look_yes {W : World} {rd : Nat → Prop} {rows : List Value} {last : List (List UInt8)} {M : DataW Value} {wait : Nat → Option (List UInt8)} {tv : Value} {torn : List UInt8} (h : PayIs W rd rows last M wait tv torn) {gm n : Nat}
    (hm : W.ownsMap Tryz.prog 3 RV gm n M) (k : Nat) (hk : k < 1048576) {l : List UInt8} (hw : wait k = some l) :
    ∃ v, (Instr.lookup 110 (.map (some gm)) (.int .i64 (k : Int)) true).run Tryz.prog W = .ok (.tuple #[v, .bool true]) W ∧
      (Instr.lookup 110 (.map (some gm)) (.int .i64 (k : Int)) false).run Tryz.prog W = .ok v W ∧ l.length = 256 ∧ ByS W rd v l := by
  rcases h.waits k with ⟨_, h1⟩ | ⟨v, l', h1, h2, h3, h4, h5⟩
  · rw [hw] at h1; cases h1
  · rw [hw] at h3
    cases h3
    obtain ⟨v1, ps, hrun, hv⟩ := hm.look_ok keyedInt Tryz.underlying110 (zero_bytes W) (zd := .held (.slice none 0 0)) (zp := []) rfl (keyI_is hk)
    obtain ⟨v2, ps2, hrun2, hv2⟩ := hm.lookup keyedInt Tryz.underlying110 (zero_bytes W) (zd := .held (.slice none 0 0)) (zp := []) rfl (keyI_is hk)
    rw [h2] at hv hv2
    simp [RV] at hv hv2
    refine ⟨v, ?_, ?_, h4, h5⟩
    · rw [hrun, hv.1, h1]
    · rw [hrun2, hv2.1]

/-- Bytes that are some. -/
theorem ByS.open_ {W : World} {rd : Nat → Prop} {v : Value} {l : List UInt8} (h : ByS W rd v l) (hl : l.length = 256) :
    ∃ g off cap, v = .slice (some ⟨g, off, none⟩) l.length cap ∧ l.length ≤ cap ∧ rd g ∧ BytesAt W g off l := by
  rcases h with ⟨rfl, _⟩ | ⟨g, off, cap, h1, h2, h3, h4⟩
  · simp at hl
  · rcases h3 with rfl | h3
    · simp at hl
    · exact ⟨g, off, cap, h1, h2, h3, h4⟩

theorem nodup_le {α : Type} [DecidableEq α] : ∀ (l m : List α), l.Nodup → (∀ x ∈ l, x ∈ m) → l.length ≤ m.length
  | [], m, _, _ => Nat.zero_le _
  | x :: l, m, hn, hs => by
    have hx := hs x (by simp)
    have := nodup_le l (m.erase x) (List.nodup_cons.1 hn).2 (fun y hy => by
      have hne : y ≠ x := fun e => (List.nodup_cons.1 hn).1 (e ▸ hy)
      exact (List.mem_erase_of_ne hne).2 (hs y (by simp [hy])))
    have h1 := List.length_erase_of_mem hx
    have h2 := List.length_pos_of_mem hx
    simp only [List.length_cons]
    omega

/-- How many wait. -/
theorem PayIs.size_le {W : World} {rd : Nat → Prop} {rows : List Value} {last : List (List UInt8)} {M : DataW Value} {wait : Nat → Option (List UInt8)} {tv : Value} {torn : List UInt8} (h : PayIs W rd rows last M wait tv torn) {gm n : Nat}
    (hm : W.ownsMap Tryz.prog 3 RV gm n M) : Go.Maps.size M ≤ last.length := by
  obtain ⟨es, rfl, hp⟩ := hm.tidy keyedInt
  have hk := h.keys
  have hn : (es.map Prod.fst).Nodup := by
    rw [List.nodup_iff_pairwise_ne, List.pairwise_map]
    exact hp
  have key : ∀ x ∈ es.map Prod.fst, ∃ k : Nat, k < last.length ∧ x = keyI k := by
    intro x hx
    obtain ⟨p, hp1, rfl⟩ := List.mem_map.1 hx
    have hkey : WideAt.IsKeyLit p.1 := by
      obtain ⟨es', e1, _, h3⟩ := hm.canon keyedInt
      cases e1
      exact h3 p hp1
    refine hk p.1 ?_
    rw [Go.Maps.has_eq, List.any_eq_true]
    exact ⟨p, hp1, WideAt.sameKey_self hkey⟩
  have := nodup_le (((es.map Prod.fst).map fun x => match x with | .int _ k => k | _ => 0)) ((List.range last.length).map (fun k : Nat => (k : Int))) (by
    rw [List.nodup_iff_pairwise_ne, List.pairwise_map]
    refine List.Pairwise.imp_of_mem ?_ hn
    intro a b ha hb hne e
    obtain ⟨i, _, rfl⟩ := key a ha
    obtain ⟨j, _, rfl⟩ := key b hb
    simp only [keyI] at e
    have : i = j := by omega
    exact hne (by rw [this])) (by
    intro x hx
    obtain ⟨p, hp1, rfl⟩ := List.mem_map.1 hx
    obtain ⟨i, hi, rfl⟩ := key p hp1
    simp only [keyI, List.mem_map, List.mem_range]
    exact ⟨i, hi, rfl⟩)
  simpa [Go.Maps.size] using this

theorem ownsMap_fit {W : World} {gm n : Nat} {M : DataW Value} (hm : W.ownsMap Tryz.prog 3 RV gm n M) : W.ownsMap Tryz.prog 3 RV gm (Go.Maps.size M) M := by
  obtain ⟨es, clock, hb, F, hs, rfl⟩ := hm
  refine ⟨es, clock, hb, F, ?_, rfl⟩
  simp [Go.Maps.size, length_sorted]

theorem Fix.turned {w w' : World} {b : Nat} (h : w.mapTurned w' b) : Fix (· = b) w w' := by
  have g := h.grown
  exact ⟨g.os, g.tape, g.output, g.size, fun i hi hn => g.block i hi (by simpa using fun e => hn e)⟩

end Go.Proofs.YtlgciddnpinpbaaGreatDoor

namespace Go.Proofs.YtlgciddnpinpbaaGreatDoor
open Go.RowKit
set_option linter.unusedSimpArgs false
set_option linter.unusedVariables false
set_option maxRecDepth 4000

theorem St.sub {M0 R0 : Nat → Prop} {w0 W : World} {A : Asrt} {L' : List Asrt} (H : St M0 R0 w0 W [A]) (H' : St A.own A.rd W W L') : St M0 R0 w0 W L' := by
  refine ⟨H.fix, H'.all, H'.apart, fun i B hi k hk => ?_, fun i B hi k hk => ?_⟩
  · rcases H'.mine i B hi k hk with h | h
    · exact .inl (Nat.le_trans H.fix.size h)
    · exact H.mine 0 A rfl k h
  · rcases H'.reads i B hi k hk with h | h | h
    · exact .inl (Nat.le_trans H.fix.size h)
    · rcases H.mine 0 A rfl k h with h | h
      · exact .inl h
      · exact .inr (.inl h)
    · exact H.reads 0 A rfl k h

theorem results_none {P : Program} {fn : Func} {tmps : Array Value} {w : World} (h : fn.results = #[]) : (results fn tmps).run P w = .ok (.tuple #[]) w := by simp [results, h]

/-- The new own and reads of a call's disk. -/
theorem DiskTo.same {W : World} {g : Nat} {D : DS} {own rd : Nat → Prop} (h : DiskIs W g D own rd) : DiskTo W g own rd D W :=
  ⟨own, rd, h, Fix.refl _ _, fun _ h => .inl h, fun _ h => .inr (.inl h)⟩

theorem lives_calls {w : World} {g : Nat} {D : DS} {own rd : Nat → Prop} (hd : DiskIs w g D own rd) :
    Calls Tryz.prog 99 #[.pointer (some ⟨g, 0, none⟩)] w fun e w' => e = .returned (.int .i64 D.lives) ∧ w = w' := by
  obtain ⟨gl, gm, cap, rows, junk, M, tv, hf, h3, h4, H⟩ := hd.open_
  clear hd
  go_enter Tryz.func99, Tryz.ntmps99
  go_wp2_with (first | (refine wpList_load1_st rfl 3 _ rfl _ _ rfl _ _ _ (H.at 0 rfl) _ Tryz.underlying3 rfl _ (dRow9 _ _ _ _ _ _ _ _ _ _) ?_))
  go_ret
  exact ⟨rfl, rfl⟩

/-- fails: what it says, and the disk behind it. -/
def DS.failsB (D : DS) : Bool := D.armed && decide (D.n ≤ 0)

def DS.failsD (D : DS) : DS := if D.armed then (if D.n ≤ 0 then { D with dead := true, armed := false } else { D with n := D.n - 1 }) else D

theorem fails_calls {w : World} {g : Nat} {D : DS} {own rd : Nat → Prop} (hd : DiskIs w g D own rd) :
    Calls Tryz.prog 129 #[.pointer (some ⟨g, 0, none⟩)] w fun e w' => e = .returned (.bool D.failsB) ∧ DiskTo w g own rd D.failsD w' := by
  have hd0 := Lib.hid hd
  obtain ⟨gl, gm, cap, rows, junk, M, tv, hf, h3, h4, H⟩ := hd.open_
  clear hd
  have hlo := hf.nlo
  have hhi := hf.nhi
  have tok1 : True := trivial
  cases ha : D.armed
  · have e1 : D.failsB = false := by simp [DS.failsB, ha]
    have e2 : D.failsD = D := by simp [DS.failsD, ha]
    rw [e1, e2]
    rw [ha] at H
    clear e1 e2 ha
    go_enter Tryz.func129, Tryz.ntmps129
    go_wp2_with (first | (refine wpList_load1_st rfl 4 _ rfl _ _ rfl _ _ _ (H.at 0 rfl) _ Tryz.underlying4 rfl _ (dRow3 _ _ _ _ _ _ _ _ _ _) ?_))
    go_ret
    exact ⟨rfl, DiskTo.same hd0.out⟩
  · rw [ha] at H
    by_cases hn : D.n ≤ 0
    · have e1 : D.failsB = true := by simp [DS.failsB, ha, hn]
      have e2 : D.failsD = { D with dead := true, armed := false } := by simp [DS.failsD, ha, hn]
      rw [e1, e2]
      have b1 : decide (0 < D.n) = false := by simp; omega
      clear e1 e2 ha
      go_enter Tryz.func129, Tryz.ntmps129
      go_wp2_with (first | (refine wpList_load1_st rfl 4 _ rfl _ _ rfl _ _ _ (H.at 0 rfl) _ Tryz.underlying4 rfl _ (dRow3 _ _ _ _ _ _ _ _ _ _) ?_) | (refine wpList_load1_st rfl 3 _ rfl _ _ rfl _ _ _ (H.at 0 rfl) _ Tryz.underlying3 rfl _ (dRow4 _ _ _ _ _ _ _ _ _ _) ?_) | (refine wpList_store1_st H 0 rfl 4 _ _ rfl _ _ (.bool _) rfl rfl rfl _ _ rfl rfl (by simp [dRow]) ?_; clear H; intro W H; (try simp only [cells_arrV, List.nil_append, List.cons_append, List.set_cons_zero, List.set_cons_succ] at H); try simp only [dSet1, dSet2, dSet3, dSet4, dSet5, dSet6, dSet7, dSet8, dSet9] at H))
      go_ret
      refine ⟨rfl, H.disk (D' := { D with dead := true, armed := false }) ⟨hf.n1, hf.n2, hf.len, hf.part, hf.way, hf.torn, hf.nlo, hf.nhi⟩ gl gm cap rows junk M tv rd h3 h4 0 1 2 3 rfl rfl rfl rfl (by decide) (by decide) (by decide) (by decide) (by decide) (by decide)⟩
    · have e1 : D.failsB = false := by simp [DS.failsB, ha, hn]
      have e2 : D.failsD = { D with n := D.n - 1, armed := true } := by cases D; simp at ha; subst ha; simp [DS.failsD, hn]
      rw [e1, e2]
      have b1 : decide (0 < D.n) = true := by simp; omega
      clear e1 e2 ha
      go_enter Tryz.func129, Tryz.ntmps129
      go_wp2_with (first | (refine wpList_load1_st rfl 4 _ rfl _ _ rfl _ _ _ (H.at 0 rfl) _ Tryz.underlying4 rfl _ (dRow3 _ _ _ _ _ _ _ _ _ _) ?_) | (refine wpList_load1_st rfl 3 _ rfl _ _ rfl _ _ _ (H.at 0 rfl) _ Tryz.underlying3 rfl _ (dRow4 _ _ _ _ _ _ _ _ _ _) ?_) | (refine wpList_store1_st H 0 rfl 3 _ _ rfl _ _ (.int .i64 _) rfl rfl rfl _ _ rfl rfl (by simp [dRow]) ?_; clear H; intro W H; (try simp only [cells_arrV, List.nil_append, List.cons_append, List.set_cons_zero, List.set_cons_succ] at H); try simp only [dSet1, dSet2, dSet3, dSet4, dSet5, dSet6, dSet7, dSet8, dSet9] at H))
      go_ret
      refine ⟨rfl, H.disk (D' := { D with n := D.n - 1, armed := true }) ⟨hf.n1, hf.n2, hf.len, hf.part, hf.way, hf.torn, by show _ ≤ D.n - 1; omega, by show D.n - 1 ≤ _; omega⟩ gl gm cap rows junk M tv rd h3 h4 0 1 2 3 rfl rfl rfl rfl (by decide) (by decide) (by decide) (by decide) (by decide) (by decide)⟩

end Go.Proofs.YtlgciddnpinpbaaGreatDoor

namespace Go.Proofs.YtlgciddnpinpbaaGreatDoor
open Go.RowKit
set_option linter.unusedSimpArgs false
set_option linter.unusedVariables false
set_option maxRecDepth 4000

/-- What sector k bears, as a reader sees it. -/
def DS.sect (D : DS) (k : Nat) : List UInt8 := (D.wait k).getD (D.last.getD k [])

/-- A sector's bytes in a block of one's own. -/
def FreshB (w w' : World) (v : Value) (l : List UInt8) : Prop := ∃ g cap junk, v = .slice (some ⟨g, 0, none⟩) l.length cap ∧ l.length ≤ cap ∧ cap ≤ maxLen ∧ w.heap.size ≤ g ∧ w'.heap[g]? = some (.cells (byteV l ++ junk).toArray 5 (0, 0))

theorem clone_is {w : World} {v : Value} {rd : Nat → Prop} {l : List UInt8} (h : ByS w rd v l) (hl : l.length = 256) (hlt : ∀ k, rd k → k < w.heap.size) :
    Calls Tryz.prog 63 #[v] w fun e w' => ∃ v', e = .returned v' ∧ FreshB w w' v' l ∧ Below w.heap.size w w' := by
  obtain ⟨g, off, cap, rfl, h2, h3, h4⟩ := h.open_ hl
  refine (clone_calls w g off cap l h4 (by omega) (.inr (hlt g h3))).mono ?_
  rintro e w' ⟨g', cap', junk, rfl, h5, h6, h7, h8, h9⟩
  exact ⟨_, rfl, ⟨g', cap', junk, rfl, h5, h6, h7, h8⟩, h9⟩

theorem PayIs.ByS_at {W : World} {rd : Nat → Prop} {rows : List Value} {last : List (List UInt8)} {M : DataW Value} {wait : Nat → Option (List UInt8)} {tv : Value} {torn : List UInt8} (h : PayIs W rd rows last M wait tv torn)
    (hr : rows.length = last.length) (junk : List Value) (k : Nat) (hk : k < last.length) : ∃ v, (rows ++ junk).toArray[k]? = some v ∧ ByS W rd v last[k] := by
  refine ⟨rows.getD k undef, ?_, h.sect k hk⟩
  have : k < rows.length := by omega
  simp [List.getElem?_append, this]

theorem read_calls {w : World} {g : Nat} {D : DS} {own rd : Nat → Prop} (hd : DiskIs w g D own rd) (k : Nat) (hk : k < D.last.length) (hdd : D.dead = false) :
    Calls Tryz.prog 106 #[.pointer (some ⟨g, 0, none⟩), .int .i64 (k : Int)] w fun e w' => ∃ v, e = .returned (.tuple #[v, .int .i64 0]) ∧ FreshB w w' v (D.sect k) ∧ (D.sect k).length = 256 ∧ Below w.heap.size w w' := by
  have hm : D.may (k : Int) = 0 := by simp [DS.may, hdd]; omega
  have HM := Lib.hid (may_calls hd (k : Int))
  rw [hm] at HM
  obtain ⟨gl, gm, cap, rows, junk, M, tv, hf, h3, h4, H⟩ := hd.open_
  have hP := H.at 3 rfl
  have hMp := H.at 2 rfl
  have hkn : k < 1048576 := by have := hf.n2; omega
  cases hw : D.wait k with
  | none =>
    have hl := hP.look_no hMp k hkn hw
    obtain ⟨v, hv1, hv2⟩ := hP.ByS_at h3 junk k hk
    have hlen : D.last[k].length = 256 := hf.len _ (List.getElem_mem hk)
    have hsec : D.sect k = D.last[k] := by simp [DS.sect, hw, hk]
    rw [hsec]
    have HC := Lib.hid (clone_is hv2 hlen hP.lt)
    have HV := Lib.hid hv1
    have HL := Lib.hid hl
    have HN := Lib.hid hlen
    have hki : (k : Int) < (D.last.length : Int) := by omega
    have hk0 : 0 ≤ (k : Int) := by omega
    clear hd hP hMp hv1 hv2 hl hm hlen hf h4 h3 hw hdd hsec
    generalize D.last[k] = lk at *
    go_enter Tryz.func106, Tryz.ntmps106
    go_wp2_with (first | (refine wpList_load1_st rfl 110 _ rfl _ _ rfl _ _ _ (H.at 0 rfl) _ Tryz.underlying110 rfl _ (dRow1 _ _ _ _ _ _ _ _ _ _) ?_) | (refine wpList_load1_st rfl 47 _ rfl _ _ rfl _ _ _ (H.at 0 rfl) _ Tryz.underlying47 rfl _ (dRow0 _ _ _ _ _ _ _ _ _ _) ?_) | (go_at_call 128; (with_reducible refine (HM.out).mono ?_); rintro e W' ⟨rfl, rfl⟩) | (refine wpList_lookup_run rfl 110 _ _ _ rfl _ _ _ rfl rfl HL.out ?_) | (refine wpList_load1_st rfl 22 _ rfl _ _ rfl _ _ _ (H.at 1 rfl) _ Tryz.underlying22 rfl _ HV.out ?_) | (go_at_call 63; (with_reducible refine (HC.out).mono ?_); rintro e W ⟨v', rfl, hfr, hb⟩))
    refine bodyPost_ret (results_tmp2 rfl _ _ _) rfl ?_
    exact ⟨v', rfl, hfr, HN.out, hb⟩
  | some l =>
    obtain ⟨v, hl, _, hlen, hv2⟩ := hP.look_yes hMp k hkn hw
    have hsec : D.sect k = l := by simp [DS.sect, hw]
    rw [hsec]
    have HC := Lib.hid (clone_is hv2 hlen hP.lt)
    have HL := Lib.hid hl
    have HN := Lib.hid hlen
    have hki : (k : Int) < (D.last.length : Int) := by omega
    have hk0 : 0 ≤ (k : Int) := by omega
    clear hd hP hMp hv2 hl hm hlen hf h4 h3 hw hdd hsec
    go_enter Tryz.func106, Tryz.ntmps106
    go_wp2_with (first | (refine wpList_load1_st rfl 110 _ rfl _ _ rfl _ _ _ (H.at 0 rfl) _ Tryz.underlying110 rfl _ (dRow1 _ _ _ _ _ _ _ _ _ _) ?_) | (refine wpList_load1_st rfl 47 _ rfl _ _ rfl _ _ _ (H.at 0 rfl) _ Tryz.underlying47 rfl _ (dRow0 _ _ _ _ _ _ _ _ _ _) ?_) | (go_at_call 128; (with_reducible refine (HM.out).mono ?_); rintro e W' ⟨rfl, rfl⟩) | (refine wpList_lookup_run rfl 110 _ _ _ rfl _ _ _ rfl rfl HL.out ?_) | (go_at_call 63; (with_reducible refine (HC.out).mono ?_); rintro e W ⟨v', rfl, hfr, hb⟩))
    refine bodyPost_ret (results_tmp2 rfl _ _ _) rfl ?_
    exact ⟨v', rfl, hfr, HN.out, hb⟩

theorem read_no {w : World} {g : Nat} {D : DS} {own rd : Nat → Prop} (hd : DiskIs w g D own rd) (i : Int) (m : Int) (hm : D.may i = m) (hne : m ≠ 0) :
    Calls Tryz.prog 106 #[.pointer (some ⟨g, 0, none⟩), .int .i64 i] w fun e w' => e = .returned (.tuple #[.slice none 0 0, .int .i64 m]) ∧ w = w' := by
  have HM := Lib.hid (may_calls hd i)
  rw [hm] at HM
  have b1 : (m == 0) = false := beq_eq_false_iff_ne.2 hne
  have b2 : (m != 0) = true := by simp [bne, b1]
  clear hd hm hne
  go_enter Tryz.func106, Tryz.ntmps106
  go_wp2_with (first | (go_at_call 128; (with_reducible refine (HM.out).mono ?_); rintro e W' ⟨rfl, rfl⟩))
  refine bodyPost_ret (results_tmp2 rfl _ _ _) rfl ?_
  exact ⟨rfl, rfl⟩

end Go.Proofs.YtlgciddnpinpbaaGreatDoor

namespace Go.Proofs.YtlgciddnpinpbaaGreatDoor
open Go.RowKit
set_option linter.unusedSimpArgs false
set_option linter.unusedVariables false
set_option maxRecDepth 4000

theorem DiskTo.st {W W' : World} {g : Nat} {D' : DS} {own rd : Nat → Prop} (h : DiskTo W g own rd D' W') : ∃ own' rd', St own rd W W' [dA g D' own' rd'] := by
  obtain ⟨own', rd', h1, h2, h3, h4⟩ := h
  refine ⟨own', rd', h2, ?_, ?_, ?_, ?_⟩
  · intro i A hi
    rcases i with _ | i <;> simp at hi
    subst hi; exact h1
  · intro i j A B hi hj hne
    rcases i with _ | i <;> rcases j with _ | j <;> simp at hi hj
    exact absurd rfl hne
  · intro i A hi k hk
    rcases i with _ | i <;> simp at hi
    subst hi; exact (h3 k hk).symm
  · intro i A hi k hk
    rcases i with _ | i <;> simp at hi
    subst hi
    rcases h4 k hk with h | h | h
    · exact .inr (.inl h)
    · exact .inr (.inr h)
    · exact .inl h

/-- A call on a disk goes on behind another one. -/
theorem DiskTo.open_ {W W' : World} {g : Nat} {D : DS} {own rd : Nat → Prop} (h : DiskTo W g own rd D W') :
    ∃ rd' gl gm cap rows junk M tv, D.Fine ∧ rows.length = D.last.length ∧ (rows ++ junk).length = cap ∧
      St own rd W W' [blk g (.cells (dRow (.slice (some ⟨gl, 0, none⟩) D.last.length cap) (.map (some gm)) D.dead D.armed D.n D.part D.way tv D.writes D.lives).toArray 159 (0, 0)),
        blk gl (.cells (rows ++ junk).toArray 22 (0, 0)), mapA gm (Go.Maps.size M) M, payA rd' rows D.last M D.wait tv D.torn] := by
  obtain ⟨own', rd', H⟩ := h.st
  obtain ⟨gl, gm, cap, rows, junk, M, tv, h1, h2, h3, H'⟩ := (H.at 0 rfl : DiskIs W' g D own' rd').open_
  exact ⟨rd', gl, gm, cap, rows, junk, M, tv, h1, h2, h3, H.sub H'⟩

/-- A slice of bytes that comes in: its block is no part of the disk. -/
structure ArgB (w : World) (own : Nat → Prop) (v : Value) (l : List UInt8) : Prop where
  is : ∃ g off cap, v = .slice (some ⟨g, off, none⟩) l.length cap ∧ l.length ≤ cap ∧ BytesAt w g off l ∧ (l = [] ∨ (g < w.heap.size ∧ ¬ own g))
  len : l.length ≤ 1048576

/-- Write: what it says, and the disk behind it. -/
def DS.writeC (D : DS) (i : Int) (l : List UInt8) : Int := if D.may i = 0 then (if l.length = 256 then (if D.failsB then 12 else 0) else 13) else D.may i
def DS.writeD (D : DS) (i : Int) (l : List UInt8) : DS :=
  if D.may i = 0 then (if l.length = 256 then
    (if D.failsB then { D.failsD with way := i, torn := l.take D.part.toNat } else { D.failsD with wait := fun j => if (j : Int) = i then some l else D.wait j, writes := D.writes + 1 }) else D) else D

theorem write_no {w : World} {g : Nat} {D : DS} {own rd : Nat → Prop} (hd : DiskIs w g D own rd) (i : Int) (v : Value) (m : Int) (hm : D.may i = m) (hne : m ≠ 0) :
    Calls Tryz.prog 97 #[.pointer (some ⟨g, 0, none⟩), .int .i64 i, v] w fun e w' => e = .returned (.int .i64 m) ∧ w = w' := by
  have HM := Lib.hid (may_calls hd i)
  rw [hm] at HM
  have b1 : (m == 0) = false := beq_eq_false_iff_ne.2 hne
  have b2 : (m != 0) = true := by simp [bne, b1]
  clear hd hm hne
  go_enter Tryz.func97, Tryz.ntmps97
  go_wp2_with (first | (go_at_call 128; (with_reducible refine (HM.out).mono ?_); rintro e W' ⟨rfl, rfl⟩))
  go_ret
  exact ⟨rfl, rfl⟩

theorem write_short {w : World} {g : Nat} {D : DS} {own rd : Nat → Prop} (hd : DiskIs w g D own rd) (i : Int) (p : Option Addr) (n cap : Nat) (hm : D.may i = 0) (hn : n ≠ 256) :
    Calls Tryz.prog 97 #[.pointer (some ⟨g, 0, none⟩), .int .i64 i, .slice p n cap] w fun e w' => e = .returned (.int .i64 13) ∧ w = w' := by
  have HM := Lib.hid (may_calls hd i)
  rw [hm] at HM
  have b1 : ((n : Int) == 256) = false := beq_eq_false_iff_ne.2 (by omega)
  have b2 : ((n : Int) != 256) = true := by simp [bne, b1]
  clear hd hm hn
  go_enter Tryz.func97, Tryz.ntmps97
  go_wp2_with (first | (go_at_call 128; (with_reducible refine (HM.out).mono ?_); rintro e W' ⟨rfl, rfl⟩))
  go_ret
  exact ⟨rfl, rfl⟩

end Go.Proofs.YtlgciddnpinpbaaGreatDoor

namespace Go.Proofs.YtlgciddnpinpbaaGreatDoor
open Go.RowKit
set_option linter.unusedSimpArgs false
set_option linter.unusedVariables false
set_option maxRecDepth 4000

theorem BytesAt.take {W : World} {g off : Nat} {l : List UInt8} (h : BytesAt W g off l) (p : Nat) : BytesAt W g off (l.take p) := by
  intro i hi
  have hi' : i < l.length := by simp at hi; omega
  have := h i hi'
  rw [this]
  simp

theorem BytesAt.front {W : World} {g : Nat} {l : List UInt8} {junk : List Value} {t : TypeId} {fr : Nat × Nat} (h : W.heap[g]? = some (.cells (byteV l ++ junk).toArray t fr)) : BytesAt W g 0 l := by
  intro i hi
  rw [cell_of_row W g _ _ t fr h]
  simp [List.getElem?_append, hi, byteV]

theorem clone_part {w : World} {g off cap p : Nat} {l : List UInt8} (hb : BytesAt w g off l) (hp : p ≤ l.length) (hl : l.length ≤ 1048576) (hlt : g < w.heap.size) :
    Calls Tryz.prog 63 #[.slice (some ⟨g, off, none⟩) p cap] w fun e w' => ∃ gc capc junk, e = .returned (.slice (some ⟨gc, 0, none⟩) p capc) ∧ p ≤ capc ∧ w.heap.size ≤ gc ∧
      w'.heap[gc]? = some (.cells (byteV (l.take p) ++ junk).toArray 5 (0, 0)) ∧ Below w.heap.size w w' := by
  have hlen : (l.take p).length = p := by simp; omega
  have := clone_calls w g off cap (l.take p) (hb.take p) (by omega) (.inr hlt)
  rw [hlen] at this
  refine this.mono ?_
  rintro e w' ⟨g', cap', junk, rfl, h5, h6, h7, h8, h9⟩
  exact ⟨g', cap', junk, rfl, h5, h7, h8, h9⟩

/-- New torn bytes. -/
theorem PayIs.tear {W : World} {rd : Nat → Prop} {rows : List Value} {last : List (List UInt8)} {M : DataW Value} {wait : Nat → Option (List UInt8)} {tv : Value} {torn : List UInt8} (h : PayIs W rd rows last M wait tv torn)
    {gc p capc : Nat} {l : List UInt8} {junk : List Value} {t : TypeId} {fr : Nat × Nat} (hp : l.length = p) (hc : p ≤ capc) (hg : W.heap[gc]? = some (.cells (byteV l ++ junk).toArray t fr)) :
    PayIs W (fun k => rd k ∨ k = gc) rows last M wait (.slice (some ⟨gc, 0, none⟩) p capc) l := by
  have h' := h.same (W' := W) (rd' := fun k => rd k ∨ k = gc) (fun k hk => ⟨rfl, .inl hk⟩) (fun k hk => by
    rcases hk with hk | rfl
    · exact h.lt k hk
    · exact (Array.getElem?_eq_some_iff.1 hg).1)
  exact ⟨h'.sect, h'.keys, h'.waits, .inr ⟨gc, 0, capc, by rw [hp], by omega, .inr (.inr rfl), BytesAt.front hg⟩, h'.lt⟩

theorem write_fail {w : World} {g : Nat} {D : DS} {own rd : Nat → Prop} (hd : DiskIs w g D own rd) (k : Nat) (hk : k < D.last.length) (hdd : D.dead = false) (v : Value) (l : List UInt8) (hv : ArgB w own v l) (hl : l.length = 256) (hfl : D.failsB = true) :
    Calls Tryz.prog 97 #[.pointer (some ⟨g, 0, none⟩), .int .i64 (k : Int), v] w fun e w' => e = .returned (.int .i64 12) ∧ DiskTo w g own rd { D.failsD with way := k, torn := l.take D.part.toNat } w' := by
  have hm : D.may (k : Int) = 0 := by simp [DS.may, hdd]; omega
  have HM := Lib.hid (may_calls hd (k : Int))
  have HF := Lib.hid (fails_calls hd)
  rw [hm] at HM
  rw [hfl] at HF
  obtain ⟨gb, off, cb, rfl, hc, hb, hlt⟩ := hv.is
  have hlt' : gb < w.heap.size ∧ ¬ own gb := by
    rcases hlt with rfl | h
    · simp at hl
    · exact h
  have hpart : D.failsD.part = D.part := by unfold DS.failsD; split <;> (try split) <;> rfl
  have hlast : D.failsD.last = D.last := by unfold DS.failsD; split <;> (try split) <;> rfl
  rw [← hpart]
  rw [← hlast] at hk
  have HK := Lib.hid hk
  clear hd hm hdd hv hlt hfl hpart hlast hk
  generalize D.failsD = D1 at *
  have HB := Lib.hid hb
  have HC := Lib.hid hc
  have HL := Lib.hid hl
  clear hb hc hl
  rw [HL.out]
  go_enter Tryz.func97, Tryz.ntmps97
  go_wp2_with (first
    | (go_at_call 128; (with_reducible refine (HM.out).mono ?_); rintro e W' ⟨rfl, rfl⟩)
    | (refine wpList_load1_st rfl 3 _ rfl _ _ rfl _ _ _ (H.at 0 rfl) _ Tryz.underlying3 rfl _ (dRow5 _ _ _ _ _ _ _ _ _ _) ?_)
    | (go_at_call 129; (with_reducible refine (HF.out).mono ?_); rintro e W ⟨rfl, hto⟩; obtain ⟨rd1, gl, gm, cap, rows, junk, M, tv, hf1, h3, h4, H⟩ := hto.open_; have hp1 := hf1.part.1; have hp2 := hf1.part.2; have hc1 : (256 : Int) ≤ (cb : Int) := by have := HC.out; rw [HL.out] at this; omega)
    | (go_at_call 63; ((refine (clone_part (HB.out.same (.inr (H.fix.block gb hlt'.1 hlt'.2))) (by rw [HL.out]; omega) (by rw [HL.out]; omega) (Nat.lt_of_lt_of_le hlt'.1 H.fix.size)).mono ?_); rintro e W2 ⟨gc, capc, junkc, rfl, hc2, hcg, hcc, hbl⟩; replace H := H.add (Fix.of_below hbl _) (blk gc _) hcc (fun k hk => by rw [show k = gc from hk]; exact hcg) (fun k hk => hk.elim); clear hcc hcg hbl; simp only [List.nil_append, List.cons_append] at H))
    | (refine wpList_store1_st H 0 rfl 3 _ _ rfl _ _ (.int .i64 _) rfl rfl rfl _ _ rfl rfl (by simp [dRow]) ?_; clear H; intro W H; (try simp only [cells_arrV, List.nil_append, List.cons_append, List.set_cons_zero, List.set_cons_succ] at H); try simp only [dSet1, dSet2, dSet3, dSet4, dSet5, dSet6, dSet7, dSet8, dSet9] at H)
    | (refine wpList_store1_st H 0 rfl 22 _ _ rfl _ _ (.slice _ _ _) rfl rfl rfl _ _ rfl rfl (by simp [dRow]) ?_; clear H; intro W H; (try simp only [cells_arrV, List.nil_append, List.cons_append, List.set_cons_zero, List.set_cons_succ] at H); try simp only [dSet1, dSet2, dSet3, dSet4, dSet5, dSet6, dSet7, dSet8, dSet9] at H))
  go_ret
  refine ⟨rfl, ?_⟩
  have hlp : (l.take D1.part.toNat).length = D1.part.toNat := by rw [List.length_take, HL.out]; omega
  have J := H.join 4 3 (A' := payA (fun k => rd1 k ∨ k = gc) rows D1.last M D1.wait (.slice (some ⟨gc, 0, none⟩) D1.part.toNat capc) (l.take D1.part.toNat)) rfl rfl ((H.at 3 rfl : PayIs _ rd1 rows D1.last M D1.wait tv D1.torn).tear hlp hc2 (H.at 4 rfl)) (fun k hk => hk.elim) (fun k hk => by
    rcases hk with hk | rfl
    · exact .inl (.inr hk)
    · exact .inr (.inl rfl))
  refine J.disk (D' := { D1 with way := k, torn := l.take D1.part.toNat }) ⟨hf1.n1, hf1.n2, hf1.len, hf1.part, ⟨by show -1 ≤ (k : Int); omega, by show (k : Int) < (D1.last.length : Int); have := HK.out; omega⟩, by show (l.take _).length ≤ _; rw [hlp]; omega, hf1.nlo, hf1.nhi⟩ gl gm cap rows junk M _ _ h3 h4 0 1 2 3 rfl rfl rfl rfl (by decide) (by decide) (by decide) (by decide) (by decide) (by decide)

end Go.Proofs.YtlgciddnpinpbaaGreatDoor

namespace Go.Proofs.YtlgciddnpinpbaaGreatDoor
open Go.RowKit
set_option linter.unusedSimpArgs false
set_option linter.unusedVariables false
set_option maxRecDepth 4000

theorem row_cell {W : World} {g off : Nat} {cs : Array Value} {t : TypeId} {fr : Nat × Nat} {v : Value} (hg : W.heap[g]? = some (.cells cs t fr)) (hv : cs[off]? = some v) : W.cell? ⟨g, off, none⟩ = some v := by
  rw [cell_of_row W g off _ t fr hg]; exact hv

/-- The map is stored into. -/
theorem St.mapStore {M0 R0 : Nat → Prop} {w0 W : World} {L : List Asrt} (H : St M0 R0 w0 W L) (i : Nat) {gm : Nat} {M : DataW Value} (hi : L[i]? = some (mapA gm (Go.Maps.size M) M)) (hs : Go.Maps.size M ≤ 1900) (k : Nat) (hk : k < 1048576) (v : Value) :
    ∃ W', (Instr.mapUpdate 110 (.map (some gm)) (.int .i64 (k : Int)) v).run Tryz.prog W = .ok () W' ∧ St M0 R0 w0 W' (L.set i (mapA gm (Go.Maps.size (M.put (keyI k) (.held v))) (M.put (keyI k) (.held v)))) := by
  obtain ⟨W', hrun, hown, hturn⟩ := (H.at i hi : W.ownsMap Tryz.prog 3 RV gm (Go.Maps.size M) M).store keyedInt Tryz.underlying110 (by simp only [maxLen]; omega) (keyI_is hk) (val := v) (d := .held v) (ps := []) rfl
  refine ⟨W', hrun, H.step i hi (Fix.turned hturn) (ownsMap_fit hown) ⟨fun _ h => .inl h, fun _ h => h.elim⟩⟩

theorem clone_256 {w : World} {g off cap : Nat} {l : List UInt8} (hb : BytesAt w g off l) (hl : l.length = 256) (hlt : g < w.heap.size) :
    Calls Tryz.prog 63 #[.slice (some ⟨g, off, none⟩) 256 cap] w fun e w' => ∃ gc capc junk, e = .returned (.slice (some ⟨gc, 0, none⟩) 256 capc) ∧ 256 ≤ capc ∧ w.heap.size ≤ gc ∧
      w'.heap[gc]? = some (.cells (byteV l ++ junk).toArray 5 (0, 0)) ∧ Below w.heap.size w w' := by
  have := clone_part (cap := cap) hb (p := 256) (by omega) (by omega) hlt
  rw [List.take_of_length_le (by omega)] at this
  exact this

/-- One more sector waits. -/
theorem PayIs.put {W : World} {rd : Nat → Prop} {rows : List Value} {last : List (List UInt8)} {M : DataW Value} {wait : Nat → Option (List UInt8)} {tv : Value} {torn : List UInt8} (h : PayIs W rd rows last M wait tv torn) (hM : Go.Maps.IsMap M)
    {gc capc : Nat} {l : List UInt8} {junk : List Value} {t : TypeId} {fr : Nat × Nat} (hl : l.length = 256) (hc : 256 ≤ capc) (hg : W.heap[gc]? = some (.cells (byteV l ++ junk).toArray t fr)) (k : Nat) (hk : k < last.length) :
    PayIs W (fun k => rd k ∨ k = gc) rows last (M.put (keyI k) (.held (.slice (some ⟨gc, 0, none⟩) 256 capc))) (fun j => if j = k then some l else wait j) tv torn := by
  have h' := h.same (W' := W) (rd' := fun k => rd k ∨ k = gc) (fun k hk => ⟨rfl, .inl hk⟩) (fun k hk => by
    rcases hk with hk | rfl
    · exact h.lt k hk
    · exact (Array.getElem?_eq_some_iff.1 hg).1)
  refine ⟨h'.sect, fun kl hkl => ?_, fun j => ?_, h'.torn, h'.lt⟩
  · by_cases e : kl = keyI k
    · exact ⟨k, hk, e⟩
    · rw [Go.Maps.has_put_other e] at hkl
      exact h.keys kl hkl
  · by_cases e : j = k
    · subst e
      refine .inr ⟨_, l, Go.Maps.has_put_same hM (show WideAt.IsKeyLit (keyI j) from trivial) _, Go.Maps.atKey_put_same hM (show WideAt.IsKeyLit (keyI j) from trivial) _ _, by simp, hl, .inr ⟨gc, 0, capc, by rw [hl], by omega, .inr (.inr rfl), BytesAt.front hg⟩⟩
    · have e' : keyI j ≠ keyI k := fun x => e (keyI_inj x)
      rw [Go.Maps.has_put_other e', Go.Maps.atKey_put_other e']
      simp only [if_neg e]
      exact h'.waits j

theorem write_ok {w : World} {g : Nat} {D : DS} {own rd : Nat → Prop} (hd : DiskIs w g D own rd) (k : Nat) (hk : k < D.last.length) (hdd : D.dead = false) (v : Value) (l : List UInt8) (hv : ArgB w own v l) (hl : l.length = 256) (hfl : D.failsB = false) (hw : 0 ≤ D.writes ∧ D.writes < 1000000) :
    Calls Tryz.prog 97 #[.pointer (some ⟨g, 0, none⟩), .int .i64 (k : Int), v] w fun e w' => e = .returned (.int .i64 0) ∧ DiskTo w g own rd { D.failsD with wait := fun j => if j = k then some l else D.failsD.wait j, writes := D.failsD.writes + 1 } w' := by
  have hm : D.may (k : Int) = 0 := by simp [DS.may, hdd]; omega
  have HM := Lib.hid (may_calls hd (k : Int))
  have HF := Lib.hid (fails_calls hd)
  rw [hm] at HM
  rw [hfl] at HF
  obtain ⟨gb, off, cb, rfl, hc, hb, hlt⟩ := hv.is
  have hlt' : gb < w.heap.size ∧ ¬ own gb := by
    rcases hlt with rfl | h
    · simp at hl
    · exact h
  have hwr : D.failsD.writes = D.writes := by unfold DS.failsD; split <;> (try split) <;> rfl
  have hlast : D.failsD.last = D.last := by unfold DS.failsD; split <;> (try split) <;> rfl
  rw [← hlast] at hk
  rw [← hwr] at hw
  obtain ⟨hw1, hw2⟩ := hw
  have HK := Lib.hid hk
  clear hd hm hdd hv hlt hfl hwr hlast hk
  generalize D.failsD = D1 at *
  have HB := Lib.hid hb
  have HC := Lib.hid hc
  have HL := Lib.hid hl
  clear hb hc hl
  rw [HL.out]
  go_enter Tryz.func97, Tryz.ntmps97
  go_wp2_with (first
    | (go_at_call 128; (with_reducible refine (HM.out).mono ?_); rintro e W' ⟨rfl, rfl⟩)
    | (go_at_call 129; (with_reducible refine (HF.out).mono ?_); rintro e W ⟨rfl, hto⟩; obtain ⟨rd1, gl, gm, cap, rows, junk, M, tv, hf1, h3, h4, H⟩ := hto.open_)
    )
  have HS := (H.at 3 rfl : PayIs _ rd1 rows D1.last M D1.wait tv D1.torn).size_le (H.at 2 rfl)
  have hs2 := hf1.n2
  have HMp := Lib.hid (H.at 2 rfl : World.ownsMap _ Tryz.prog 3 RV gm (Go.Maps.size M) M).isMap
  replace H := H.drew
  have hcell := row_cell (H.at 0 rfl) (dRow1 _ _ _ _ _ _ _ _ _ _)
  go_region_held3 (fun w' => w'.cell? ⟨g, 1, none⟩ = some (.map (some gm))) (assumption) (first
    | (go_at_call 63; ((refine (clone_256 (HB.out.same (.inr (H.fix.block gb hlt'.1 hlt'.2))) HL.out (Nat.lt_of_lt_of_le hlt'.1 H.fix.size)).mono ?_); rintro e W2 ⟨gc, capc, junkc, rfl, hc2, hcg, hcc, hbl⟩; replace H := H.add (Fix.of_below hbl _) (blk gc _) hcc (fun k hk => by rw [show k = gc from hk]; exact hcg) (fun k hk => hk.elim); obtain ⟨W3, hrun, H3⟩ := H.mapStore 2 rfl (by omega) k (by have := HK.out; omega) (.slice (some ⟨gc, 0, none⟩) 256 capc); replace hcell := row_cell (H.at 0 rfl) (dRow1 _ _ _ _ _ _ _ _ _ _); have hcell3 := row_cell (H3.at 0 rfl) (dRow1 _ _ _ _ _ _ _ _ _ _); clear hcc hcg hbl; simp only [List.nil_append, List.cons_append] at H)))
  clear H hcell hcell3
  replace H := H3
  clear H3
  simp only [List.nil_append, List.cons_append, List.set_cons_zero, List.set_cons_succ] at H
  go_wp2_with (first
    | (refine wpList_load1_st rfl 3 _ rfl _ _ rfl _ _ _ (H.at 0 rfl) _ Tryz.underlying3 rfl _ (dRow8 _ _ _ _ _ _ _ _ _ _) ?_)
    | (refine wpList_store1_st H 0 rfl 3 _ _ rfl _ _ (.int .i64 _) rfl rfl rfl _ _ rfl rfl (by simp [dRow]) ?_; clear H; intro W H; (try simp only [cells_arrV, List.nil_append, List.cons_append, List.set_cons_zero, List.set_cons_succ] at H); try simp only [dSet1, dSet2, dSet3, dSet4, dSet5, dSet6, dSet7, dSet8, dSet9] at H))
  go_ret
  refine ⟨rfl, ?_⟩
  have J := H.join 4 3 (A' := payA (fun k => rd1 k ∨ k = gc) rows D1.last (M.put (keyI k) (.held (.slice (some ⟨gc, 0, none⟩) 256 capc))) (fun j => if j = k then some l else D1.wait j) tv D1.torn) rfl rfl
    ((H.at 3 rfl : PayIs _ rd1 rows D1.last M D1.wait tv D1.torn).put HMp.out HL.out hc2 (H.at 4 rfl) k HK.out) (fun k hk => hk.elim) (fun k hk => by
    rcases hk with hk | rfl
    · exact .inl (.inr hk)
    · exact .inr (.inl rfl))
  refine J.disk (D' := { D1 with wait := fun j => if j = k then some l else D1.wait j, writes := D1.writes + 1 }) ⟨hf1.n1, hf1.n2, hf1.len, hf1.part, hf1.way, hf1.torn, hf1.nlo, hf1.nhi⟩ gl gm cap rows junk _ _ _ h3 h4 0 1 2 3 rfl rfl rfl rfl (by decide) (by decide) (by decide) (by decide) (by decide) (by decide)

end Go.Proofs.YtlgciddnpinpbaaGreatDoor

namespace Go.Proofs.YtlgciddnpinpbaaGreatDoor
open Go.RowKit
set_option linter.unusedSimpArgs false
set_option linter.unusedVariables false
set_option maxRecDepth 4000

variable {ops : Array Oper} {rest : List Oper} {o : Oper} {a : Act} {Q : Exit → Act → World → Prop}
variable {M0 R0 : Nat → Prop} {w0 W : World} {L : List Asrt}

theorem Fix.grown {w w' : World} {row : Option Nat} (h : w.grownBy w' row) {N : Nat → Prop} (hN : ∀ k, row = some k → N k) : Fix N w w' :=
  ⟨h.os, h.tape, h.output, h.size, fun i hi hn => h.block i hi (fun e => hn (hN i e.symm))⟩

/-- A range that is under way over the map gm; r is its iterator. -/
def rangeA (gm r n : Nat) (M : DataW Value) (left : Lit → Bool) (cnt : Nat) : Asrt where
  own k := k = gm ∨ k = r
  rd _ := False
  prop W := W.ranges Tryz.prog 3 RV gm r n M left cnt
  stable W W' h hp := by
    obtain ⟨es, clock, since, seen, c0, hb, F, hs, hD, hr, h2⟩ := hp
    exact ⟨es, clock, since, seen, c0, (h gm (.inl (.inl rfl))).trans hb, F, hs, hD, (h r (.inl (.inr rfl))).trans hr, h2⟩
  bound W hp k hk := by
    rcases hk with (rfl | rfl) | hk
    · exact hp.owns.lt
    · exact hp.lt
    · exact hk.elim

theorem ranges_has {gm r n cnt : Nat} {M : DataW Value} {left : Lit → Bool} (h : W.ranges Tryz.prog 3 RV gm r n M left cnt) {kl : Lit} (hl : left kl = true) : Go.Maps.has M kl = true := by
  obtain ⟨es', e1, _, hkey⟩ := h.owns.entries keyedInt
  obtain ⟨es, clock, since, seen, c0, hb, F, hs, rfl, hr, hborn, hcnt, h1, h2, _⟩ := h
  obtain ⟨x, hx, rfl⟩ := h2 kl hl
  cases e1
  have hm : WideElems.rg Tryz.prog 3 RV x ∈ (es.toList.map (WideElems.rg Tryz.prog 3 RV)).foldr DataW.insert [] := mem_sorted.2 (List.mem_map_of_mem hx)
  rw [Go.Maps.has_eq, List.any_eq_true]
  exact ⟨_, hm, WideAt.sameKey_self (hkey _ hm)⟩

theorem wpList_range_st (H : St M0 R0 w0 W L) (ix : Nat) (hwt : Region.wanted o (yielded ops a.tmps) = true) (m : Operand) (hop : o.op = .range 110 m) (gm : Nat) (hm : a.eval m = .map (some gm)) (M : DataW Value)
    (hi : L[ix]? = some (mapA gm (Go.Maps.size M) M))
    (h : ∀ W' r, St M0 R0 w0 W' (L.set ix (rangeA gm r (Go.Maps.size M) M (Go.Maps.has M) (Go.Maps.size M))) → wpList Tryz.prog ops Q rest (a.put o.dst (.pointer (some ⟨r, 0, none⟩))) W') : wpList Tryz.prog ops Q (o :: rest) a W := by
  refine wpList_want hwt fun K hK => ?_
  obtain ⟨W', hrun, r1, r2, r3⟩ := (H.at ix hi : W.ownsMap Tryz.prog 3 RV gm (Go.Maps.size M) M).range keyedInt Tryz.underlying110
  have H' := H.step ix hi (A' := rangeA gm W.heap.size (Go.Maps.size M) M (Go.Maps.has M) (Go.Maps.size M)) (Fix.grown r2 (fun k e => by cases e)) r1 ⟨fun k hk => by
    rcases hk with rfl | rfl
    · exact .inl rfl
    · exact .inr (Nat.le_refl _), fun k hk => hk.elim⟩
  unfold Oper.wp
  simp [execOp, hop, hm, hrun, Result.andThen]
  exact hK _ _ (h _ _ H')

theorem wpList_next_st (H : St M0 R0 w0 W L) (ix : Nat) (hwt : Region.wanted o (yielded ops a.tmps) = true) (it : Operand) (hop : o.op = .next it false) (r : Nat) (hit : a.eval it = .pointer (some ⟨r, 0, none⟩)) (gm n : Nat) (M : DataW Value) (left : Lit → Bool) (cnt : Nat)
    (hi : L[ix]? = some (rangeA gm r n M left cnt)) (N : Nat) (hkeys : ∀ kl, Go.Maps.has M kl = true → ∃ k : Nat, k < N ∧ kl = keyI k)
    (hDone : (∀ kl, left kl = false) → wpList Tryz.prog ops Q rest (a.put o.dst (.tuple #[.bool false])) W)
    (hMore : ∀ (k : Nat) (v : Value) (W' : World) (cnt' : Nat), k < N → left (keyI k) = true → M.atKey (keyI k) (.held (.slice none 0 0)) = .held v → St M0 R0 w0 W' (L.set ix (rangeA gm r n M (fun z => left z && !z.sameKey (keyI k)) cnt')) → cnt' < cnt →
      (Instr.entry (.pointer (some ⟨r, 0, none⟩))).run Tryz.prog W' = .ok (.tuple #[.int .i64 (k : Int), v]) W' → wpList Tryz.prog ops Q rest (a.put o.dst (.tuple #[.bool true, .int .i64 (k : Int), v])) W') : wpList Tryz.prog ops Q (o :: rest) a W := by
  refine wpList_want hwt fun K hK => ?_
  have hp : W.ranges Tryz.prog 3 RV gm r n M left cnt := H.at ix hi
  unfold Oper.wp
  rcases hp.next keyedInt o.type with ⟨h0, hl, hrun⟩ | ⟨key, v, kl, y, w', cnt', hkey, hlk, hv, hat, hrun, hrg, hlt, hgr, hsz, hen⟩
  · simp [execOp, hop, hit, hrun, Result.andThen]
    exact hK _ _ (hDone hl)
  · obtain ⟨k, hk, rfl⟩ := hkeys kl (ranges_has hp hlk)
    obtain ⟨x, rfl, e1, _⟩ := Go.Maps.keyOf_int_inv Tryz.underlying3 hkey
    simp only [keyI, Lit.int.injEq, true_and] at e1
    subst e1
    simp [RV] at hv
    subst hv
    simp [execOp, hop, hit, hrun, Result.andThen]
    refine hK _ _ (hMore k v w' cnt' hk hlk (hat _) (H.step ix hi (Fix.grown hgr (fun k e => by cases e; exact .inr rfl)) hrg ⟨fun _ h => .inl h, fun _ h => h.elim⟩) hlt hen)

theorem wpList_makemap_st {P : Program} (H : St M0 R0 w0 W L) (hwt : Region.wanted o (yielded ops a.tmps) = true) (T : TypeId) (hop : o.op = .makeMap T none)
    (h : ∀ W' g, St M0 R0 w0 W' (L ++ [mapA g 0 (.map [])]) → wpList P ops Q rest (a.put o.dst (.map (some g))) W') : wpList P ops Q (o :: rest) a W := by
  refine wpList_want hwt fun K hK => ?_
  unfold Oper.wp
  simp [execOp, hop, run_makeMap, Result.andThen]
  exact hK _ _ (h _ _ (H.add (Fix.alloc _ W _) (mapA W.heap.size 0 (.map [])) (World.ownsMap_made W _ _ _) (fun k hk => Nat.le_of_eq hk.symm) (fun k hk => hk.elim)))

end Go.Proofs.YtlgciddnpinpbaaGreatDoor

namespace Go.Proofs.YtlgciddnpinpbaaGreatDoor
open Go.RowKit
set_option linter.unusedSimpArgs false
set_option linter.unusedVariables false
set_option maxRecDepth 4000

/-- All sectors, as a reader sees them. -/
def DS.all (D : DS) : List (List UInt8) := (List.range D.last.length).map D.sect

theorem flush_no {w : World} {g : Nat} {D : DS} {own rd : Nat → Prop} (hd : DiskIs w g D own rd) (hdd : D.dead = true) :
    Calls Tryz.prog 94 #[.pointer (some ⟨g, 0, none⟩)] w fun e w' => e = .returned (.int .i64 12) ∧ w = w' := by
  have hm : D.may 0 = 12 := by simp [DS.may, hdd]
  have HM := Lib.hid (may_calls hd 0)
  rw [hm] at HM
  clear hd hm
  go_enter Tryz.func94, Tryz.ntmps94
  go_wp2_with (first | (go_at_call 128; (with_reducible refine (HM.out).mono ?_); rintro e W' ⟨rfl, rfl⟩))
  go_ret
  exact ⟨rfl, rfl⟩

theorem flush_fail {w : World} {g : Nat} {D : DS} {own rd : Nat → Prop} (hd : DiskIs w g D own rd) (hdd : D.dead = false) (hfl : D.failsB = true) :
    Calls Tryz.prog 94 #[.pointer (some ⟨g, 0, none⟩)] w fun e w' => e = .returned (.int .i64 12) ∧ DiskTo w g own rd D.failsD w' := by
  obtain ⟨gl, gm, cap, rows, junk, M, tv, hf, h3, h4, H⟩ := hd.open_
  have hm : D.may 0 = 0 := by have := hf.n1; simp [DS.may, hdd]; intro e; simp [e] at this
  have HM := Lib.hid (may_calls hd 0)
  have HF := Lib.hid (fails_calls hd)
  rw [hm] at HM
  rw [hfl] at HF
  clear hd hm H hfl
  generalize D.failsD = D1 at *
  go_enter Tryz.func94, Tryz.ntmps94
  go_wp2_with (first
    | (go_at_call 128; (with_reducible refine (HM.out).mono ?_); rintro e W' ⟨rfl, rfl⟩)
    | (go_at_call 129; (with_reducible refine (HF.out).mono ?_); rintro e W ⟨rfl, hto⟩))
  go_ret
  exact ⟨rfl, hto⟩

/-- The rows within a flush: those that are no longer to come are laid. -/
structure Mid (rows rows' : List Value) (M : DataW Value) (left : Lit → Bool) : Prop where
  len : rows'.length = rows.length
  at_ : ∀ (k : Nat) (v : Value), rows'[k]? = some v → (left (keyI k) = false ∧ Go.Maps.has M (keyI k) = true ∧ M.atKey (keyI k) (.held (.slice none 0 0)) = .held v) ∨ ((left (keyI k) = true ∨ Go.Maps.has M (keyI k) = false) ∧ v = rows.getD k undef)

theorem Mid.start (rows : List Value) (M : DataW Value) : Mid rows rows M (Go.Maps.has M) := by
  refine ⟨rfl, fun k v hv => .inr ⟨?_, ?_⟩⟩
  · cases Go.Maps.has M (keyI k) <;> simp
  · rw [List.getD_eq_getElem?_getD, hv]; rfl

theorem keyI_same (j k : Nat) : (keyI j).sameKey (keyI k) = decide (j = k) := by
  simp [keyI, Lit.sameKey]; omega

theorem Mid.step {rows rows' : List Value} {M : DataW Value} {left : Lit → Bool} (h : Mid rows rows' M left) (k : Nat) (v : Value) (hk : Go.Maps.has M (keyI k) = true) (hat : M.atKey (keyI k) (.held (.slice none 0 0)) = .held v) :
    Mid rows (rows'.set k v) M (fun z => left z && !z.sameKey (keyI k)) := by
  refine ⟨by rw [List.length_set]; exact h.len, fun j u hu => ?_⟩
  by_cases e : j = k
  · subst e
    have hj : j < rows'.length := by have := (List.getElem?_eq_some_iff.1 hu).1; simpa using this
    rw [List.getElem?_set_self hj] at hu
    cases hu
    exact .inl ⟨by simp [keyI_same], hk, hat⟩
  · rw [List.getElem?_set_ne (fun x => e x.symm)] at hu
    have e2 : (left (keyI j) && !(keyI j).sameKey (keyI k)) = left (keyI j) := by simp [keyI_same, e]
    rw [e2]
    exact h.at_ j u hu

theorem Mid.done {W : World} {rd : Nat → Prop} {D : DS} {rows rows' : List Value} {M : DataW Value} {left : Lit → Bool} {tv : Value} (h : Mid rows rows' M left) (hl : ∀ kl, left kl = false) (hr : rows.length = D.last.length)
    (hP : PayIs W rd rows D.last M D.wait tv D.torn) : PayIs W rd rows' D.all (.map []) (fun _ => none) tv D.torn := by
  refine ⟨fun i hi => ?_, fun kl hkl => (by cases hkl), fun k => .inl ⟨rfl, rfl⟩, hP.torn, hP.lt⟩
  have hi' : i < D.last.length := by simpa [DS.all] using hi
  have hlen : i < rows'.length := by rw [h.len, hr]; exact hi'
  have e1 : D.all[i] = D.sect i := by simp [DS.all]
  rw [e1, List.getD_eq_getElem?_getD, List.getElem?_eq_getElem hlen, Option.getD_some]
  have hv := h.at_ i rows'[i] (List.getElem?_eq_getElem hlen)
  rcases hP.waits i with ⟨a1, a2⟩ | ⟨v, l, a1, a2, a3, a4, a5⟩
  · rcases hv with ⟨_, b1, _⟩ | ⟨_, b2⟩
    · rw [a1] at b1; cases b1
    · rw [b2]
      have : D.sect i = D.last[i] := by simp [DS.sect, a2, hi']
      rw [this]
      exact hP.sect i hi'
  · rcases hv with ⟨_, _, b1⟩ | ⟨b1, _⟩
    · rw [a2] at b1
      have := DataW.held.inj b1
      rw [← this]
      have : D.sect i = l := by simp [DS.sect, a3]
      rw [this]
      exact a5
    · rw [hl, a1] at b1
      rcases b1 with b1 | b1 <;> cases b1

theorem ByS.oneCell {W : World} {rd : Nat → Prop} {v : Value} {l : List UInt8} (h : ByS W rd v l) : v.oneCell' = true := by
  rcases h with ⟨_, rfl⟩ | ⟨_, _, _, rfl, _⟩ <;> rfl

theorem PayIs.cellOf {W : World} {rd : Nat → Prop} {rows : List Value} {last : List (List UInt8)} {M : DataW Value} {wait : Nat → Option (List UInt8)} {tv : Value} {torn : List UInt8} (h : PayIs W rd rows last M wait tv torn) {k : Nat} {v : Value}
    (hk : Go.Maps.has M (keyI k) = true) (hat : M.atKey (keyI k) (.held (.slice none 0 0)) = .held v) : v.oneCell' = true := by
  rcases h.waits k with ⟨a1, _⟩ | ⟨v', l, a1, a2, a3, a4, a5⟩
  · rw [hk] at a1; cases a1
  · rw [hat] at a2
    rw [DataW.held.inj a2]
    exact a5.oneCell

theorem set_front (rows junk : List Value) (k : Nat) (hk : k < rows.length) (v : Value) : (rows ++ junk).toArray.setIfInBounds k v = (rows.set k v ++ junk).toArray := by
  simp [List.set_append, hk]

theorem DS.Fine.all {D : DS} (h : D.Fine) {W : World} {rd : Nat → Prop} {rows : List Value} {M : DataW Value} {tv : Value} (hP : PayIs W rd rows D.last M D.wait tv D.torn) : ∀ l ∈ D.all, l.length = 256 := by
  intro l hl
  obtain ⟨k, hk, rfl⟩ := List.mem_map.1 hl
  have hk' : k < D.last.length := by simpa using hk
  rcases hP.waits k with ⟨_, a2⟩ | ⟨_, l', _, _, a3, a4, _⟩
  · have : D.sect k = D.last[k] := by simp [DS.sect, a2, hk']
    rw [this]; exact h.len _ (List.getElem_mem hk')
  · have : D.sect k = l' := by simp [DS.sect, a3]
    rw [this]; exact a4

theorem rangeA_left {W : World} {gm r n cnt : Nat} {M : DataW Value} {left : Lit → Bool} (h : (rangeA gm r n M left cnt).prop W) : W.rangeLeft gm r = cnt := World.ranges.left_eq h

theorem flush_ok {w : World} {g : Nat} {D : DS} {own rd : Nat → Prop} (hd : DiskIs w g D own rd) (hdd : D.dead = false) (hfl : D.failsB = false) :
    Calls Tryz.prog 94 #[.pointer (some ⟨g, 0, none⟩)] w fun e w' => e = .returned (.int .i64 0) ∧ DiskTo w g own rd { D.failsD with last := D.failsD.all, wait := fun _ => none } w' := by
  have hf := hd.fine
  have hm : D.may 0 = 0 := by have := hf.n1; simp [DS.may, hdd]; intro e; simp [e] at this
  have HM := Lib.hid (may_calls hd 0)
  have HF := Lib.hid (fails_calls hd)
  rw [hm] at HM
  rw [hfl] at HF
  clear hd hm hfl hf
  generalize D.failsD = D1 at *
  go_enter Tryz.func94, Tryz.ntmps94
  go_wp2_with (first
    | (go_at_call 128; (with_reducible refine (HM.out).mono ?_); rintro e W' ⟨rfl, rfl⟩)
    | (go_at_call 129; (with_reducible refine (HF.out).mono ?_); rintro e W ⟨rfl, hto⟩; obtain ⟨rd1, gl, gm, cap, rows, junk, M, tv, hf1, h3, h4, H⟩ := hto.open_)
    | (refine wpList_load1_st rfl 110 _ rfl _ _ rfl _ _ _ (H.at 0 rfl) _ Tryz.underlying110 rfl _ (dRow1 _ _ _ _ _ _ _ _ _ _) ?_)
    | (refine wpList_range_st H 2 rfl _ rfl gm rfl M rfl ?_; clear H; intro W r H; simp only [List.set_cons_zero, List.set_cons_succ] at H))
  go_frame
  have HP := Lib.hid (H.at 3 rfl : PayIs _ rd1 rows D1.last M D1.wait tv D1.torn)
  have HF1 := Lib.hid hf1
  have HR := Lib.hid h3
  clear hf1 hto
  go_loopw [4, 5] (fun _ _ wr => ∃ left cnt rows', St own rd w wr [blk g (.cells (dRow (.slice (some ⟨gl, 0, none⟩) D1.last.length cap) (.map (some gm)) D1.dead D1.armed D1.n D1.part D1.way tv D1.writes D1.lives).toArray 159 (0, 0)),
        blk gl (.cells (rows' ++ junk).toArray 22 (0, 0)), rangeA gm r (Go.Maps.size M) M left cnt, payA rd1 rows D1.last M D1.wait tv D1.torn] ∧ Mid rows rows' M left) (fun _ _ wr => wr.rangeLeft gm r)
  case atStart => exact ⟨_, _, rows, H, Mid.start rows M⟩
  case round =>
    obtain ⟨left, cnt, rows', H, hmid⟩ := hrel
    go_wp2_with (first
      | (refine wpList_next_st H 2 rfl _ rfl r rfl gm _ M left cnt rfl D1.last.length HP.out.keys ?_ ?_))
    · intro hl
      go_wp2_with (first
        | (refine wpList_makemap_st H rfl 110 rfl ?_; clear H; intro W2 gN H; simp only [List.nil_append, List.cons_append] at H)
        | (refine wpList_store1_st H 0 rfl 110 _ _ rfl _ _ (.map _) rfl rfl rfl _ _ rfl rfl (by simp [dRow]) ?_; clear H; intro W H; (try simp only [cells_arrV, List.nil_append, List.cons_append, List.set_cons_zero, List.set_cons_succ] at H); try simp only [dSet1, dSet2, dSet3, dSet4, dSet5, dSet6, dSet7, dSet8, dSet9] at H))
      go_ret
      refine ⟨rfl, ?_⟩
      have hal : D1.all.length = D1.last.length := by simp [DS.all]
      have HP2 : PayIs _ rd1 rows D1.last M D1.wait tv D1.torn := H.at 3 rfl
      have J := H.step 3 rfl (A' := payA rd1 rows' D1.all (.map []) (fun _ => none) tv D1.torn) (Fix.refl _ _) (hmid.done hl HR.out HP2) ⟨fun _ h => h.elim, fun _ h => .inr (.inl h)⟩
      have hall := HF1.out.all HP2
      simp only [List.set_cons_zero, List.set_cons_succ] at J
      rw [← hal] at J
      refine J.disk (D' := { D1 with last := D1.all, wait := fun _ => none }) ⟨by show 32 ≤ D1.all.length; rw [hal]; exact HF1.out.n1, by show D1.all.length ≤ 1900; rw [hal]; exact HF1.out.n2, hall, HF1.out.part, ⟨HF1.out.way.1, by show D1.way < (D1.all.length : Int); rw [hal]; exact HF1.out.way.2⟩, HF1.out.torn, HF1.out.nlo, HF1.out.nhi⟩
        gl _ cap rows' junk (.map []) tv rd1 (by show rows'.length = D1.all.length; rw [hmid.len, HR.out, hal]) (by rw [← h4]; simp [hmid.len]) 0 1 4 3 rfl rfl rfl rfl (by decide) (by decide) (by decide) (by decide) (by decide) (by decide)
    · intro k v W1 cnt1 hk hlk hat H1 hlt hen
      have hhas : Go.Maps.has M (keyI k) = true := ranges_has (H.at 2 rfl : World.ranges wr _ _ _ _ _ _ _ _ _) hlk
      have HV := Lib.hid (HP.out.cellOf hhas hat)
      have hkr : k < rows'.length := by rw [hmid.len, HR.out]; exact hk
      have HO := Lib.hid (show k < (rows' ++ junk).toArray.size by simp; omega)
      have HE := (H.at 2 rfl : World.ranges wr Tryz.prog 3 RV gm r (Go.Maps.size M) M left cnt).left_eq
      have hki : (k : Int) < (D1.last.length : Int) := by omega
      have hk0 : 0 ≤ (k : Int) := by omega
      replace H := H1
      clear H1
      try simp only [List.set_cons_zero, List.set_cons_succ] at H
      go_wp2_with (first
        | (refine wpList_load1_st rfl 47 _ rfl _ _ rfl _ _ _ (H.at 0 rfl) _ Tryz.underlying47 rfl _ (dRow0 _ _ _ _ _ _ _ _ _ _) ?_)
        | (refine wpList_store1_st H 1 rfl 22 _ _ rfl _ _ v rfl rfl HV.out _ _ rfl rfl HO.out ?_; clear H; intro W2 H; simp only [List.set_cons_zero, List.set_cons_succ] at H))
      rw [set_front _ _ _ hkr] at H
      simp only [Act.put]
      go_roundw
      case rel => exact ⟨_, cnt1, _, H, hmid.step k v hhas hat⟩
      case measure =>
        have e1 := rangeA_left (H.at 2 rfl)
        rw [e1, HE]; exact hlt

end Go.Proofs.YtlgciddnpinpbaaGreatDoor

namespace Go.Proofs.YtlgciddnpinpbaaGreatDoor
open Go.RowKit
set_option linter.unusedSimpArgs false
set_option linter.unusedVariables false
set_option maxRecDepth 4000

section

variable {P : Program} {ops : Array Oper} {rest : List Oper} {o : Oper} {a : Act} {Q : Exit → Act → World → Prop}

variable {M0 R0 : Nat → Prop} {w0 W : World} {L : List Asrt}

/-- copy(b, t) to the front of a block that is ours. -/
theorem wpList_copy_bys (H : St M0 R0 w0 W L) (i : Nat) (hwt : Region.wanted o (yielded ops a.tmps) = true) (d s : Operand) (dT sT : TypeId)
    (ho : o.op = .call { callee := .builtin .copy, args := #[d, s], argTypes := #[dT, sT] }) (elem : TypeId) (hu : P.underlying dT = some (.slice elem)) (hsz : (P.info? elem).map (·.size) = some 1)
    (g dLen dCap : Nat) (hd : a.eval d = .slice (some ⟨g, 0, none⟩) dLen dCap) (v : Value) (hs : a.eval s = v) (rd : Nat → Prop) (l : List UInt8) (hb : ByS W rd v l)
    (cs : List Value) (t : TypeId) (hi : L[i]? = some (blk g (.cells cs.toArray t (0, 0)))) (hn : l.length ≤ dLen) (hfit : l.length ≤ cs.length)
    (h : ∀ W', St M0 R0 w0 W' (L.set i (blk g (.cells (byteV l ++ cs.drop l.length).toArray t (0, 0)))) → wpList P ops Q rest (a.put o.dst (goInt l.length)) W') :
    wpList P ops Q (o :: rest) a W := by
  refine wpList_want hwt fun K hK => ?_
  have hg := H.at i hi
  have key : ∃ W', (Builtin.copy_ #[dT, sT] o.type #[.slice (some ⟨g, 0, none⟩) dLen dCap, v]).run P W = .ok (goInt l.length) W' ∧ St M0 R0 w0 W' (L.set i (blk g (.cells (byteV l ++ cs.drop l.length).toArray t (0, 0)))) := by
    by_cases hl : l = []
    · subst hl
      have hset : L.set i (blk g (.cells (byteV [] ++ cs.drop 0).toArray t (0, 0))) = L := by
        have hlt : i < L.length := (List.getElem?_eq_some_iff.1 hi).1
        have e : L[i] = blk g (.cells cs.toArray t (0, 0)) := (List.getElem?_eq_some_iff.1 hi).2
        simp only [byteV, List.map_nil, List.nil_append, List.drop_zero]
        rw [← e]; exact List.set_getElem_self hlt
      simp only [List.length_nil]
      rw [hset]
      rcases hb with ⟨_, rfl⟩ | ⟨gs, off, cap, rfl, _⟩
      · exact ⟨W, run_copy_none W dT sT o.type elem _ _ _ _ _ _ hu hsz (by simp), H⟩
      · exact ⟨W, run_copy_none W dT sT o.type elem _ _ _ _ _ _ hu hsz (by simp), H⟩
    · rcases hb with ⟨e, _⟩ | ⟨gs, off, cap, rfl, _, _, hat⟩
      · exact absurd e hl
      · have hst := run_storeCells_at P g 0 t (byteV l) 0 _ W hg (by simp; omega) (byteV_one _)
        simp only [Nat.add_zero, byteV_length, List.take_zero, List.nil_append, Nat.zero_add, List.toList_toArray] at hst
        refine ⟨_, ?_, H.setRow i hi (byteV l ++ cs.drop l.length).toArray⟩
        cases hq : P.info? elem with
        | none => simp [hq] at hsz
        | some j =>
          have hj : j.size = 1 := by simpa [hq] using hsz
          have hfc := run_firstCells_some (P := P) W j.size l.length ⟨gs, off, none⟩ l.length cap (byteV l) (by rw [hj]; simp) (fun q u hu => by
            have hq : q < l.length := by have := (List.getElem?_eq_some_iff.1 hu).1; simpa using this
            rw [byteV_get, List.getElem?_eq_getElem hq, Option.map_some, Option.some.injEq] at hu
            rw [Addr.add_lit, ← hu]; exact hat q hq)
          have e2 : Nat.min l.length dLen = l.length := Nat.min_eq_left hn
          simp [Builtin.copy_, run_underlying hu, Builtin.lenOf, sizeOf, typeInfo, hq, e2, hfc, hst]
  obtain ⟨W', hrun, H'⟩ := key
  unfold Oper.wp
  simp [execOp, ho, resolve, invoke, builtin, hd, hs, hrun, Result.andThen]
  exact hK _ _ (h W' H')

end

theorem size_u8 : (Tryz.prog.info? 5).map (·.size) = some 1 := by kernel_rfl

/-- A row that is read: its cells. -/
def rdA (p : Option Addr) (xs : List Value) : Asrt where
  own _ := False
  rd k := xs ≠ [] ∧ ∃ ad, p = some ad ∧ k = ad.block
  prop W := xs = [] ∨ ∃ g off, p = some ⟨g, off, none⟩ ∧ g < W.heap.size ∧ ∀ i x, xs[i]? = some x → W.cell? ⟨g, off + i, none⟩ = some x
  stable W W' h hp := by
    rcases hp with hp | ⟨g, off, rfl, h1, h2⟩
    · exact .inl hp
    · by_cases hx : xs = []
      · exact .inl hx
      · have hb := h g (.inr ⟨hx, _, rfl, rfl⟩)
        refine .inr ⟨g, off, rfl, ?_, fun i x hi => (World.cell?_of_block (w := W) (a := ⟨g, off + i, none⟩) hb).trans (h2 i x hi)⟩
        rw [Array.getElem?_eq_getElem h1] at hb
        exact (Array.getElem?_eq_some_iff.1 hb).1
  bound W hp k hk := by
    rcases hk with hk | ⟨hx, ad, e, rfl⟩
    · exact hk.elim
    · rcases hp with hp | ⟨g, off, rfl, h1, _⟩
      · exact absurd hp hx
      · cases e; exact h1

theorem St.setCell {M0 R0 : Nat → Prop} {w0 W : World} {L : List Asrt} (H : St M0 R0 w0 W L) (i : Nat) {g : Nat} {cs : Array Value} {t : TypeId} (hi : L[i]? = some (blk g (.cells cs t (0, 0)))) (off : Nat) (v : Value) :
    St M0 R0 w0 (W.setCell ⟨g, off, none⟩ v) (L.set i (blk g (.cells (cs.setIfInBounds off v) t (0, 0)))) := by
  rw [setCell_eq_setRow W g off cs t (0, 0) v (H.at i hi)]
  exact H.setRow i hi _

/-- A slice that comes in and is read. -/
structure ArgL (w : World) (own : Nat → Prop) (v : Value) (xs : List Value) : Prop where
  is : ∃ p cap, v = .slice p xs.length cap ∧ (rdA p xs).prop w ∧ ∀ k, (rdA p xs).rd k → ¬ own k

theorem rdA_fix {w W : World} {own : Nat → Prop} {p : Option Addr} {xs : List Value} (h : (rdA p xs).prop w) (hn : ∀ k, (rdA p xs).rd k → ¬ own k) (hf : Fix own w W) : (rdA p xs).prop W :=
  (rdA p xs).stable w W (fun k hk => by
    rcases hk with hk | hk
    · exact hk.elim
    · exact hf.block k ((rdA p xs).bound w h k (.inr hk)) (hn k hk)) h

theorem rdA_at {W : World} {p : Option Addr} {xs : List Value} (h : (rdA p xs).prop W) {i : Nat} {x : Value} (hi : xs[i]? = some x) : ∃ g off, p = some ⟨g, off, none⟩ ∧ W.cell? ⟨g, off + i, none⟩ = some x := by
  rcases h with rfl | ⟨g, off, rfl, _, h2⟩
  · simp at hi
  · exact ⟨g, off, rfl, h2 i x hi⟩

end Go.Proofs.YtlgciddnpinpbaaGreatDoor

namespace Go.Proofs.YtlgciddnpinpbaaGreatDoor
open Go.RowKit
set_option linter.unusedSimpArgs false
set_option linter.unusedVariables false
set_option maxRecDepth 4000

section
variable {P : Program} {ops : Array Oper} {rest : List Oper} {o : Oper} {a : Act} {Q : Exit → Act → World → Prop}
variable {M0 R0 : Nat → Prop} {w0 W : World} {L : List Asrt}

/-- A row that is ours and grows: nil, or a block of its own. -/
def ownA (e : TypeId) (p : Option Addr) (n cap : Nat) (xs : List Value) : Asrt where
  own k := ∃ ad, p = some ad ∧ k = ad.block
  rd _ := False
  prop W := W.ownsRow 0 e 1 (.slice p n cap) n xs
  stable W W' h hp := by
    refine ⟨hp.1, ?_⟩
    rcases hp.2 with h0 | ⟨g, cap', cur, e1, hb, hg, r⟩
    · exact .inl h0
    · cases e1
      exact .inr ⟨g, cap, cur, rfl, hb, (h g (.inl ⟨_, rfl, rfl⟩)).trans hg, r⟩
  bound W hp k hk := by
    rcases hk with ⟨ad, rfl, rfl⟩ | hk
    · exact (hp.lt ad.block rfl).2
    · exact hk.elim

theorem wp_append_ownA (H : St M0 R0 w0 W L) (ix : Nat) {K : Act → World → Prop} (s x : Operand) (T : TypeId)
    (ho : o.op = .call { callee := .builtin .append, args := #[s, x], argTypes := #[T, T] }) (e : TypeId) (ht : P.underlying T = some (.slice e)) (z : Value) (b : Nat) (hi : (P.info? e).map (fun i => (i.zero, i.size, i.bytes)) = some (some z, 1, b)) (hz1 : z.cells.size = 1)
    (p : Option Addr) (n cap : Nat) (hs : a.eval s = .slice p n cap) (xs : List Value) (hix : L[ix]? = some (ownA e p n cap xs))
    (ad : Addr) (m c : Nat) (hx : a.eval x = .slice (some ad) m c) (news : List Value) (hl : news.length = m) (hnews : ∀ j u, news[j]? = some u → W.cell? (ad.add j) = some u) (h1 : ∀ u ∈ news, u.oneCell' = true)
    (hm : 0 < m) (h63 : n + m ≤ maxLen) (hbytes : (n + m) * b ≤ 140737488355328)
    (h : ∀ W' g' cap', St M0 R0 w0 W' (L.set ix (ownA e (some ⟨g', 0, none⟩) (n + m) cap' (xs ++ news))) → K (a.put o.dst (.slice (some ⟨g', 0, none⟩) (n + m) cap')) W') : o.wp P a W K Q := by
  obtain ⟨i, hii, hz, hsz, hby⟩ := info_parts hi
  have hown : W.ownsRow 0 e 1 (.slice p n cap) n xs := H.at ix hix
  obtain ⟨g', cap', w', hrun, r1, r2, r3, r4⟩ := run_append_lies (P := P) W T o.type 0 e i z 1 b ht hii hz hsz hby hz1 (by omega) (.slice p n cap) n xs hown ad m c news (by omega) hnews h1 hm h63 hbytes (Nat.zero_le _) W.heap.size rfl
  have hgrow : Fix (ownA e p n cap xs).own W w' := ⟨r2.os, r2.tape, r2.output, r2.size, fun k hk hn => r2.block k hk (fun e1 => hn (by
    cases p with
    | none => simp [Value.ownBlock] at e1
    | some ad => simp [Value.ownBlock] at e1; exact ⟨ad, rfl, e1⟩))⟩
  have hnew : ∀ k, (ownA e (some ⟨g', 0, none⟩) (n + m) cap' (xs ++ news)).own k → (ownA e p n cap xs).own k ∨ W.heap.size ≤ k := by
    rintro k ⟨ad', e1, rfl⟩
    cases e1
    rcases r3 with r3 | r3
    · left
      cases p with
      | none => simp [Value.ownBlock] at r3
      | some ad => simp [Value.ownBlock] at r3; exact ⟨ad, rfl, r3.symm⟩
    · right; show W.heap.size ≤ g'; omega
  have H' := H.step ix hix (A' := ownA e (some ⟨g', 0, none⟩) (n + m) cap' (xs ++ news)) hgrow r1 ⟨hnew, fun k hk => hk.elim⟩
  unfold Oper.wp execOp
  simp only [ho, resolve, invoke, builtin, Sem.run_bind, Sem.run_pure, Result.andThen_ok, List.map_toArray, List.map_cons, List.map_nil, hs, hx, hrun]
  exact h _ _ _ H'

/-- make([]T, n), run. -/
theorem St.make_run (H : St M0 R0 w0 W L) (T : TypeId) (e : TypeId) (ht : P.underlying T = some (.slice e)) (z : Value) (b : Nat)
    (hi : (P.info? e).map (fun i => (i.zero, i.size, i.bytes)) = some (some z, 1, b)) (hz1 : z.cells = #[z]) (n : Nat) (hb : b * n ≤ 281474976710656) (hm : n ≤ maxLen) :
    ∃ W' g, (Instr.makeSlice T (.int .i64 (n : Int)) (.int .i64 (n : Int))).run P W = .ok (.slice (some ⟨g, 0, none⟩) n n) W' ∧ St M0 R0 w0 W' (L ++ [blk g (.cells (List.replicate n z).toArray e (0, 0))]) := by
  obtain ⟨i, hii, hz, hsz, hby⟩ := info_parts hi
  obtain ⟨w', hrun, r1, r2⟩ := run_make_full (P := P) W W.heap.size T e i z 1 ht hii hz hsz .i64 .i64 n (by rw [hby]; exact hb) hm (Nat.le_refl _)
  have e1 : (madeCells z.cells (n * 1)).toList = List.replicate n z := by
    rw [hz1, Nat.mul_one]
    apply List.ext_getElem?
    intro j
    by_cases hj : j < n
    · simp [madeCells, hj, Nat.mod_one]
    · simp [madeCells, hj]
  rw [e1] at r1
  rcases r1.2 with ⟨h0, _⟩ | ⟨g, cap, cur, hv, hbg, hg, hnc, hcm, hcs, htake⟩
  · cases h0
  · simp only [Value.slice.injEq, Option.some.injEq, Addr.mk.injEq] at hv
    obtain ⟨⟨rfl, _⟩, _, rfl⟩ := hv
    have hcur : cur = (List.replicate n z).toArray := by
      apply Array.ext'
      have : cur.toList.take (n * 1) = cur.toList := List.take_of_length_le (by rw [Array.length_toList, hcs]; exact Nat.le_refl _)
      rw [← htake, this]
    subst hcur
    have H' := H.add (W' := w') ⟨r2.os, r2.tape, r2.output, r2.size, fun k hk _ => r2.block k hk (by simp)⟩ (blk W.heap.size (.cells (List.replicate n z).toArray e (0, 0))) hg (fun k hk => Nat.le_of_eq hk.symm) (fun k hk => hk.elim)
    exact ⟨w', _, hrun, H'⟩

/-- []T{v}, run. -/
theorem St.build1_run (H : St M0 R0 w0 W L) (T e : TypeId) (hu : P.underlying T = some (.slice e)) (hs : (P.info? e).map (·.size) = some 1) (z : Value) (hz : (P.info? e).bind (·.zero) = some z)
    (v : Value) (hf : Instr.fill (fun i => some (i * 1, 1)) ((Array.range (1 * 1)).map (z.cells[· % z.cells.size]!)) [(0, v)] = some #[v]) :
    ∃ W' g, (Instr.buildSlice T 1 #[(0, v)]).run P W = .ok (.slice (some ⟨g, 0, none⟩) 1 1) W' ∧ St M0 R0 w0 W' (L ++ [blk g (.cells #[v] e)]) := by
  refine ⟨W.alloc (.cells #[v] e), W.heap.size, ?_, H.alloc _⟩
  cases hq : P.info? e with
  | none => simp [hq] at hs
  | some j =>
    have hj : j.size = 1 := by simpa [hq] using hs
    have hjz : j.zero = some z := by simpa [hq] using hz
    unfold Instr.buildSlice
    simp only [Sem.run_bind, run_underlying hu W, Result.andThen_ok, sizeOf, typeInfo, hq, run_program, Sem.run_pure, hj]
    rw [if_neg (by omega)]
    simp only [Sem.run_pure, Result.andThen_ok, if_neg (by omega : ¬ 1 * 1 = 0), Sem.run_bind, zeroValue, typeInfo, hq, run_program, hjz, hf]
    simp [newRow, Result.andThen]

/-- A row that is not empty, as a block. -/
theorem ownA_blk {W : World} {e : TypeId} {p : Option Addr} {n cap : Nat} {xs : List Value} (h : (ownA e p n cap xs).prop W) (hn : 0 < n) :
    ∃ g junk, p = some ⟨g, 0, none⟩ ∧ W.heap[g]? = some (.cells (xs ++ junk).toArray e (0, 0)) ∧ xs.length = n ∧ (xs ++ junk).length = cap := by
  obtain ⟨h1, h2⟩ := h
  rcases h2 with ⟨_, h0⟩ | ⟨g, cap', cur, e1, hb, hg, h3, h4, h5, h6⟩
  · omega
  · cases e1
    refine ⟨g, cur.toList.drop n, rfl, ?_, by omega, ?_⟩
    · rw [hg]
      congr 2
      rw [← h6, Nat.mul_one, List.take_append_drop]
    · rw [← h6, Nat.mul_one, List.take_append_drop, Array.length_toList, h5, Nat.mul_one]

end

theorem St.take {M0 R0 : Nat → Prop} {w0 W : World} {L : List Asrt} (H : St M0 R0 w0 W L) (k : Nat) : St M0 R0 w0 W (L.take k) := by
  have hg : ∀ (i : Nat) (A : Asrt), (L.take k)[i]? = some A → L[i]? = some A := by
    intro i A h
    rw [List.getElem?_take] at h
    split at h
    · exact h
    · cases h
  exact ⟨H.fix, fun i A h => H.all i A (hg i A h), fun i j A B h h' hne => H.apart i j A B (hg i A h) (hg j B h') hne, fun i A h => H.mine i A (hg i A h), fun i A h => H.reads i A (hg i A h)⟩

theorem dSet0 (x0 x1 : Value) (x2 x3 : Bool) (x4 x5 x6 : Int) (x7 : Value) (x8 x9 : Int) (y : Value) : (dRow x0 x1 x2 x3 x4 x5 x6 x7 x8 x9).toArray.setIfInBounds 0 y = (dRow y x1 x2 x3 x4 x5 x6 x7 x8 x9).toArray := rfl

/-- One sector more. -/
theorem PayIs.more {W : World} {rd : Nat → Prop} {rows : List Value} {last : List (List UInt8)} {tv : Value} {torn : List UInt8} (h : PayIs W rd rows last (.map []) (fun _ => none) tv torn)
    (hr : rows.length = last.length) {gc capc : Nat} {l : List UInt8} {t : TypeId} {fr : Nat × Nat} {n : Nat} (hl : l.length = n) (hc : n ≤ capc) (hg : W.heap[gc]? = some (.cells (byteV l).toArray t fr)) :
    PayIs W (fun k => rd k ∨ k = gc) (rows ++ [.slice (some ⟨gc, 0, none⟩) n capc]) (last ++ [l]) (.map []) (fun _ => none) tv torn := by
  have h' := h.same (W' := W) (rd' := fun k => rd k ∨ k = gc) (fun k hk => ⟨rfl, .inl hk⟩) (fun k hk => by
    rcases hk with hk | rfl
    · exact h.lt k hk
    · exact (Array.getElem?_eq_some_iff.1 hg).1)
  refine ⟨fun i hi => ?_, fun kl hkl => (by cases hkl), fun k => .inl ⟨rfl, rfl⟩, h'.torn, h'.lt⟩
  by_cases e : i < last.length
  · rw [List.getElem_append_left e, List.getD_eq_getElem?_getD, List.getElem?_append_left (by omega), ← List.getD_eq_getElem?_getD]
    exact h'.sect i e
  · have e2 : i = last.length := by simp at hi; omega
    subst e2
    rw [List.getElem_append_right (by omega), List.getD_eq_getElem?_getD, List.getElem?_append_right (by omega)]
    simp only [hr, Nat.sub_self, List.getElem?_cons_zero, Option.getD_some, List.getElem_singleton]
    refine .inr ⟨gc, 0, capc, by rw [hl], by omega, .inr (.inr rfl), BytesAt.front (junk := []) (by rw [List.append_nil]; exact hg)⟩

end Go.Proofs.YtlgciddnpinpbaaGreatDoor

namespace Go.Proofs.YtlgciddnpinpbaaGreatDoor
open Go.RowKit
set_option linter.unusedSimpArgs false
set_option linter.unusedVariables false
set_option maxRecDepth 4000

def noSect : List UInt8 := List.replicate 256 0

theorem noSect_len : noSect.length = 256 := List.length_replicate

def DS.new (n : Nat) : DS := { last := List.replicate n noSect, wait := fun _ => none, dead := false, armed := false, n := 0, part := 0, way := -1, torn := [], writes := 0, lives := 0 }

theorem zero_row : (Tryz.prog.info? 22).bind (·.zero) = some (.slice none 0 0) := by kernel_rfl
theorem size_row : (Tryz.prog.info? 22).map (·.size) = some 1 := by kernel_rfl
theorem info_row : (Tryz.prog.info? 22).map (fun i => (i.zero, i.size, i.bytes)) = some (some (.slice none 0 0), 1, 24) := by kernel_rfl
theorem byteV_noSect : List.replicate 256 (Value.int .u8 0) = byteV noSect := by simp [byteV, noSect]

theorem fill_row (g : Nat) : Instr.fill (fun i => some (i * 1, 1)) ((Array.range (1 * 1)).map ((Value.slice none 0 0).cells[· % (Value.slice none 0 0).cells.size]!)) [(0, .slice (some ⟨g, 0, none⟩) 256 256)] = some #[.slice (some ⟨g, 0, none⟩) 256 256] := by kernel_rfl

set_option maxHeartbeats 1000000 in
theorem new_calls (n : Nat) (h1 : 32 ≤ n) (h2 : n ≤ 1900) (w : World) :
    Calls Tryz.prog 58 #[.int .i64 (n : Int)] w fun e w' => ∃ g own rd, e = .returned (.pointer (some ⟨g, 0, none⟩)) ∧ DiskIs w' g (DS.new n) own rd ∧ Below w.heap.size w w' ∧ ∀ k, own k ∨ rd k → w.heap.size ≤ k := by
  have H := St.nil NoBlk NoBlk w
  have n1 : ¬ ((n : Int) < 32) := by omega
  have n2 : ¬ (1900 < (n : Int)) := by omega
  have b1 : decide ((n : Int) < 32) = false := by simp; omega
  have b2 : decide (1900 < (n : Int)) = false := by simp; omega
  go_enter Tryz.func58, Tryz.ntmps58
  go_wp2_with (first
    | (refine wpList_makemap_st H rfl 110 rfl ?_; clear H; intro WN gm H; simp only [List.nil_append, List.cons_append] at H)
    | (refine wpList_box_st H rfl 159 _ rfl (.agg (dRow (.slice none 0 0) (.map (some gm)) false false 0 0 (-1) (.slice none 0 0) 0 0).toArray) rfl ?_; clear H; intro WD g H; simp only [List.nil_append, List.cons_append] at H))
  have hp0 : PayIs WD NoBlk [] [] (.map []) (fun _ => none) (.slice none 0 0) [] :=
    ⟨fun i hi => by simp at hi, fun kl hkl => (by cases hkl), fun k => .inl ⟨rfl, rfl⟩, .inl ⟨rfl, rfl⟩, fun k hk => hk.elim⟩
  replace H := H.add (Fix.refl _ _) (ownA 22 none 0 0 []) (World.ownsRow_nil _ _ _ _) (fun k hk => by obtain ⟨_, e, _⟩ := hk; cases e) (fun k hk => hk.elim)
  replace H := H.add (Fix.refl _ _) (payA NoBlk [] [] (.map []) (fun _ => none) (.slice none 0 0) []) hp0 (fun k hk => hk.elim) (fun k hk => hk.elim)
  simp only [List.nil_append, List.cons_append] at H
  clear hp0
  go_loopw [14] (fun x wr => ∃ (j : Nat) (p : Option Addr) (cap : Nat) (rows : List Value) (rd : Nat → Prop), x = .int .i64 (j : Int) ∧ j ≤ n ∧ rows.length = j ∧ St NoBlk NoBlk w wr [mapA gm 0 (.map []),
      blk g (.cells (dRow (.slice p j cap) (.map (some gm)) false false 0 0 (-1) (.slice none 0 0) 0 0).toArray 159 (0, 0)), ownA 22 p j cap rows, payA rd rows (List.replicate j noSect) (.map []) (fun _ => none) (.slice none 0 0) []]) (fun x _ => n - (intOf x).toNat)
  case atStart => exact ⟨0, none, 0, [], NoBlk, rfl, Nat.zero_le _, rfl, H⟩
  case round =>
    obtain ⟨j, p, cap, rows, rd, rfl, hj, hr, H⟩ := hrel
    have HR := Lib.hid hr
    clear hr
    rcases Nat.lt_or_ge j n with hlt | hge
    · have hji : (j : Int) < (n : Int) := by omega
      have hj0 : 0 ≤ (j : Int) := by omega
      go_wp2
      replace H := H.drew
      have hc0 := row_cell (H.at 1 rfl) (dRow0 _ _ _ _ _ _ _ _ _ _)
      obtain ⟨WM, gM, hmk, HM⟩ := H.make_run (P := Tryz.prog) 22 _ Tryz.underlying22 _ _ info_u8 rfl 256 (by omega) (by simp [maxLen])
      rw [byteV_noSect] at HM
      replace hmk : (Instr.makeSlice 22 (.int .i64 256) (.int .i64 256)).run Tryz.prog wr.drew = .ok (.slice (some ⟨gM, 0, none⟩) 256 256) WM := hmk
      have HB := HM.alloc (.cells #[.slice (some ⟨gM, 0, none⟩) 256 256] 22)
      simp only [List.nil_append, List.cons_append] at HM HB
      have hc1 := row_cell (HM.at 1 rfl) (dRow0 _ _ _ _ _ _ _ _ _ _)
      have hc2 := row_cell (HB.at 1 rfl) (dRow0 _ _ _ _ _ _ _ _ _ _)
      clear H HM
      go_region_law (first
        | (refine step_want rfl (wp_append_ownA HB 2 _ _ 47 rfl _ Tryz.underlying47 _ _ info_row rfl p j cap rfl rows rfl ⟨WM.heap.size, 0, none⟩ 1 1 rfl [.slice (some ⟨gM, 0, none⟩) 256 256] rfl (World.news_of_block (HB.at 5 rfl)) (by simp [Value.oneCell']) (by omega) (by simp only [maxLen]; omega) (by omega) ?_); intro W4 g4 cap4 H4; simp only [List.set_cons_zero, List.set_cons_succ] at H4; have hcS := row_cell (H4.at 1 rfl) (dRow0 _ _ _ _ _ _ _ _ _ _); have hfS := frozen_of_row _ g 0 _ _ (H4.at 1 rfl); have HV := H4.setCell 1 rfl 0 (.slice (some ⟨g4, 0, none⟩) (j + 1) cap4)))
      all_goals
        rw [dSet0] at HV
        simp only [List.set_cons_zero, List.set_cons_succ] at HV
        clear HB H4 hc0 hc1 hc2 hmk hcS hfS
        generalize W4.setCell ⟨g, 0, none⟩ (.slice (some ⟨g4, 0, none⟩) (j + 1) cap4) = W5 at *
        have hP := (HV.at 3 rfl : PayIs _ rd rows (List.replicate j noSect) (.map []) (fun _ => none) (.slice none 0 0) []).more (by simp [HR.out]) (l := noSect) (n := 256) (capc := 256) noSect_len (Nat.le_refl _) (HV.at 4 rfl)
        have J := (HV.join 4 3 (A' := payA (fun k => rd k ∨ k = gM) (rows ++ [Value.slice (some ⟨gM, 0, none⟩) 256 256]) (List.replicate j noSect ++ [noSect]) (.map []) (fun _ => none) (.slice none 0 0) []) rfl rfl hP (fun k hk => hk.elim) (fun k hk => by
          rcases hk with hk | rfl
          · exact .inl (.inr hk)
          · exact .inr (.inl rfl))).take 4
        simp only [List.set_cons_zero, List.set_cons_succ, List.take_succ_cons, List.take_zero] at J
        clear HV
        go_wp2
        go_roundw
        case rel => exact ⟨j + 1, some ⟨g4, 0, none⟩, cap4, rows ++ [Value.slice (some ⟨gM, 0, none⟩) 256 256], fun k => rd k ∨ k = gM, congrArg _ (by omega), by omega, by rw [List.length_append, HR.out]; rfl, by rw [List.replicate_succ']; exact J⟩
        case measure => simp [intOf]; omega
    · obtain rfl : j = n := by omega
      have hji : ¬ ((j : Int) < (j : Int)) := by omega
      go_wp2
      go_ret
      obtain ⟨gl, junk, rfl, hgl, hl1, hl2⟩ := ownA_blk (H.at 2 rfl) (by omega)
      have J := H.step 2 rfl (A' := blk gl (.cells (rows ++ junk).toArray 22 (0, 0))) (Fix.refl _ _) hgl ⟨fun k hk => .inl ⟨_, rfl, hk⟩, fun k hk => hk.elim⟩
      simp only [List.set_cons_zero, List.set_cons_succ] at J
      have hnl : (List.replicate j noSect).length = j := List.length_replicate
      have hdr : dRow (.slice (some ⟨gl, 0, none⟩) j cap) (.map (some gm)) false false 0 0 (-1) (.slice none 0 0) 0 0 = dRow (.slice (some ⟨gl, 0, none⟩) (List.replicate j noSect).length cap) (.map (some gm)) false false 0 0 (-1) (.slice none 0 0) 0 0 := by rw [hnl]
      rw [hdr] at J
      obtain ⟨own', rd', d1, d2, d3, d4⟩ := J.disk (D' := DS.new j) ⟨by show 32 ≤ (List.replicate j noSect).length; rw [hnl]; exact h1, by show (List.replicate j noSect).length ≤ 1900; rw [hnl]; exact h2, fun l hl => by rw [(List.mem_replicate.1 hl).2]; exact noSect_len, (by show (0 : Int) ≤ 0 ∧ (0 : Int) ≤ 256; decide), ⟨(by show (-1 : Int) ≤ -1; decide), by show (-1 : Int) < _; omega⟩, (by show ([] : List UInt8).length ≤ 256; decide), (by show (-9223372036854775808 : Int) ≤ 0; decide), (by show (0 : Int) ≤ 9223372036854775807; decide)⟩
        gl gm cap rows junk (.map []) (.slice none 0 0) rd (by show rows.length = (List.replicate j noSect).length; rw [hnl, hl1]) hl2 1 2 0 3 rfl rfl rfl rfl (by decide) (by decide) (by decide) (by decide) (by decide) (by decide)
      refine ⟨g, rfl, own', rd', d1, d2.below, fun k hk => ?_⟩
      rcases hk with hk | hk
      · rcases d3 k hk with h | h
        · exact h.elim
        · exact h
      · rcases d4 k hk with h | h | h
        · exact h.elim
        · exact h.elim
        · exact h

end Go.Proofs.YtlgciddnpinpbaaGreatDoor

namespace Go.Proofs.YtlgciddnpinpbaaGreatDoor
open Go.RowKit
set_option linter.unusedSimpArgs false
set_option linter.unusedVariables false
set_option maxRecDepth 4000

theorem new_at (z : Int) (n : Nat) (hz : (n : Int) = z) (h1 : 32 ≤ n) (h2 : n ≤ 1900) (w : World) :
    Calls Tryz.prog 58 #[.int .i64 z] w fun e w' => ∃ g own rd, e = .returned (.pointer (some ⟨g, 0, none⟩)) ∧ DiskIs w' g (DS.new n) own rd ∧ Below w.heap.size w w' ∧ ∀ k, own k ∨ rd k → w.heap.size ≤ k := by
  subst hz; exact new_calls n h1 h2 w

theorem write_at {w : World} {g : Nat} {D : DS} {own rd : Nat → Prop} (hd : DiskIs w g D own rd) (z : Int) (k : Nat) (hz : (k : Int) = z) (hk : k < D.last.length) (hdd : D.dead = false) (v : Value) (l : List UInt8) (hv : ArgB w own v l) (hl : l.length = 256) (hfl : D.failsB = false) (hw : 0 ≤ D.writes ∧ D.writes < 1000000)
    {D' : DS} (hD : { D.failsD with wait := fun j => if j = k then some l else D.failsD.wait j, writes := D.failsD.writes + 1 } = D') :
    Calls Tryz.prog 97 #[.pointer (some ⟨g, 0, none⟩), .int .i64 z, v] w fun e w' => e = .returned (.int .i64 0) ∧ DiskTo w g own rd D' w' := by
  subst hz hD; exact write_ok hd k hk hdd v l hv hl hfl hw

theorem read_at {w : World} {g : Nat} {D : DS} {own rd : Nat → Prop} (hd : DiskIs w g D own rd) (z : Int) (k : Nat) (hz : (k : Int) = z) (hk : k < D.last.length) (hdd : D.dead = false) {l : List UInt8} (hl : D.sect k = l) :
    Calls Tryz.prog 106 #[.pointer (some ⟨g, 0, none⟩), .int .i64 z] w fun e w' => ∃ gc cap junk, e = .returned (.tuple #[.slice (some ⟨gc, 0, none⟩) 256 cap, .int .i64 0]) ∧ l.length = 256 ∧ 256 ≤ cap ∧ w.heap.size ≤ gc ∧ w'.heap[gc]? = some (.cells (byteV l ++ junk).toArray 5 (0, 0)) ∧ Below w.heap.size w w' := by
  subst hz hl
  refine (read_calls hd k hk hdd).mono ?_
  rintro e w' ⟨v, rfl, ⟨gc, cap, junk, rfl, h1, h2, h3, h4⟩, h5, h6⟩
  rw [h5] at h1 ⊢
  exact ⟨gc, cap, junk, rfl, rfl, h1, h3, h4, h6⟩

theorem flush_at {w : World} {g : Nat} {D : DS} {own rd : Nat → Prop} (hd : DiskIs w g D own rd) (hdd : D.dead = false) (hfl : D.failsB = false) {D' : DS} (hD : { D.failsD with last := D.failsD.all, wait := fun _ => none } = D') :
    Calls Tryz.prog 94 #[.pointer (some ⟨g, 0, none⟩)] w fun e w' => e = .returned (.int .i64 0) ∧ DiskTo w g own rd D' w' := by
  subst hD; exact flush_ok hd hdd hfl

theorem lives_at {w : World} {g : Nat} {D : DS} {own rd : Nat → Prop} (hd : DiskIs w g D own rd) {z : Int} (h : D.lives = z) :
    Calls Tryz.prog 99 #[.pointer (some ⟨g, 0, none⟩)] w fun e w' => e = .returned (.int .i64 z) ∧ w = w' := by subst h; exact lives_calls hd

/-- The disk of begun, behind its one write. -/
theorem DiskTo.step {M0 R0 : Nat → Prop} {w0 W W' : World} {L : List Asrt} (H : St M0 R0 w0 W L) (i : Nat) {g : Nat} {D D' : DS} {own rd : Nat → Prop} (hi : L[i]? = some (dA g D own rd)) (h : DiskTo W g own rd D' W') :
    ∃ own' rd', St M0 R0 w0 W' (L.set i (dA g D' own' rd')) := by
  obtain ⟨own', rd', h1, h2, h3, h4⟩ := h
  exact ⟨own', rd', H.step i hi h2 h1 ⟨h3, h4⟩⟩

theorem St.notown {M0 R0 : Nat → Prop} {w0 W : World} {L : List Asrt} (H : St M0 R0 w0 W L) (i j : Nat) {g gd : Nat} {x : Obj} {D : DS} {own rd : Nat → Prop} (hi : L[i]? = some (blk g x)) (hj : L[j]? = some (dA gd D own rd)) (hne : i ≠ j) : ¬ own g :=
  fun hk => (H.apart i j _ _ hi hj hne).1 g rfl hk

theorem argB_own {w : World} {own : Nat → Prop} {g : Nat} {l : List UInt8} {t : TypeId} {n : Nat} (hl : l.length = n) (hn : n ≤ 1048576) (hg : w.heap[g]? = some (.cells (byteV l).toArray t (0, 0))) (hno : ¬ own g) : ArgB w own (.slice (some ⟨g, 0, none⟩) n n) l :=
  ⟨⟨g, 0, n, by rw [hl], by omega, BytesAt.front (junk := []) (by rw [List.append_nil]; exact hg), .inr ⟨(Array.getElem?_eq_some_iff.1 hg).1, hno⟩⟩, by omega⟩

/-- A calm disk: what the laws' loops keep. -/
structure Calm (D : DS) (n : Nat) (w : Nat) : Prop where
  len : D.last.length = n
  dead : D.dead = false
  armed : D.armed = false
  writes : D.writes = (w : Int)

theorem St.one' {A : Asrt} {w : World} (h : A.prop w) (hn : ∀ k, ¬ A.own k) : St NoBlk A.rd w w [A] := by
  have H := St.one h
  exact ⟨Fix.refl _ _, H.all, H.apart, fun i B hi k hk => by
    rcases H.mine i B hi k hk with h | h
    · exact .inl h
    · exact absurd h (hn k), fun i B hi k hk => by
    rcases H.reads i B hi k hk with h | h | h
    · exact .inl h
    · exact absurd h (hn k)
    · exact .inr (.inr h)⟩

theorem wpList_build0 {P : Program} {ops : Array Oper} {rest : List Oper} {o : Oper} {a : Act} {Q : Exit → Act → World → Prop} {W : World} (hwt : Region.wanted o (yielded ops a.tmps) = true) (T : TypeId) (ho : o.op = .build T #[]) (cs : Array Value) (hb : P.built T [] = some cs)
    (h : wpList P ops Q rest (a.put o.dst (.agg cs)) W) : wpList P ops Q (o :: rest) a W := by
  refine wpList_want hwt fun K hK => ?_
  have e : ((#[] : Array (Nat × Operand)).map fun (i, x) => (i, a.eval x)).toList = [] := by simp
  exact wp_build (P := P) (o := o) (a := a) (w := W) (K := K) (Q := Q) T #[] ho (by rw [e, hb]; rfl) (by rw [e, hb]; exact hK _ _ h)

theorem failsD_calm {D : DS} {n w : Nat} (h : Calm D n w) : D.failsD = D := by simp [DS.failsD, h.armed]

theorem failsB_calm {D : DS} {n w : Nat} (h : Calm D n w) : D.failsB = false := by simp [DS.failsB, h.armed]

def DS.put (D : DS) (s : Nat) (l : List UInt8) : DS := { D with wait := fun j => if j = s then some l else D.wait j, writes := D.writes + 1 }

def DS.flushed (D : DS) : DS := { D with last := D.all, wait := fun _ => none }

theorem Calm.put {D : DS} {n w : Nat} (h : Calm D n w) (s : Nat) (l : List UInt8) : Calm (D.put s l) n (w + 1) := ⟨h.len, h.dead, h.armed, by show D.writes + 1 = _; rw [h.writes]; omega⟩

theorem DS.all_len (D : DS) : D.all.length = D.last.length := by simp [DS.all]

theorem Calm.flushed {D : DS} {n w : Nat} (h : Calm D n w) : Calm D.flushed n w := ⟨(DS.all_len D).trans h.len, h.dead, h.armed, h.writes⟩

theorem write_calm {w : World} {g : Nat} {D : DS} {own rd : Nat → Prop} (hd : DiskIs w g D own rd) {n u : Nat} (hc : Calm D n u) (hu : u < 1000000) (z : Int) (k : Nat) (hz : (k : Int) = z) (hk : k < n) (v : Value) (l : List UInt8) (hv : ArgB w own v l) (hl : l.length = 256) :
    Calls Tryz.prog 97 #[.pointer (some ⟨g, 0, none⟩), .int .i64 z, v] w fun e w' => e = .returned (.int .i64 0) ∧ DiskTo w g own rd (D.put k l) w' :=
  write_at hd z k hz (by rw [hc.len]; exact hk) hc.dead v l hv hl (failsB_calm hc) (by rw [hc.writes]; omega) (by rw [failsD_calm hc]; rfl)

theorem flush_calm {w : World} {g : Nat} {D : DS} {own rd : Nat → Prop} (hd : DiskIs w g D own rd) {n u : Nat} (hc : Calm D n u) :
    Calls Tryz.prog 94 #[.pointer (some ⟨g, 0, none⟩)] w fun e w' => e = .returned (.int .i64 0) ∧ DiskTo w g own rd D.flushed w' :=
  flush_at hd hc.dead (failsB_calm hc) (by rw [failsD_calm hc]; rfl)

theorem BytesAt.whole {W : World} {g : Nat} {l : List UInt8} {t : TypeId} {fr : Nat × Nat} (hg : W.heap[g]? = some (.cells (byteV l).toArray t fr)) : BytesAt W g 0 l :=
  BytesAt.front (junk := []) (by rw [List.append_nil]; exact hg)

end Go.Proofs.YtlgciddnpinpbaaGreatDoor

namespace Go.Proofs.YtlgciddnpinpbaaGreatDoor
open Go.RowKit
set_option linter.unusedSimpArgs false
set_option linter.unusedVariables false
set_option maxRecDepth 4000

/-- A slice of bytes that comes in. -/
def ArgS (w : World) (v : Value) (l : List UInt8) : Prop :=
  (l = [] ∧ v = .slice none 0 0) ∨ ∃ g off cap, v = .slice (some ⟨g, off, none⟩) l.length cap ∧ l.length ≤ cap ∧ g < w.heap.size ∧ BytesAt w g off l

theorem leBytes_succ (j v : Nat) : Lib.leBytes (j + 1) v = Lib.leBytes j v ++ [(v / 256 ^ j % 256).toUInt8] := by
  induction j generalizing v with
  | zero => simp [Lib.leBytes]
  | succ j ih =>
    rw [Lib.leBytes, ih (v / 256), Lib.leBytes, Nat.div_div_eq_div_mul, ← Nat.pow_succ', List.cons_append]

theorem fill_byte (x : UInt8) : Instr.fill (fun i => some (i * 1, 1)) ((Array.range (1 * 1)).map ((Value.int .u8 0).cells[· % (Value.int .u8 0).cells.size]!)) [(0, .int .u8 (x.toNat : Int))] = some #[.int .u8 (x.toNat : Int)] := by kernel_rfl
theorem zero_u8 : (Tryz.prog.info? 5).bind (·.zero) = some (.int .u8 0) := by kernel_rfl
theorem byte_news {W : World} {g : Nat} {x : Value} {t : TypeId} {fr : Nat × Nat} (hg : W.heap[g]? = some (.cells #[x] t fr)) : ∀ j u, ([x] : List Value)[j]? = some u → W.cell? ((⟨g, 0, none⟩ : Addr).add j) = some u := by
  intro j u hu
  rw [Addr.add_lit, Nat.zero_add, cell_of_row W g j _ _ _ hg]
  simpa using hu

theorem take_byteV (l : List UInt8) (junk : List Value) (n : Nat) (h : l.length = n) : (byteV l ++ junk).take n = byteV l := by
  rw [List.take_append_of_le_length (by rw [byteV_length]; omega), List.take_of_length_le (by rw [byteV_length]; omega)]

theorem byteV_snoc (l : List UInt8) (x : UInt8) : byteV l ++ [Value.int .u8 (x.toNat : Int)] = byteV (l ++ [x]) := by simp [byteV]

set_option maxHeartbeats 1000000 in
theorem put_calls (v : Value) (l : List UInt8) (u n : Nat) (w : World) (hv : ArgS w v l) (hl : l.length ≤ 100000) (hn : n ≤ 8) (hn0 : 0 < n) (hu : u < 18446744073709551616) :
    Calls Tryz.prog 111 #[v, .int .u64 (u : Int), .int .i64 (n : Int)] w fun e w' => ∃ g cap junk, e = .returned (.slice (some ⟨g, 0, none⟩) (l.length + n) cap) ∧ (byteV (l ++ Lib.leBytes n u) ++ junk).length = cap ∧ cap ≤ maxLen ∧ w.heap.size ≤ g ∧
      w'.heap[g]? = some (.cells (byteV (l ++ Lib.leBytes n u) ++ junk).toArray 5 (0, 0)) ∧ Below w.heap.size w w' := by
  have H := St.nil NoBlk NoBlk w
  have hn1 : (n : Int) ≤ 8 := by omega
  have hn2 : 0 ≤ (n : Int) := by omega
  have hl1 : (l.length : Int) ≤ 100000 := by omega
  have E1 := Lib.hid (show (l.length : Int) + (n : Int) = ((l.length + n : Nat) : Int) by omega)
  have HM := Lib.hid hn
  have HL := Lib.hid hl
  have hmm : (if 8 < (if (n : Int) < 0 then 0 else (n : Int)) then 8 else (if (n : Int) < 0 then 0 else (n : Int))) = (n : Int) := by (repeat' split) <;> omega
  have hmm2 : min (max (n : Int) 0) 8 = (n : Int) := by omega
  rcases hv with ⟨hl0, rfl⟩ | ⟨g, off, cap, rfl, hc, hlt, hb⟩
  · have HL0 := Lib.hid hl0
    clear hl0
    go_enter Tryz.func111, Tryz.ntmps111
    go_wp2_with (first
      | (refine wpList_make2_st H rfl 22 _ _ rfl _ Tryz.underlying22 _ _ info_u8 rfl 0 n rfl rfl (Nat.zero_le _) (by have := HM.out; omega) (by have := HM.out; simp only [maxLen]; omega) ?_; clear H; intro W g0 H; simp only [List.nil_append] at H))
    go_loopw [7, 1, 19] (fun o v i wr => ∃ (j g' cap' : Nat) (junk : List Value), i = .int .i64 (j : Int) ∧ j ≤ n ∧ v = .int .u64 ((u / 256 ^ j : Nat) : Int) ∧ o = .slice (some ⟨g', 0, none⟩) (l.length + j) cap' ∧
        (byteV (l ++ Lib.leBytes j u) ++ junk).length = cap' ∧ cap' ≤ maxLen ∧ St NoBlk NoBlk w wr [blk g' (.cells (byteV (l ++ Lib.leBytes j u) ++ junk).toArray 5 (0, 0))]) (fun _ _ i _ => n - (intOf i).toNat)
    case atStart => exact ⟨0, g0, n, List.replicate n (.int .u8 0), rfl, Nat.zero_le _, by simp, by rw [HL0.out]; rfl, by simp [HL0.out, byteV, Lib.leBytes], by have := HM.out; simp only [maxLen]; omega, by simpa [HL0.out, byteV, Lib.leBytes] using H⟩
    case round =>
      clear H
      obtain ⟨j, g', cap', junk, rfl, hj, rfl, rfl, hlen, hcm, H⟩ := hrel
      have hL : (l ++ Lib.leBytes j u).length = l.length + j := by rw [List.length_append, Lib.leBytes_length]
      rcases Nat.lt_or_ge j n with hlt | hge
      · obtain ⟨q, hq⟩ : ∃ q, u / 256 ^ j = q := ⟨_, rfl⟩
        have HQ := Lib.hid hq
        have hq2 : q < 18446744073709551616 := by rw [← hq]; exact Nat.lt_of_le_of_lt (Nat.div_le_self _ _) hu
        rw [hq]
        have hx : IntKind.u8.wrap (q : Int) = (((q % 256).toUInt8).toNat : Int) := by rw [Lib.toUInt8_mod, IntKind.wrap_u8]; omega
        obtain ⟨x, hxx⟩ : ∃ x, (q % 256).toUInt8 = x := ⟨_, rfl⟩
        have HX := Lib.hid hxx
        rw [hxx] at hx
        have hji : (j : Int) < (n : Int) := by omega
        have hj0 : 0 ≤ (j : Int) := by omega
        have HA := Lib.hid (show l.length + j ≤ cap' by rw [← hlen, List.length_append, byteV_length, hL]; omega)
        have HB := Lib.hid hlen
        have HC := Lib.hid hcm
        have HD := Lib.hid hL
        have HJ := Lib.hid hj
        clear hq hxx hlen hcm hL hj
        go_wp2_with (first
          | (refine wpList_buildslice_st H rfl 22 5 _ _ rfl Tryz.underlying22 _ size_u8 _ zero_u8 (by decide) (by decide) [(0, .int .u8 (x.toNat : Int))] (by simp [Act.eval]) #[.int .u8 (x.toNat : Int)] (fill_byte x) ?_; clear H; intro W g H; (try simp only [cells_arrV, List.nil_append, List.cons_append, List.set_cons_zero, List.set_cons_succ] at H))
          | (refine wpList_append_st H 0 rfl _ _ 22 rfl _ Tryz.underlying22 _ _ info_u8 rfl g' (l.length + j) cap' rfl _ rfl HA.out HB.out HC.out _ 1 1 rfl [.int .u8 (x.toNat : Int)] rfl (byte_news (H.at 1 rfl)) (by simp [Value.oneCell']) (by have := HJ.out; have := HM.out; have := HL.out; simp only [maxLen] at *; omega) (by have := HJ.out; have := HM.out; have := HL.out; omega) ?_; clear H; intro W g2 cap2 junk2 H hl2 hc2 hm2; simp only [List.set_cons_zero] at H))
        rw [take_byteV _ _ _ HD.out, byteV_snoc, List.append_assoc l, ← HX.out, ← HQ.out, ← leBytes_succ] at H hl2
        replace H := H.take 1
        simp only [List.take_succ_cons, List.take_zero] at H
        (try simp only [Act.put])
        go_roundw
        case rel => exact ⟨j + 1, g2, cap2, junk2, congrArg _ (by omega), by omega, congrArg _ (by rw [← HQ.out, Nat.pow_succ, ← Nat.div_div_eq_div_mul]; omega), rfl, hl2, hm2, H⟩
        case measure => simp [intOf]; omega
      · obtain rfl : j = n := by omega
        have hji : ¬ ((j : Int) < (j : Int)) := by omega
        go_wp2
        go_ret
        refine ⟨g', cap', rfl, junk, by simpa [Lib.leBytes_length] using hlen, hcm, ?_, H.at 0 rfl, H.fix.below⟩
        rcases H.mine 0 _ rfl g' rfl with h | h
        · exact h
        · exact h.elim
  · go_enter Tryz.func111, Tryz.ntmps111
    go_wp2_with (first
      | (refine wpList_make2_st H rfl 22 _ _ rfl _ Tryz.underlying22 _ _ info_u8 rfl 0 (l.length + n) rfl (congrArg (Value.int .i64) E1.out) (Nat.zero_le _) (by have := HM.out; have := HL.out; omega) (by have := HM.out; have := HL.out; simp only [maxLen]; omega) ?_; clear H; intro W g0 H; simp only [List.nil_append] at H)
      | (refine wpList_append_st H 0 rfl _ _ 22 rfl _ Tryz.underlying22 _ _ info_u8 rfl g0 0 (l.length + n) rfl _ rfl (Nat.zero_le _) List.length_replicate (by have := HM.out; have := HL.out; simp only [maxLen]; omega) _ l.length cap rfl (byteV l) (byteV_length l) (hb.news H.fix (.inr hlt)) (byteV_one l) (by have := HL.out; simp only [maxLen]; omega) (by have := HL.out; omega) ?_; clear H; intro W g1 cap1 junk1 H hl1 hc1 hm1; simp only [List.set_cons_zero, List.take_zero, List.nil_append] at H hl1))
    go_loopw [7, 1, 19] (fun o v i wr => ∃ (j g' cap' : Nat) (junk : List Value), i = .int .i64 (j : Int) ∧ j ≤ n ∧ v = .int .u64 ((u / 256 ^ j : Nat) : Int) ∧ o = .slice (some ⟨g', 0, none⟩) (l.length + j) cap' ∧
        (byteV (l ++ Lib.leBytes j u) ++ junk).length = cap' ∧ cap' ≤ maxLen ∧ St NoBlk NoBlk w wr [blk g' (.cells (byteV (l ++ Lib.leBytes j u) ++ junk).toArray 5 (0, 0))]) (fun _ _ i _ => n - (intOf i).toNat)
    case atStart => exact ⟨0, g1, cap1, junk1, rfl, Nat.zero_le _, by simp, rfl, by simpa [Lib.leBytes] using hl1, hm1, by simpa [Lib.leBytes] using H⟩
    case round =>
      clear H
      obtain ⟨j, g', cap', junk, rfl, hj, rfl, rfl, hlen, hcm, H⟩ := hrel
      have hL : (l ++ Lib.leBytes j u).length = l.length + j := by rw [List.length_append, Lib.leBytes_length]
      rcases Nat.lt_or_ge j n with hlt | hge
      · obtain ⟨q, hq⟩ : ∃ q, u / 256 ^ j = q := ⟨_, rfl⟩
        have HQ := Lib.hid hq
        have hq2 : q < 18446744073709551616 := by rw [← hq]; exact Nat.lt_of_le_of_lt (Nat.div_le_self _ _) hu
        rw [hq]
        have hx : IntKind.u8.wrap (q : Int) = (((q % 256).toUInt8).toNat : Int) := by rw [Lib.toUInt8_mod, IntKind.wrap_u8]; omega
        obtain ⟨x, hxx⟩ : ∃ x, (q % 256).toUInt8 = x := ⟨_, rfl⟩
        have HX := Lib.hid hxx
        rw [hxx] at hx
        have hji : (j : Int) < (n : Int) := by omega
        have hj0 : 0 ≤ (j : Int) := by omega
        have HA := Lib.hid (show l.length + j ≤ cap' by rw [← hlen, List.length_append, byteV_length, hL]; omega)
        have HB := Lib.hid hlen
        have HC := Lib.hid hcm
        have HD := Lib.hid hL
        have HJ := Lib.hid hj
        clear hq hxx hlen hcm hL hj
        go_wp2_with (first
          | (refine wpList_buildslice_st H rfl 22 5 _ _ rfl Tryz.underlying22 _ size_u8 _ zero_u8 (by decide) (by decide) [(0, .int .u8 (x.toNat : Int))] (by simp [Act.eval]) #[.int .u8 (x.toNat : Int)] (fill_byte x) ?_; clear H; intro W g H; (try simp only [cells_arrV, List.nil_append, List.cons_append, List.set_cons_zero, List.set_cons_succ] at H))
          | (refine wpList_append_st H 0 rfl _ _ 22 rfl _ Tryz.underlying22 _ _ info_u8 rfl g' (l.length + j) cap' rfl _ rfl HA.out HB.out HC.out _ 1 1 rfl [.int .u8 (x.toNat : Int)] rfl (byte_news (H.at 1 rfl)) (by simp [Value.oneCell']) (by have := HJ.out; have := HM.out; have := HL.out; simp only [maxLen] at *; omega) (by have := HJ.out; have := HM.out; have := HL.out; omega) ?_; clear H; intro W g2 cap2 junk2 H hl2 hc2 hm2; simp only [List.set_cons_zero] at H))
        rw [take_byteV _ _ _ HD.out, byteV_snoc, List.append_assoc l, ← HX.out, ← HQ.out, ← leBytes_succ] at H hl2
        replace H := H.take 1
        simp only [List.take_succ_cons, List.take_zero] at H
        (try simp only [Act.put])
        go_roundw
        case rel => exact ⟨j + 1, g2, cap2, junk2, congrArg _ (by omega), by omega, congrArg _ (by rw [← HQ.out, Nat.pow_succ, ← Nat.div_div_eq_div_mul]; omega), rfl, hl2, hm2, H⟩
        case measure => simp [intOf]; omega
      · obtain rfl : j = n := by omega
        have hji : ¬ ((j : Int) < (j : Int)) := by omega
        go_wp2
        go_ret
        refine ⟨g', cap', rfl, junk, by simpa [Lib.leBytes_length] using hlen, hcm, ?_, H.at 0 rfl, H.fix.below⟩
        rcases H.mine 0 _ rfl g' rfl with h | h
        · exact h
        · exact h.elim

/-- Put, as its callers want it. -/
theorem put_at (v : Value) (l : List UInt8) (zu zn : Int) (u n m : Nat) (w : World) (hv : ArgS w v l) (hzu : (u : Int) = zu) (hzn : (n : Int) = zn) (hm : l.length + n = m) (hl : l.length ≤ 100000) (hn : n ≤ 8) (hn0 : 0 < n) (hu : u < 18446744073709551616) :
    Calls Tryz.prog 111 #[v, .int .u64 zu, .int .i64 zn] w fun e w' => ∃ g cap junk, e = .returned (.slice (some ⟨g, 0, none⟩) m cap) ∧ (l ++ Lib.leBytes n u).length = m ∧ m ≤ cap ∧ (byteV (l ++ Lib.leBytes n u) ++ junk).length = cap ∧ cap ≤ maxLen ∧ w.heap.size ≤ g ∧
      w'.heap[g]? = some (.cells (byteV (l ++ Lib.leBytes n u) ++ junk).toArray 5 (0, 0)) ∧ Below w.heap.size w w' := by
  subst hzu hzn hm
  refine (put_calls v l u n w hv hl hn hn0 hu).mono ?_
  rintro e w' ⟨g, cap, junk, rfl, h1, h2, h3, h4, h5⟩
  have hL : (l ++ Lib.leBytes n u).length = l.length + n := by rw [List.length_append, Lib.leBytes_length]
  exact ⟨g, cap, junk, rfl, hL, by rw [← h1, List.length_append, byteV_length, hL]; omega, h1, h2, h3, h4, h5⟩

/-- A slice that stands in front of a block. -/
theorem argS_front {w : World} {g m cap : Nat} {l : List UInt8} {junk : List Value} {t : TypeId} {fr : Nat × Nat} (hg : w.heap[g]? = some (.cells (byteV l ++ junk).toArray t fr)) (hl : l.length = m) (hc : m ≤ cap) : ArgS w (.slice (some ⟨g, 0, none⟩) m cap) l :=
  .inr ⟨g, 0, cap, by rw [hl], by omega, (Array.getElem?_eq_some_iff.1 hg).1, BytesAt.front hg⟩

end Go.Proofs.YtlgciddnpinpbaaGreatDoor
