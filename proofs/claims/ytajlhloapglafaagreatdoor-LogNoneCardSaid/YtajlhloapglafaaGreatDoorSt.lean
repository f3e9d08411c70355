/- What memory bears, piece by piece: assertions with footprints, and the frame over a step. No program. -/
import Derived.WalkKit
import Derived.WalkSpells
import Derived.Lib.Hide
import Derived.Laws.CopyOwn
import Derived.Deep.MidRow
import Derived.Deep.Quiet
namespace Go.Proofs.YtajlhloapglafaaGreatDoor
open Go.RowKit

/-- From w to w' nothing has turned but blocks of M, and new ones. -/
structure Fix (M : Nat → Prop) (w w' : World) : Prop where
  os : w'.os = w.os
  tape : w'.tape = w.tape
  output : w'.output = w.output
  size : w.heap.size ≤ w'.heap.size
  block : ∀ k, k < w.heap.size → ¬ M k → w'.heap[k]? = w.heap[k]?

def NoBlk : Nat → Prop := fun _ => False

theorem Fix.refl (M : Nat → Prop) (w : World) : Fix M w w := ⟨rfl, rfl, rfl, Nat.le_refl _, fun _ _ _ => rfl⟩
theorem Fix.of_below {w w' : World} (h : Below w.heap.size w w') (M : Nat → Prop) : Fix M w w' := ⟨h.os, h.tape, h.output, h.size, fun k hk _ => h.block k hk⟩
theorem Fix.below {w w' : World} (h : Fix NoBlk w w') : Below w.heap.size w w' := ⟨h.os, h.tape, h.output, h.size, fun k hk => h.block k hk (fun h => h)⟩
theorem Fix.mono {M M' : Nat → Prop} {w w' : World} (h : Fix M w w') (hm : ∀ k, k < w.heap.size → M k → M' k) : Fix M' w w' :=
  ⟨h.os, h.tape, h.output, h.size, fun k hk hn => h.block k hk (fun hM => hn (hm k hk hM))⟩
/-- Two steps: what the second one turns is of M, or new. -/
theorem Fix.trans {M M' : Nat → Prop} {a b c : World} (h : Fix M a b) (k : Fix M' b c) (hm : ∀ i, i < a.heap.size → M' i → M i) : Fix M a c :=
  ⟨k.os.trans h.os, k.tape.trans h.tape, k.output.trans h.output, Nat.le_trans h.size k.size,
   fun i hi hn => (k.block i (Nat.lt_of_lt_of_le hi h.size) (fun hM => hn (hm i hi hM))).trans (h.block i hi hn)⟩
theorem Fix.drew (M : Nat → Prop) (w : World) : Fix M w w.drew := ⟨rfl, rfl, rfl, Nat.le_refl _, fun _ _ _ => rfl⟩
theorem Fix.drewN (M : Nat → Prop) (w : World) (n : Nat) : Fix M w (w.drewN n) := ⟨rfl, rfl, rfl, Nat.le_refl _, fun _ _ _ => rfl⟩
theorem Fix.alloc (M : Nat → Prop) (w : World) (o : Obj) : Fix M w (w.alloc o) :=
  ⟨rfl, rfl, rfl, by simp, fun k hk _ => Below.heap_alloc _ _ _ hk⟩
theorem Fix.setCell (w : World) (a : Addr) (v : Value) : Fix (· = a.block) w (w.setCell a v) :=
  ⟨rfl, rfl, rfl, by simp [World.setCell], fun k _ hn => Below.heap_setCell _ _ _ _ hn⟩
theorem Fix.setRow (w : World) (g : Nat) (cs : Array Value) : Fix (· = g) w (w.setRow g cs) :=
  ⟨rfl, rfl, rfl, by simp [World.setRow], fun k _ hn => setRow_other w g k cs hn⟩
theorem Fix.cell {M : Nat → Prop} {w w' : World} (h : Fix M w w') {p : Addr} (hp : p.block < w.heap.size) (hn : ¬ M p.block) : w'.cell? p = w.cell? p :=
  World.cell?_of_block (w := w) (h.block p.block hp hn)

/-- An assertion on memory: the blocks that it owns, those that it reads, what it says. -/
structure Asrt where
  own : Nat → Prop
  rd : Nat → Prop
  prop : World → Prop
  stable : ∀ W W', (∀ k, own k ∨ rd k → W'.heap[k]? = W.heap[k]?) → prop W → prop W'
  bound : ∀ W, prop W → ∀ k, own k ∨ rd k → k < W.heap.size

/-- Block g bears o, and may be written. -/
def blk (g : Nat) (o : Obj) : Asrt where
  own k := k = g
  rd _ := False
  prop W := W.heap[g]? = some o
  stable _ _ h hp := (h g (.inl rfl)).trans hp
  bound W hp k hk := by
    rcases hk with rfl | hk
    · exact (Array.getElem?_eq_some_iff.1 hp).1
    · exact hk.elim

/-- Block g bears o, and stays so. -/
def imm (g : Nat) (o : Obj) : Asrt where
  own _ := False
  rd k := k = g
  prop W := W.heap[g]? = some o
  stable _ _ h hp := (h g (.inr rfl)).trans hp
  bound W hp k hk := by
    rcases hk with hk | rfl
    · exact hk.elim
    · exact (Array.getElem?_eq_some_iff.1 hp).1

/-- A fact of no block. -/
def pureA (p : Prop) : Asrt := ⟨NoBlk, NoBlk, fun _ => p, fun _ _ _ h => h, fun _ _ _ hk => (hk.elim id id).elim⟩

/-- Two assertions do not meet. -/
def Apart (A B : Asrt) : Prop := (∀ k, A.own k → ¬ B.own k) ∧ (∀ k, A.own k → ¬ B.rd k) ∧ (∀ k, B.own k → ¬ A.rd k)

theorem Apart.symm {A B : Asrt} (h : Apart A B) : Apart B A := ⟨fun k hb ha => h.1 k ha hb, h.2.2, h.2.1⟩

/-- The state of a call: it began in w0 (where it may turn M0's blocks and read R0's); memory bears the assertions of L now. -/
structure St (M0 R0 : Nat → Prop) (w0 W : World) (L : List Asrt) : Prop where
  fix : Fix M0 w0 W
  all : ∀ (i : Nat) (A : Asrt), L[i]? = some A → A.prop W
  apart : ∀ (i j : Nat) (A B : Asrt), L[i]? = some A → L[j]? = some B → i ≠ j → Apart A B
  mine : ∀ (i : Nat) (A : Asrt), L[i]? = some A → ∀ k, A.own k → w0.heap.size ≤ k ∨ M0 k
  reads : ∀ (i : Nat) (A : Asrt), L[i]? = some A → ∀ k, A.rd k → w0.heap.size ≤ k ∨ M0 k ∨ R0 k

theorem St.nil (M0 R0 : Nat → Prop) (w : World) : St M0 R0 w w [] :=
  ⟨Fix.refl _ _, fun _ _ h => by simp at h, fun _ _ _ _ h => by simp at h, fun _ _ h => by simp at h, fun _ _ h => by simp at h⟩

/-- A call that begins with one assertion. -/
theorem St.one {A : Asrt} {w : World} (h : A.prop w) : St A.own A.rd w w [A] := by
  refine ⟨Fix.refl _ _, ?_, ?_, ?_, ?_⟩
  · intro i B hi
    rcases i with _ | i
    · simp at hi; subst hi; exact h
    · simp at hi
  · intro i j B C hi hj hne
    rcases i with _ | i <;> rcases j with _ | j <;> first | omega | simp at hi hj
  · intro i B hi k hk
    rcases i with _ | i
    · simp at hi; subst hi; exact .inr hk
    · simp at hi
  · intro i B hi k hk
    rcases i with _ | i
    · simp at hi; subst hi; exact .inr (.inr hk)
    · simp at hi

/-- What A has become is A's own, or new; what it reads was A's, or is new. -/
def Grew (w : World) (A A' : Asrt) : Prop :=
  (∀ k, A'.own k → A.own k ∨ w.heap.size ≤ k) ∧ (∀ k, A'.rd k → A.own k ∨ A.rd k ∨ w.heap.size ≤ k)

theorem Grew.refl (w : World) (A : Asrt) : Grew w A A := ⟨fun _ h => .inl h, fun _ h => .inr (.inl h)⟩

/-- THE STEP: assertion i is turned, and no other. -/
theorem St.step {M0 R0 : Nat → Prop} {w0 W W' : World} {L : List Asrt} (H : St M0 R0 w0 W L) (i : Nat) {A A' : Asrt} (hi : L[i]? = some A)
    (hf : Fix A.own W W') (hp : A'.prop W') (hg : Grew W A A') : St M0 R0 w0 W' (L.set i A') := by
  have hlt : i < L.length := (List.getElem?_eq_some_iff.1 hi).1
  have hget : ∀ (j : Nat) (B : Asrt), (L.set i A')[j]? = some B → (j = i ∧ B = A') ∨ (j ≠ i ∧ L[j]? = some B) := by
    intro j B hj
    rw [List.getElem?_set] at hj
    split at hj
    · rename_i e
      exact .inl ⟨e.symm, (Option.some.inj hj).symm⟩
    · rename_i e
      exact .inr ⟨fun h => e h.symm, hj⟩
  have hap : ∀ (j : Nat) (B : Asrt), j ≠ i → L[j]? = some B → Apart A' B := by
    intro j B hne hB
    have h0 := H.apart i j A B hi hB (fun e => hne e.symm)
    have hb := H.all j B hB
    refine ⟨fun k hk hBk => ?_, fun k hk hBk => ?_, fun k hBk hk => ?_⟩
    · rcases hg.1 k hk with h | h
      · exact h0.1 k h hBk
      · have := B.bound W hb k (.inl hBk); omega
    · rcases hg.1 k hk with h | h
      · exact h0.2.1 k h hBk
      · have := B.bound W hb k (.inr hBk); omega
    · rcases hg.2 k hk with h | h | h
      · exact h0.1 k h hBk
      · exact h0.2.2 k hBk h
      · have := B.bound W hb k (.inl hBk); omega
  refine ⟨?_, ?_, ?_, ?_, ?_⟩
  · refine H.fix.trans hf (fun k hk hA => ?_)
    rcases H.mine i A hi k hA with h | h
    · omega
    · exact h
  · intro j B hj
    rcases hget j B hj with ⟨rfl, rfl⟩ | ⟨hne, hB⟩
    · exact hp
    · have hb := H.all j B hB
      have h0 := H.apart i j A B hi hB (fun e => hne e.symm)
      refine B.stable W W' (fun k hk => hf.block k (B.bound W hb k hk) (fun hA => ?_)) hb
      rcases hk with hk | hk
      · exact h0.1 k hA hk
      · exact h0.2.1 k hA hk
  · intro j l B C hj hl hne
    rcases hget j B hj with ⟨rfl, rfl⟩ | ⟨h1, hB⟩ <;> rcases hget l C hl with ⟨rfl, rfl⟩ | ⟨h2, hC⟩
    · exact absurd rfl hne
    · exact hap l C h2 hC
    · exact (hap j B h1 hB).symm
    · exact H.apart j l B C hB hC hne
  · intro j B hj k hk
    rcases hget j B hj with ⟨rfl, rfl⟩ | ⟨_, hB⟩
    · rcases hg.1 k hk with h | h
      · exact H.mine j A hi k h
      · have := H.fix.size; exact .inl (by omega)
    · exact H.mine j B hB k hk
  · intro j B hj k hk
    rcases hget j B hj with ⟨rfl, rfl⟩ | ⟨_, hB⟩
    · rcases hg.2 k hk with h | h | h
      · rcases H.mine j A hi k h with h | h
        · exact .inl h
        · exact .inr (.inl h)
      · exact H.reads j A hi k h
      · have := H.fix.size; exact .inl (by omega)
    · exact H.reads j B hB k hk

/-- Nothing that was there has turned. -/
theorem St.stay {M0 R0 : Nat → Prop} {w0 W W' : World} {L : List Asrt} (H : St M0 R0 w0 W L) (hf : Fix NoBlk W W') : St M0 R0 w0 W' L := by
  refine ⟨H.fix.trans hf (fun _ _ h => h.elim), fun i A hi => ?_, H.apart, H.mine, H.reads⟩
  exact A.stable W W' (fun k hk => hf.block k (A.bound W (H.all i A hi) k hk) (fun h => h)) (H.all i A hi)

/-- A new assertion, on new blocks (it may read what others read). -/
theorem St.add {M0 R0 : Nat → Prop} {w0 W W' : World} {L : List Asrt} (H : St M0 R0 w0 W L) (hf : Fix NoBlk W W') (A : Asrt) (hp : A.prop W')
    (ho : ∀ k, A.own k → W.heap.size ≤ k) (hr : ∀ k, A.rd k → W.heap.size ≤ k ∨ ((w0.heap.size ≤ k ∨ M0 k ∨ R0 k) ∧ ∀ B ∈ L, ¬ B.own k)) : St M0 R0 w0 W' (L ++ [A]) := by
  have H' := H.stay hf
  have hget : ∀ (j : Nat) (B : Asrt), (L ++ [A])[j]? = some B → (j = L.length ∧ B = A) ∨ (j < L.length ∧ L[j]? = some B) := by
    intro j B hj
    rw [List.getElem?_append] at hj
    split at hj
    · exact .inr ⟨by assumption, hj⟩
    · rename_i hlt
      have : j - L.length = 0 := by
        have := (List.getElem?_eq_some_iff.1 hj).1
        simp at this; omega
      rw [this] at hj
      exact .inl ⟨by omega, (by simpa using hj : A = B).symm⟩
  have hap : ∀ (j : Nat) (B : Asrt), L[j]? = some B → Apart A B := by
    intro j B hB
    have hb := H.all j B hB
    refine ⟨fun k hk hBk => ?_, fun k hk hBk => ?_, fun k hBk hk => ?_⟩
    · have := B.bound W hb k (.inl hBk); have := ho k hk; omega
    · have := B.bound W hb k (.inr hBk); have := ho k hk; omega
    · rcases hr k hk with h | ⟨_, h⟩
      · have := B.bound W hb k (.inl hBk); omega
      · exact h B (List.mem_of_getElem? hB) hBk
  refine ⟨H'.fix, ?_, ?_, ?_, ?_⟩
  · intro j B hj
    rcases hget j B hj with ⟨rfl, rfl⟩ | ⟨_, hB⟩
    · exact hp
    · exact H'.all j B hB
  · intro j l B C hj hl hne
    rcases hget j B hj with ⟨e1, rfl⟩ | ⟨_, hB⟩ <;> rcases hget l C hl with ⟨e2, rfl⟩ | ⟨_, hC⟩
    · omega
    · exact hap l C hC
    · exact (hap j B hB).symm
    · exact H.apart j l B C hB hC hne
  · intro j B hj k hk
    rcases hget j B hj with ⟨rfl, rfl⟩ | ⟨_, hB⟩
    · have := ho k hk; have := H.fix.size; exact .inl (by omega)
    · exact H.mine j B hB k hk
  · intro j B hj k hk
    rcases hget j B hj with ⟨rfl, rfl⟩ | ⟨_, hB⟩
    · rcases hr k hk with h | ⟨h, _⟩
      · have := H.fix.size; exact .inl (by omega)
      · exact h
    · exact H.reads j B hB k hk

/-- Nothing. -/
def emp : Asrt := pureA True

/-- TWO ASSERTIONS BECOME ONE: j takes i's blocks over; the world stays. -/
theorem St.join {M0 R0 : Nat → Prop} {w0 W : World} {L : List Asrt} (H : St M0 R0 w0 W L) (i j : Nat) {A B A' : Asrt} (hi : L[i]? = some B) (hj : L[j]? = some A)
    (hp : A'.prop W) (ho : ∀ k, A'.own k → A.own k ∨ B.own k) (hr : ∀ k, A'.rd k → (A.own k ∨ A.rd k) ∨ (B.own k ∨ B.rd k)) : St M0 R0 w0 W ((L.set i emp).set j A') := by
  have hjl : j < L.length := (List.getElem?_eq_some_iff.1 hj).1
  have hil : i < L.length := (List.getElem?_eq_some_iff.1 hi).1
  have hget : ∀ (m : Nat) (C : Asrt), ((L.set i emp).set j A')[m]? = some C → (m = j ∧ C = A') ∨ (m = i ∧ C = emp) ∨ (m ≠ i ∧ m ≠ j ∧ L[m]? = some C) := by
    intro m C hm
    rw [List.getElem?_set] at hm
    split at hm
    · rename_i e
      split at hm
      · exact .inl ⟨e.symm, (Option.some.inj hm).symm⟩
      · cases hm
    · rename_i e
      rw [List.getElem?_set] at hm
      split at hm
      · rename_i e2
        exact .inr (.inl ⟨e2.symm, (Option.some.inj hm).symm⟩)
      · rename_i e2
        exact .inr (.inr ⟨fun h => e2 h.symm, fun h => e h.symm, hm⟩)
  have hemp : ∀ C : Asrt, Apart emp C := fun C => ⟨fun _ h => h.elim, fun _ h => h.elim, fun _ _ h => h.elim⟩
  have hap : ∀ (m : Nat) (C : Asrt), m ≠ i → m ≠ j → L[m]? = some C → Apart A' C := by
    intro m C h1 h2 hC
    have a1 := H.apart j m A C hj hC (fun e => h2 e.symm)
    have a2 := H.apart i m B C hi hC (fun e => h1 e.symm)
    refine ⟨fun k hk hCk => ?_, fun k hk hCk => ?_, fun k hCk hk => ?_⟩
    · rcases ho k hk with h | h
      · exact a1.1 k h hCk
      · exact a2.1 k h hCk
    · rcases ho k hk with h | h
      · exact a1.2.1 k h hCk
      · exact a2.2.1 k h hCk
    · rcases hr k hk with (h | h) | (h | h)
      · exact a1.1 k h hCk
      · exact a1.2.2 k hCk h
      · exact a2.1 k h hCk
      · exact a2.2.2 k hCk h
  refine ⟨H.fix, ?_, ?_, ?_, ?_⟩
  · intro m C hm
    rcases hget m C hm with ⟨_, rfl⟩ | ⟨_, rfl⟩ | ⟨_, _, hC⟩
    · exact hp
    · exact trivial
    · exact H.all m C hC
  · intro m l C E hm hl hml
    rcases hget m C hm with ⟨e1, rfl⟩ | ⟨e1, rfl⟩ | ⟨e1, e1', hC⟩ <;> rcases hget l E hl with ⟨e2, rfl⟩ | ⟨e2, rfl⟩ | ⟨e2, e2', hE⟩
    · omega
    · exact (hemp _).symm
    · exact hap l E e2 e2' hE
    · exact hemp _
    · exact hemp _
    · exact hemp _
    · exact (hap m C e1 e1' hC).symm
    · exact (hemp _).symm
    · exact H.apart m l C E hC hE hml
  · intro m C hm k hk
    rcases hget m C hm with ⟨_, rfl⟩ | ⟨_, rfl⟩ | ⟨_, _, hC⟩
    · rcases ho k hk with h | h
      · exact H.mine j A hj k h
      · exact H.mine i B hi k h
    · exact hk.elim
    · exact H.mine m C hC k hk
  · intro m C hm k hk
    rcases hget m C hm with ⟨_, rfl⟩ | ⟨_, rfl⟩ | ⟨_, _, hC⟩
    · rcases hr k hk with (h | h) | (h | h)
      · rcases H.mine j A hj k h with h | h
        · exact .inl h
        · exact .inr (.inl h)
      · exact H.reads j A hj k h
      · rcases H.mine i B hi k h with h | h
        · exact .inl h
        · exact .inr (.inl h)
      · exact H.reads i B hi k h
    · exact hk.elim
    · exact H.reads m C hC k hk

theorem St.at {M0 R0 : Nat → Prop} {w0 W : World} {L : List Asrt} (H : St M0 R0 w0 W L) (i : Nat) {A : Asrt} (hi : L[i]? = some A) : A.prop W := H.all i A hi

/-- Two blocks that are apart are two. -/
theorem St.ne {M0 R0 : Nat → Prop} {w0 W : World} {L : List Asrt} (H : St M0 R0 w0 W L) (i j : Nat) {g h : Nat} {x y : Obj} (hi : L[i]? = some (blk g x)) (hj : L[j]? = some (blk h y)) (hne : i ≠ j) : g ≠ h :=
  fun e => (H.apart i j _ _ hi hj hne).1 g rfl e

end Go.Proofs.YtajlhloapglafaaGreatDoor
