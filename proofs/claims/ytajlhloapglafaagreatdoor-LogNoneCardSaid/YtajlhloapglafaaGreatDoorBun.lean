/- Assertions in a bundle. No program. -/
import Derived.Test.YtajlhloapglafaaGreatDoorOp
namespace Go.Proofs.YtajlhloapglafaaGreatDoor
open Go.RowKit
set_option linter.unusedVariables false

/-- All hold, and no two meet. -/
structure Bundle (W : World) (L : List Asrt) : Prop where
  all : ∀ (i : Nat) (A : Asrt), L[i]? = some A → A.prop W
  apart : ∀ (i j : Nat) (A B : Asrt), L[i]? = some A → L[j]? = some B → i ≠ j → Apart A B

def ownL (L : List Asrt) (k : Nat) : Prop := ∃ A ∈ L, A.own k
def rdL (L : List Asrt) (k : Nat) : Prop := ∃ A ∈ L, A.rd k

/-- A bundle, as one assertion. -/
def bun (L : List Asrt) : Asrt where
  own := ownL L
  rd := rdL L
  prop W := Bundle W L
  stable W W' h hp := ⟨fun i A hi => A.stable W W' (fun k hk => h k (by
    rcases hk with hk | hk
    · exact .inl ⟨A, List.mem_of_getElem? hi, hk⟩
    · exact .inr ⟨A, List.mem_of_getElem? hi, hk⟩)) (hp.all i A hi), hp.apart⟩
  bound W hp k hk := by
    rcases hk with ⟨A, hA, hk⟩ | ⟨A, hA, hk⟩
    · obtain ⟨i, hi⟩ := List.getElem?_of_mem hA
      exact A.bound W (hp.all i A hi) k (.inl hk)
    · obtain ⟨i, hi⟩ := List.getElem?_of_mem hA
      exact A.bound W (hp.all i A hi) k (.inr hk)

/-- A call on a bundle begins with its parts. -/
theorem Bundle.open_ {W : World} {L : List Asrt} (h : Bundle W L) : St (ownL L) (rdL L) W W L :=
  ⟨Fix.refl _ _, h.all, h.apart, fun i A hi k hk => .inr ⟨A, List.mem_of_getElem? hi, hk⟩, fun i A hi k hk => .inr (.inr ⟨A, List.mem_of_getElem? hi, hk⟩)⟩

theorem St.bundle {M0 R0 : Nat → Prop} {w0 W : World} {L : List Asrt} (H : St M0 R0 w0 W L) : Bundle W L := ⟨H.all, H.apart⟩

/-- What a call on a bundle leaves. -/
structure BunTo (W : World) (own rd : Nat → Prop) (L' : List Asrt) (W' : World) : Prop where
  holds : Bundle W' L'
  fix : Fix own W W'
  owns : ∀ k, ownL L' k → own k ∨ W.heap.size ≤ k
  reads : ∀ k, rdL L' k → own k ∨ rd k ∨ W.heap.size ≤ k

/-- A call on a bundle ends with its parts. -/
theorem St.bunTo {W W' : World} {own rd : Nat → Prop} {L : List Asrt} (H : St own rd W W' L) : BunTo W own rd L W' :=
  ⟨H.bundle, H.fix, fun k ⟨A, hA, hk⟩ => by
    obtain ⟨i, hi⟩ := List.getElem?_of_mem hA
    exact (H.mine i A hi k hk).symm, fun k ⟨A, hA, hk⟩ => by
    obtain ⟨i, hi⟩ := List.getElem?_of_mem hA
    rcases H.reads i A hi k hk with h | h | h
    · exact .inr (.inr h)
    · exact .inl h
    · exact .inr (.inl h)⟩

theorem BunTo.same {W : World} {L : List Asrt} (h : Bundle W L) : BunTo W (ownL L) (rdL L) L W := h.open_.bunTo

/-- The caller's step. -/
theorem BunTo.step {M0 R0 : Nat → Prop} {w0 W W' : World} {L Ls Ls' : List Asrt} (H : St M0 R0 w0 W L) (i : Nat) (hi : L[i]? = some (bun Ls)) (h : BunTo W (ownL Ls) (rdL Ls) Ls' W') : St M0 R0 w0 W' (L.set i (bun Ls')) :=
  H.step i hi h.fix h.holds ⟨h.owns, fun k hk => h.reads k hk⟩

/-- The last one's bundle is opened. -/
theorem St.unbun {M0 R0 : Nat → Prop} {w0 W : World} {L Ls : List Asrt} (H : St M0 R0 w0 W (L ++ [bun Ls])) : St M0 R0 w0 W (L ++ Ls) := by
  have hb : Bundle W Ls := H.at (A := bun Ls) L.length (by simp)
  have hL : ∀ (i : Nat) (A : Asrt), L[i]? = some A → (L ++ [bun Ls])[i]? = some A := fun i A hi => by
    rw [List.getElem?_append_left (List.getElem?_eq_some_iff.1 hi).1]; exact hi
  have hlast : (L ++ [bun Ls])[L.length]? = some (bun Ls) := by simp
  have hget : ∀ (m : Nat) (C : Asrt), (L ++ Ls)[m]? = some C → (m < L.length ∧ L[m]? = some C) ∨ (L.length ≤ m ∧ Ls[m - L.length]? = some C) := by
    intro m C hm
    rcases Nat.lt_or_ge m L.length with h | h
    · rw [List.getElem?_append_left h] at hm; exact .inl ⟨h, hm⟩
    · rw [List.getElem?_append_right h] at hm; exact .inr ⟨h, hm⟩
  have hap : ∀ (m : Nat) (C B : Asrt), L[m]? = some C → B ∈ Ls → Apart B C := by
    intro m C B hC hB
    have h0 := H.apart L.length m _ _ hlast (hL m C hC) (by have := (List.getElem?_eq_some_iff.1 hC).1; omega)
    exact ⟨fun k hk => h0.1 k ⟨B, hB, hk⟩, fun k hk => h0.2.1 k ⟨B, hB, hk⟩, fun k hk hk2 => h0.2.2 k hk ⟨B, hB, hk2⟩⟩
  refine ⟨H.fix, ?_, ?_, ?_, ?_⟩
  · intro m C hm
    rcases hget m C hm with ⟨_, h⟩ | ⟨_, h⟩
    · exact H.all m C (hL m C h)
    · exact hb.all _ C h
  · intro m l C E hm hl hne
    rcases hget m C hm with ⟨_, h⟩ | ⟨h1, h⟩ <;> rcases hget l E hl with ⟨_, h'⟩ | ⟨h2, h'⟩
    · exact H.apart m l C E (hL m C h) (hL l E h') hne
    · exact (hap m C E h (List.mem_of_getElem? h')).symm
    · exact hap l E C h' (List.mem_of_getElem? h)
    · exact hb.apart _ _ C E h h' (by omega)
  · intro m C hm k hk
    rcases hget m C hm with ⟨_, h⟩ | ⟨_, h⟩
    · exact H.mine m C (hL m C h) k hk
    · exact H.mine _ _ hlast k ⟨C, List.mem_of_getElem? h, hk⟩
  · intro m C hm k hk
    rcases hget m C hm with ⟨_, h⟩ | ⟨_, h⟩
    · exact H.reads m C (hL m C h) k hk
    · exact H.reads _ _ hlast k ⟨C, List.mem_of_getElem? h, hk⟩

/-- The last ones become a bundle. -/
theorem St.rebun {M0 R0 : Nat → Prop} {w0 W : World} {L Ls : List Asrt} (H : St M0 R0 w0 W (L ++ Ls)) : St M0 R0 w0 W (L ++ [bun Ls]) := by
  have hLs : ∀ (i : Nat) (A : Asrt), Ls[i]? = some A → (L ++ Ls)[L.length + i]? = some A := fun i A hi => by
    rw [List.getElem?_append_right (by omega), Nat.add_sub_cancel_left]; exact hi
  have hL : ∀ (i : Nat) (A : Asrt), L[i]? = some A → (L ++ Ls)[i]? = some A := fun i A hi => by
    rw [List.getElem?_append_left (List.getElem?_eq_some_iff.1 hi).1]; exact hi
  have hb : Bundle W Ls := ⟨fun i A hi => H.all _ A (hLs i A hi), fun i j A B hi hj hne => H.apart _ _ A B (hLs i A hi) (hLs j B hj) (by omega)⟩
  have hget : ∀ (m : Nat) (C : Asrt), (L ++ [bun Ls])[m]? = some C → (L[m]? = some C) ∨ (m = L.length ∧ C = bun Ls) := by
    intro m C hm
    rcases Nat.lt_or_ge m L.length with h | h
    · rw [List.getElem?_append_left h] at hm; exact .inl hm
    · rw [List.getElem?_append_right h] at hm
      have : m - L.length = 0 := by
        have := (List.getElem?_eq_some_iff.1 hm).1
        simp at this; omega
      rw [this] at hm
      exact .inr ⟨by omega, (by simpa using hm : bun Ls = C).symm⟩
  have hap : ∀ (m : Nat) (C : Asrt), L[m]? = some C → Apart (bun Ls) C := by
    intro m C hC
    have hm := (List.getElem?_eq_some_iff.1 hC).1
    have key : ∀ B ∈ Ls, Apart B C := fun B hB => by
      obtain ⟨i, hi⟩ := List.getElem?_of_mem hB
      exact H.apart _ _ B C (hLs i B hi) (hL m C hC) (by omega)
    exact ⟨fun k ⟨B, hB, hk⟩ => (key B hB).1 k hk, fun k ⟨B, hB, hk⟩ => (key B hB).2.1 k hk, fun k hk ⟨B, hB, hk2⟩ => (key B hB).2.2 k hk hk2⟩
  refine ⟨H.fix, ?_, ?_, ?_, ?_⟩
  · intro m C hm
    rcases hget m C hm with h | ⟨_, rfl⟩
    · exact H.all m C (hL m C h)
    · exact hb
  · intro m l C E hm hl hne
    rcases hget m C hm with h | ⟨h1, rfl⟩ <;> rcases hget l E hl with h' | ⟨h2, rfl⟩
    · exact H.apart m l C E (hL m C h) (hL l E h') hne
    · exact (hap m C h).symm
    · exact hap l E h'
    · omega
  · intro m C hm k hk
    rcases hget m C hm with h | ⟨_, rfl⟩
    · exact H.mine m C (hL m C h) k hk
    · obtain ⟨B, hB, hk⟩ := hk
      obtain ⟨i, hi⟩ := List.getElem?_of_mem hB
      exact H.mine _ B (hLs i B hi) k hk
  · intro m C hm k hk
    rcases hget m C hm with h | ⟨_, rfl⟩
    · exact H.reads m C (hL m C h) k hk
    · obtain ⟨B, hB, hk⟩ := hk
      obtain ⟨i, hi⟩ := List.getElem?_of_mem hB
      exact H.reads _ B (hLs i B hi) k hk

/-- The order does not count. -/
theorem St.rotate {M0 R0 : Nat → Prop} {w0 W : World} {A B : List Asrt} (H : St M0 R0 w0 W (A ++ B)) : St M0 R0 w0 W (B ++ A) := by
  have hidx : ∀ (m : Nat) (C : Asrt), (B ++ A)[m]? = some C → ∃ m', (A ++ B)[m']? = some C ∧ (m < B.length ∧ m' = A.length + m ∨ B.length ≤ m ∧ m' = m - B.length ∧ m' < A.length) := by
    intro m C hm
    rcases Nat.lt_or_ge m B.length with h | h
    · rw [List.getElem?_append_left h] at hm
      exact ⟨A.length + m, by rw [List.getElem?_append_right (by omega), Nat.add_sub_cancel_left]; exact hm, .inl ⟨h, rfl⟩⟩
    · rw [List.getElem?_append_right h] at hm
      have hlt := (List.getElem?_eq_some_iff.1 hm).1
      exact ⟨m - B.length, by rw [List.getElem?_append_left hlt]; exact hm, .inr ⟨h, rfl, hlt⟩⟩
  refine ⟨H.fix, ?_, ?_, ?_, ?_⟩
  · intro m C hm
    obtain ⟨m', h, _⟩ := hidx m C hm
    exact H.all m' C h
  · intro m l C E hm hl hne
    obtain ⟨m', h, a⟩ := hidx m C hm
    obtain ⟨l', h', b⟩ := hidx l E hl
    exact H.apart m' l' C E h h' (by omega)
  · intro m C hm
    obtain ⟨m', h, _⟩ := hidx m C hm
    exact H.mine m' C h
  · intro m C hm
    obtain ⟨m', h, _⟩ := hidx m C hm
    exact H.reads m' C h

/-- THE CALLER'S STEP, where the parts lie open in front. -/
theorem BunTo.front {M0 R0 : Nat → Prop} {w0 W W' : World} {Ls Ls' R : List Asrt} (h : BunTo W (ownL Ls) (rdL Ls) Ls' W') (H : St M0 R0 w0 W (Ls ++ R)) : St M0 R0 w0 W' (Ls' ++ R) := by
  have H1 := H.rotate.rebun
  have H2 := BunTo.step H1 R.length (by simp) h
  have e : (R ++ [bun Ls]).set R.length (bun Ls') = R ++ [bun Ls'] := by simp
  rw [e] at H2
  exact H2.unbun.rotate

/-- A call that begins with what it reads. -/
theorem St.reads_only {w : World} (L : List Asrt) (h : ∀ B ∈ L, B.prop w ∧ ∀ k, ¬ B.own k) : St NoBlk (fun _ => True) w w L :=
  ⟨Fix.refl _ _, fun i A hi => (h A (List.mem_of_getElem? hi)).1, fun i j A B hi hj _ => ⟨fun k hk => absurd hk ((h A (List.mem_of_getElem? hi)).2 k), fun k hk => absurd hk ((h A (List.mem_of_getElem? hi)).2 k), fun k hk => absurd hk ((h B (List.mem_of_getElem? hj)).2 k)⟩,
    fun i A hi k hk => absurd hk ((h A (List.mem_of_getElem? hi)).2 k), fun _ _ _ _ _ => .inr (.inr trivial)⟩

/-- Some of them, in whatever order. -/
theorem St.pick {M0 R0 : Nat → Prop} {w0 W : World} {L L' : List Asrt} (H : St M0 R0 w0 W L) (f : Nat → Nat) (hf : ∀ (m : Nat) (C : Asrt), L'[m]? = some C → L[f m]? = some C)
    (hi : ∀ m l, m < L'.length → l < L'.length → f m = f l → m = l) : St M0 R0 w0 W L' :=
  ⟨H.fix, fun m C hm => H.all _ C (hf m C hm), fun m l C E hm hl hne => H.apart _ _ C E (hf m C hm) (hf l E hl) (fun e => hne (hi m l (List.getElem?_eq_some_iff.1 hm).1 (List.getElem?_eq_some_iff.1 hl).1 e)),
    fun m C hm => H.mine _ C (hf m C hm), fun m C hm => H.reads _ C (hf m C hm)⟩

theorem St.swap {M0 R0 : Nat → Prop} {w0 W : World} {A E R : List Asrt} (H : St M0 R0 w0 W ((A ++ E) ++ R)) : St M0 R0 w0 W ((A ++ R) ++ E) := by
  refine H.pick (fun m => if m < A.length then m else if m < A.length + R.length then m + E.length else m - R.length) ?_ ?_
  · intro m C hm
    show ((A ++ E) ++ R)[if m < A.length then m else if m < A.length + R.length then m + E.length else m - R.length]? = some C
    rcases Nat.lt_or_ge m A.length with h | h
    · rw [if_pos h, List.append_assoc, List.getElem?_append_left h]
      rw [List.append_assoc, List.getElem?_append_left h] at hm
      exact hm
    · rw [if_neg (by omega)]
      rw [List.append_assoc, List.getElem?_append_right h] at hm
      rcases Nat.lt_or_ge m (A.length + R.length) with h2 | h2
      · rw [if_pos h2, List.getElem?_append_right (by simp; omega)]
        rw [List.getElem?_append_left (by omega)] at hm
        rw [← hm]; congr 1; simp; omega
      · rw [if_neg (by omega)]
        rw [List.getElem?_append_right (by omega)] at hm
        have hlt := (List.getElem?_eq_some_iff.1 hm).1
        rw [List.getElem?_append_left (by simp; omega), List.getElem?_append_right (by omega), ← hm]
        congr 1; omega
  · intro m l hm hl e
    simp only [List.length_append] at hm hl
    split at e <;> split at e <;> (try split at e) <;> (try split at e) <;> omega

/-- THE CALLER'S STEP, where the parts lie open in front and the call has laid more. -/
theorem BunTo.front2 {M0 R0 : Nat → Prop} {w0 W W' : World} {Ls Ls' E R : List Asrt} (h : BunTo W (ownL Ls) (rdL Ls) (Ls' ++ E) W') (H : St M0 R0 w0 W (Ls ++ R)) : St M0 R0 w0 W' ((Ls' ++ R) ++ E) :=
  (h.front H).swap

end Go.Proofs.YtajlhloapglafaaGreatDoor
