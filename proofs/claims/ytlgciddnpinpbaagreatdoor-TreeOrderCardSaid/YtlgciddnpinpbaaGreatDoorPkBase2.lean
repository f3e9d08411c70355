/- Texts of this proof, packed: Assertions in a bundle. No program and what follows it. -/
import Derived.Test.YtlgciddnpinpbaaGreatDoorPkBase1
import Derived.Deep.RegionHeld3
import Derived.Laws.ResultCell
import Derived.WalkKit
import Derived.LaidEql
import Derived.Stop.Asserts
import Derived.RowKitTokens

namespace Go.Proofs.YtlgciddnpinpbaaGreatDoor
open Go.RowKit
set_option linter.unusedVariables false

/-- All hold, and no two meet. -/
structure Bundle (W : World) (L : List Asrt) : Prop where
  all : ∀ (i : Nat) (A : Asrt), L[i]? = some A → A.prop W
  apart : ∀ (i j : Nat) (A B : Asrt), L[i]? = some A → L[j]? = some B → i ≠ j → Apart A B

def ownL (L : List Asrt) (k : Nat) : Prop := ∃ A ∈ L, A.own k
def rdL (L : List Asrt) (k : Nat) : Prop := ∃ A ∈ L, A.rd k

/-- A bundle, as one assertion. -/
def bun (L : List Asrt) : Asrt where
  own := ownL L
  rd := rdL L
  prop W := Bundle W L
  stable W W' h hp := ⟨fun i A hi => A.stable W W' (fun k hk => h k (by
    rcases hk with hk | hk
    · exact .inl ⟨A, List.mem_of_getElem? hi, hk⟩
    · exact .inr ⟨A, List.mem_of_getElem? hi, hk⟩)) (hp.all i A hi), hp.apart⟩
  bound W hp k hk := by
    rcases hk with ⟨A, hA, hk⟩ | ⟨A, hA, hk⟩
    · obtain ⟨i, hi⟩ := List.getElem?_of_mem hA
      exact A.bound W (hp.all i A hi) k (.inl hk)
    · obtain ⟨i, hi⟩ := List.getElem?_of_mem hA
      exact A.bound W (hp.all i A hi) k (.inr hk)

/-- A call on a bundle begins with its parts. -/
theorem Bundle.open_ {W : World} {L : List Asrt} (h : Bundle W L) : St (ownL L) (rdL L) W W L :=
  ⟨Fix.refl _ _, h.all, h.apart, fun i A hi k hk => .inr ⟨A, List.mem_of_getElem? hi, hk⟩, fun i A hi k hk => .inr (.inr ⟨A, List.mem_of_getElem? hi, hk⟩)⟩

theorem St.bundle {M0 R0 : Nat → Prop} {w0 W : World} {L : List Asrt} (H : St M0 R0 w0 W L) : Bundle W L := ⟨H.all, H.apart⟩

/-- What a call on a bundle leaves. -/
structure BunTo (W : World) (own rd : Nat → Prop) (L' : List Asrt) (W' : World) : Prop where
  holds : Bundle W' L'
  fix : Fix own W W'
  owns : ∀ k, ownL L' k → own k ∨ W.heap.size ≤ k
  reads : ∀ k, rdL L' k → own k ∨ rd k ∨ W.heap.size ≤ k

/-- A call on a bundle ends with its parts. -/
theorem St.bunTo {W W' : World} {own rd : Nat → Prop} {L : List Asrt} (H : St own rd W W' L) : BunTo W own rd L W' :=
  ⟨H.bundle, H.fix, fun k ⟨A, hA, hk⟩ => by
    obtain ⟨i, hi⟩ := List.getElem?_of_mem hA
    exact (H.mine i A hi k hk).symm, fun k ⟨A, hA, hk⟩ => by
    obtain ⟨i, hi⟩ := List.getElem?_of_mem hA
    rcases H.reads i A hi k hk with h | h | h
    · exact .inr (.inr h)
    · exact .inl h
    · exact .inr (.inl h)⟩

theorem BunTo.same {W : World} {L : List Asrt} (h : Bundle W L) : BunTo W (ownL L) (rdL L) L W := h.open_.bunTo

/-- The caller's step. -/
theorem BunTo.step {M0 R0 : Nat → Prop} {w0 W W' : World} {L Ls Ls' : List Asrt} (H : St M0 R0 w0 W L) (i : Nat) (hi : L[i]? = some (bun Ls)) (h : BunTo W (ownL Ls) (rdL Ls) Ls' W') : St M0 R0 w0 W' (L.set i (bun Ls')) :=
  H.step i hi h.fix h.holds ⟨h.owns, fun k hk => h.reads k hk⟩

/-- The last one's bundle is opened. -/
theorem St.unbun {M0 R0 : Nat → Prop} {w0 W : World} {L Ls : List Asrt} (H : St M0 R0 w0 W (L ++ [bun Ls])) : St M0 R0 w0 W (L ++ Ls) := by
  have hb : Bundle W Ls := H.at (A := bun Ls) L.length (by simp)
  have hL : ∀ (i : Nat) (A : Asrt), L[i]? = some A → (L ++ [bun Ls])[i]? = some A := fun i A hi => by
    rw [List.getElem?_append_left (List.getElem?_eq_some_iff.1 hi).1]; exact hi
  have hlast : (L ++ [bun Ls])[L.length]? = some (bun Ls) := by simp
  have hget : ∀ (m : Nat) (C : Asrt), (L ++ Ls)[m]? = some C → (m < L.length ∧ L[m]? = some C) ∨ (L.length ≤ m ∧ Ls[m - L.length]? = some C) := by
    intro m C hm
    rcases Nat.lt_or_ge m L.length with h | h
    · rw [List.getElem?_append_left h] at hm; exact .inl ⟨h, hm⟩
    · rw [List.getElem?_append_right h] at hm; exact .inr ⟨h, hm⟩
  have hap : ∀ (m : Nat) (C B : Asrt), L[m]? = some C → B ∈ Ls → Apart B C := by
    intro m C B hC hB
    have h0 := H.apart L.length m _ _ hlast (hL m C hC) (by have := (List.getElem?_eq_some_iff.1 hC).1; omega)
    exact ⟨fun k hk => h0.1 k ⟨B, hB, hk⟩, fun k hk => h0.2.1 k ⟨B, hB, hk⟩, fun k hk hk2 => h0.2.2 k hk ⟨B, hB, hk2⟩⟩
  refine ⟨H.fix, ?_, ?_, ?_, ?_⟩
  · intro m C hm
    rcases hget m C hm with ⟨_, h⟩ | ⟨_, h⟩
    · exact H.all m C (hL m C h)
    · exact hb.all _ C h
  · intro m l C E hm hl hne
    rcases hget m C hm with ⟨_, h⟩ | ⟨h1, h⟩ <;> rcases hget l E hl with ⟨_, h'⟩ | ⟨h2, h'⟩
    · exact H.apart m l C E (hL m C h) (hL l E h') hne
    · exact (hap m C E h (List.mem_of_getElem? h')).symm
    · exact hap l E C h' (List.mem_of_getElem? h)
    · exact hb.apart _ _ C E h h' (by omega)
  · intro m C hm k hk
    rcases hget m C hm with ⟨_, h⟩ | ⟨_, h⟩
    · exact H.mine m C (hL m C h) k hk
    · exact H.mine _ _ hlast k ⟨C, List.mem_of_getElem? h, hk⟩
  · intro m C hm k hk
    rcases hget m C hm with ⟨_, h⟩ | ⟨_, h⟩
    · exact H.reads m C (hL m C h) k hk
    · exact H.reads _ _ hlast k ⟨C, List.mem_of_getElem? h, hk⟩

/-- The last ones become a bundle. -/
theorem St.rebun {M0 R0 : Nat → Prop} {w0 W : World} {L Ls : List Asrt} (H : St M0 R0 w0 W (L ++ Ls)) : St M0 R0 w0 W (L ++ [bun Ls]) := by
  have hLs : ∀ (i : Nat) (A : Asrt), Ls[i]? = some A → (L ++ Ls)[L.length + i]? = some A := fun i A hi => by
    rw [List.getElem?_append_right (by omega), Nat.add_sub_cancel_left]; exact hi
  have hL : ∀ (i : Nat) (A : Asrt), L[i]? = some A → (L ++ Ls)[i]? = some A := fun i A hi => by
    rw [List.getElem?_append_left (List.getElem?_eq_some_iff.1 hi).1]; exact hi
  have hb : Bundle W Ls := ⟨fun i A hi => H.all _ A (hLs i A hi), fun i j A B hi hj hne => H.apart _ _ A B (hLs i A hi) (hLs j B hj) (by omega)⟩
  have hget : ∀ (m : Nat) (C : Asrt), (L ++ [bun Ls])[m]? = some C → (L[m]? = some C) ∨ (m = L.length ∧ C = bun Ls) := by
    intro m C hm
    rcases Nat.lt_or_ge m L.length with h | h
    · rw [List.getElem?_append_left h] at hm; exact .inl hm
    · rw [List.getElem?_append_right h] at hm
      have : m - L.length = 0 := by
        have := (List.getElem?_eq_some_iff.1 hm).1
        simp at this; omega
      rw [this] at hm
      exact .inr ⟨by omega, (by simpa using hm : bun Ls = C).symm⟩
  have hap : ∀ (m : Nat) (C : Asrt), L[m]? = some C → Apart (bun Ls) C := by
    intro m C hC
    have hm := (List.getElem?_eq_some_iff.1 hC).1
    have key : ∀ B ∈ Ls, Apart B C := fun B hB => by
      obtain ⟨i, hi⟩ := List.getElem?_of_mem hB
      exact H.apart _ _ B C (hLs i B hi) (hL m C hC) (by omega)
    exact ⟨fun k ⟨B, hB, hk⟩ => (key B hB).1 k hk, fun k ⟨B, hB, hk⟩ => (key B hB).2.1 k hk, fun k hk ⟨B, hB, hk2⟩ => (key B hB).2.2 k hk hk2⟩
  refine ⟨H.fix, ?_, ?_, ?_, ?_⟩
  · intro m C hm
    rcases hget m C hm with h | ⟨_, rfl⟩
    · exact H.all m C (hL m C h)
    · exact hb
  · intro m l C E hm hl hne
    rcases hget m C hm with h | ⟨h1, rfl⟩ <;> rcases hget l E hl with h' | ⟨h2, rfl⟩
    · exact H.apart m l C E (hL m C h) (hL l E h') hne
    · exact (hap m C h).symm
    · exact hap l E h'
    · omega
  · intro m C hm k hk
    rcases hget m C hm with h | ⟨_, rfl⟩
    · exact H.mine m C (hL m C h) k hk
    · obtain ⟨B, hB, hk⟩ := hk
      obtain ⟨i, hi⟩ := List.getElem?_of_mem hB
      exact H.mine _ B (hLs i B hi) k hk
  · intro m C hm k hk
    rcases hget m C hm with h | ⟨_, rfl⟩
    · exact H.reads m C (hL m C h) k hk
    · obtain ⟨B, hB, hk⟩ := hk
      obtain ⟨i, hi⟩ := List.getElem?_of_mem hB
      exact H.reads _ B (hLs i B hi) k hk

/-- The order does not count. -/
theorem St.rotate {M0 R0 : Nat → Prop} {w0 W : World} {A B : List Asrt} (H : St M0 R0 w0 W (A ++ B)) : St M0 R0 w0 W (B ++ A) := by
  have hidx : ∀ (m : Nat) (C : Asrt), (B ++ A)[m]? = some C → ∃ m', (A ++ B)[m']? = some C ∧ (m < B.length ∧ m' = A.length + m ∨ B.length ≤ m ∧ m' = m - B.length ∧ m' < A.length) := by
    intro m C hm
    rcases Nat.lt_or_ge m B.length with h | h
    · rw [List.getElem?_append_left h] at hm
      exact ⟨A.length + m, by rw [List.getElem?_append_right (by omega), Nat.add_sub_cancel_left]; exact hm, .inl ⟨h, rfl⟩⟩
    · rw [List.getElem?_append_right h] at hm
      have hlt := (List.getElem?_eq_some_iff.1 hm).1
      exact ⟨m - B.length, by rw [List.getElem?_append_left hlt]; exact hm, .inr ⟨h, rfl, hlt⟩⟩
  refine ⟨H.fix, ?_, ?_, ?_, ?_⟩
  · intro m C hm
    obtain ⟨m', h, _⟩ := hidx m C hm
    exact H.all m' C h
  · intro m l C E hm hl hne
    obtain ⟨m', h, a⟩ := hidx m C hm
    obtain ⟨l', h', b⟩ := hidx l E hl
    exact H.apart m' l' C E h h' (by omega)
  · intro m C hm
    obtain ⟨m', h, _⟩ := hidx m C hm
    exact H.mine m' C h
  · intro m C hm
    obtain ⟨m', h, _⟩ := hidx m C hm
    exact H.reads m' C h

/-- THE CALLER'S STEP, where the parts lie open in front. -/
theorem BunTo.front {M0 R0 : Nat → Prop} {w0 W W' : World} {Ls Ls' R : List Asrt} (h : BunTo W (ownL Ls) (rdL Ls) Ls' W') (H : St M0 R0 w0 W (Ls ++ R)) : St M0 R0 w0 W' (Ls' ++ R) := by
  have H1 := H.rotate.rebun
  have H2 := BunTo.step H1 R.length (by simp) h
  have e : (R ++ [bun Ls]).set R.length (bun Ls') = R ++ [bun Ls'] := by simp
  rw [e] at H2
  exact H2.unbun.rotate

/-- A call that begins with what it reads. -/
theorem St.reads_only {w : World} (L : List Asrt) (h : ∀ B ∈ L, B.prop w ∧ ∀ k, ¬ B.own k) : St NoBlk (fun _ => True) w w L :=
  ⟨Fix.refl _ _, fun i A hi => (h A (List.mem_of_getElem? hi)).1, fun i j A B hi hj _ => ⟨fun k hk => absurd hk ((h A (List.mem_of_getElem? hi)).2 k), fun k hk => absurd hk ((h A (List.mem_of_getElem? hi)).2 k), fun k hk => absurd hk ((h B (List.mem_of_getElem? hj)).2 k)⟩,
    fun i A hi k hk => absurd hk ((h A (List.mem_of_getElem? hi)).2 k), fun _ _ _ _ _ => .inr (.inr trivial)⟩

/-- Some of them, in whatever order. -/
theorem St.pick {M0 R0 : Nat → Prop} {w0 W : World} {L L' : List Asrt} (H : St M0 R0 w0 W L) (f : Nat → Nat) (hf : ∀ (m : Nat) (C : Asrt), L'[m]? = some C → L[f m]? = some C)
    (hi : ∀ m l, m < L'.length → l < L'.length → f m = f l → m = l) : St M0 R0 w0 W L' :=
  ⟨H.fix, fun m C hm => H.all _ C (hf m C hm), fun m l C E hm hl hne => H.apart _ _ C E (hf m C hm) (hf l E hl) (fun e => hne (hi m l (List.getElem?_eq_some_iff.1 hm).1 (List.getElem?_eq_some_iff.1 hl).1 e)),
    fun m C hm => H.mine _ C (hf m C hm), fun m C hm => H.reads _ C (hf m C hm)⟩

theorem St.swap {M0 R0 : Nat → Prop} {w0 W : World} {A E R : List Asrt} (H : St M0 R0 w0 W ((A ++ E) ++ R)) : St M0 R0 w0 W ((A ++ R) ++ E) := by
  refine H.pick (fun m => if m < A.length then m else if m < A.length + R.length then m + E.length else m - R.length) ?_ ?_
  · intro m C hm
    show ((A ++ E) ++ R)[if m < A.length then m else if m < A.length + R.length then m + E.length else m - R.length]? = some C
    rcases Nat.lt_or_ge m A.length with h | h
    · rw [if_pos h, List.append_assoc, List.getElem?_append_left h]
      rw [List.append_assoc, List.getElem?_append_left h] at hm
      exact hm
    · rw [if_neg (by omega)]
      rw [List.append_assoc, List.getElem?_append_right h] at hm
      rcases Nat.lt_or_ge m (A.length + R.length) with h2 | h2
      · rw [if_pos h2, List.getElem?_append_right (by simp; omega)]
        rw [List.getElem?_append_left (by omega)] at hm
        rw [← hm]; congr 1; simp; omega
      · rw [if_neg (by omega)]
        rw [List.getElem?_append_right (by omega)] at hm
        have hlt := (List.getElem?_eq_some_iff.1 hm).1
        rw [List.getElem?_append_left (by simp; omega), List.getElem?_append_right (by omega), ← hm]
        congr 1; omega
  · intro m l hm hl e
    simp only [List.length_append] at hm hl
    split at e <;> split at e <;> (try split at e) <;> (try split at e) <;> omega

/-- THE CALLER'S STEP, where the parts lie open in front and the call has laid more. -/
theorem BunTo.front2 {M0 R0 : Nat → Prop} {w0 W W' : World} {Ls Ls' E R : List Asrt} (h : BunTo W (ownL Ls) (rdL Ls) (Ls' ++ E) W') (H : St M0 R0 w0 W (Ls ++ R)) : St M0 R0 w0 W' ((Ls' ++ R) ++ E) :=
  (h.front H).swap

end Go.Proofs.YtlgciddnpinpbaaGreatDoor

namespace Go.Proofs.YtlgciddnpinpbaaGreatDoor
open Go.RowKit
set_option linter.unusedSimpArgs false
set_option linter.unusedVariables false
set_option maxRecDepth 4000

/-- The bytes that a map's slices name: n keys, len bytes each. -/
structure MapIs (W : World) (rd : Nat → Prop) (M : DataW Value) (f : Nat → Option (List UInt8)) (n len : Nat) : Prop where
  keys : ∀ kl, Go.Maps.has M kl = true → ∃ k : Nat, k < n ∧ kl = keyI k
  waits : ∀ k, (Go.Maps.has M (keyI k) = false ∧ f k = none) ∨ ∃ v l, Go.Maps.has M (keyI k) = true ∧ M.atKey (keyI k) (.held (.slice none 0 0)) = .held v ∧ f k = some l ∧ l.length = len ∧ ByS W rd v l
  lt : ∀ k, rd k → k < W.heap.size

theorem MapIs.same {W W' : World} {rd rd' : Nat → Prop} {M : DataW Value} {f : Nat → Option (List UInt8)} {n len : Nat} (h : MapIs W rd M f n len) (hb : ∀ k, rd k → W'.heap[k]? = W.heap[k]? ∧ rd' k) (hl : ∀ k, rd' k → k < W'.heap.size) : MapIs W' rd' M f n len :=
  ⟨h.keys, fun k => by
    rcases h.waits k with h1 | ⟨v, l, h1, h2, h3, h4, h5⟩
    · exact .inl h1
    · exact .inr ⟨v, l, h1, h2, h3, h4, h5.same hb⟩, hl⟩

def mapIsA (rd : Nat → Prop) (M : DataW Value) (f : Nat → Option (List UInt8)) (n len : Nat) : Asrt where
  own _ := False
  rd := rd
  prop W := MapIs W rd M f n len
  stable W W' h hp := by
    refine hp.same (fun k hk => ⟨h k (.inr hk), hk⟩) (fun k hk => ?_)
    have h1 := hp.lt k hk
    have h2 := h k (.inr hk)
    rw [Array.getElem?_eq_getElem h1] at h2
    exact (Array.getElem?_eq_some_iff.1 h2).1
  bound W hp k hk := by
    rcases hk with hk | hk
    · exact hk.elim
    · exact hp.lt k hk

theorem MapIs.empty (W : World) (n len : Nat) : MapIs W NoBlk (.map []) (fun _ => none) n len :=
  ⟨fun kl h => by simp [Go.Maps.has] at h, fun k => .inl ⟨rfl, rfl⟩, fun k hk => hk.elim⟩

theorem MapIs.look_no {W : World} {rd : Nat → Prop} {M : DataW Value} {f : Nat → Option (List UInt8)} {b len : Nat} (h : MapIs W rd M f b len) {gm n : Nat}
    (hm : W.ownsMap Tryz.prog 3 RV gm n M) (k : Nat) (hk : k < 1048576) (hw : f k = none) :
    (Instr.lookup 110 (.map (some gm)) (.int .i64 (k : Int)) true).run Tryz.prog W = .ok (.tuple #[.slice none 0 0, .bool false]) W := by
  rcases h.waits k with ⟨h1, _⟩ | ⟨v, l, _, _, h3, _⟩
  · obtain ⟨v, ps, hrun, hv⟩ := hm.look_ok keyedInt Tryz.underlying110 (zero_bytes W) (zd := .held (.slice none 0 0)) (zp := []) rfl (keyI_is hk)
    rw [Go.Maps.atKey_of_not_has h1] at hv
    simp [RV] at hv
    rw [hrun, hv.1, h1]
  · rw [hw] at h3; cases h3

theorem MapIs.look_yes {W : World} {rd : Nat → Prop} {M : DataW Value} {f : Nat → Option (List UInt8)} {b len : Nat} (h : MapIs W rd M f b len) {gm n : Nat}
    (hm : W.ownsMap Tryz.prog 3 RV gm n M) (k : Nat) (hk : k < 1048576) {l : List UInt8} (hw : f k = some l) :
    ∃ v, (Instr.lookup 110 (.map (some gm)) (.int .i64 (k : Int)) true).run Tryz.prog W = .ok (.tuple #[v, .bool true]) W ∧
      (Instr.lookup 110 (.map (some gm)) (.int .i64 (k : Int)) false).run Tryz.prog W = .ok v W ∧ l.length = len ∧ ByS W rd v l := by
  rcases h.waits k with ⟨_, h1⟩ | ⟨v, l', h1, h2, h3, h4, h5⟩
  · rw [hw] at h1; cases h1
  · rw [hw] at h3
    cases h3
    obtain ⟨v1, ps, hrun, hv⟩ := hm.look_ok keyedInt Tryz.underlying110 (zero_bytes W) (zd := .held (.slice none 0 0)) (zp := []) rfl (keyI_is hk)
    obtain ⟨v2, ps2, hrun2, hv2⟩ := hm.lookup keyedInt Tryz.underlying110 (zero_bytes W) (zd := .held (.slice none 0 0)) (zp := []) rfl (keyI_is hk)
    rw [h2] at hv hv2
    simp [RV] at hv hv2
    refine ⟨v, ?_, ?_, h4, h5⟩
    · rw [hrun, hv.1, h1]
    · rw [hrun2, hv2.1]

theorem MapIs.size_le {W : World} {rd : Nat → Prop} {M : DataW Value} {f : Nat → Option (List UInt8)} {b len : Nat} (h : MapIs W rd M f b len) {gm n : Nat}
    (hm : W.ownsMap Tryz.prog 3 RV gm n M) : Go.Maps.size M ≤ b := by
  have h' : PayIs W rd (List.replicate b (.slice none 0 0)) (List.replicate b []) M (fun k => if Go.Maps.has M (keyI k) then some (List.replicate 256 0) else none) (.slice none 0 0) [] → Go.Maps.size M ≤ b := fun hp => by simpa using hp.size_le hm
  obtain ⟨es, rfl, hp⟩ := hm.tidy keyedInt
  have hk := h.keys
  have hn : (es.map Prod.fst).Nodup := by
    rw [List.nodup_iff_pairwise_ne, List.pairwise_map]
    exact hp
  have key : ∀ x ∈ es.map Prod.fst, ∃ k : Nat, k < b ∧ x = keyI k := by
    intro x hx
    obtain ⟨p, hp1, rfl⟩ := List.mem_map.1 hx
    have hkey : WideAt.IsKeyLit p.1 := by
      obtain ⟨es', e1, _, h3⟩ := hm.canon keyedInt
      cases e1
      exact h3 p hp1
    refine hk p.1 ?_
    rw [Go.Maps.has_eq, List.any_eq_true]
    exact ⟨p, hp1, WideAt.sameKey_self hkey⟩
  have := nodup_le (((es.map Prod.fst).map fun x => match x with | .int _ k => k | _ => 0)) ((List.range b).map (fun k : Nat => (k : Int))) (by
    rw [List.nodup_iff_pairwise_ne, List.pairwise_map]
    refine List.Pairwise.imp_of_mem ?_ hn
    intro a c ha hc hne e
    obtain ⟨i, _, rfl⟩ := key a ha
    obtain ⟨j, _, rfl⟩ := key c hc
    simp only [keyI] at e
    have : i = j := by omega
    exact hne (by rw [this])) (by
    intro x hx
    obtain ⟨p, hp1, rfl⟩ := List.mem_map.1 hx
    obtain ⟨i, hi, rfl⟩ := key p hp1
    simp only [keyI, List.mem_map, List.mem_range]
    exact ⟨i, hi, rfl⟩)
  simpa [Go.Maps.size] using this

/-- One more. -/
theorem MapIs.put {W : World} {rd : Nat → Prop} {M : DataW Value} {f : Nat → Option (List UInt8)} {n len : Nat} (h : MapIs W rd M f n len) (hM : Go.Maps.IsMap M) {v : Value} {l : List UInt8} {rd' : Nat → Prop} (hrd : ∀ k, rd k → rd' k)
    (hlt : ∀ k, rd' k → k < W.heap.size) (hl : l.length = len) (hv : ByS W rd' v l) (k : Nat) (hk : k < n) : MapIs W rd' (M.put (keyI k) (.held v)) (fun j => if j = k then some l else f j) n len := by
  have h' := h.same (W' := W) (rd' := rd') (fun k hk => ⟨rfl, hrd k hk⟩) hlt
  refine ⟨fun kl hkl => ?_, fun j => ?_, h'.lt⟩
  · by_cases e : kl = keyI k
    · exact ⟨k, hk, e⟩
    · rw [Go.Maps.has_put_other e] at hkl
      exact h.keys kl hkl
  · by_cases e : j = k
    · subst e
      exact .inr ⟨_, l, Go.Maps.has_put_same hM (show WideAt.IsKeyLit (keyI j) from trivial) _, Go.Maps.atKey_put_same hM (show WideAt.IsKeyLit (keyI j) from trivial) _ _, by simp, hl, hv⟩
    · have e' : keyI j ≠ keyI k := fun x => e (keyI_inj x)
      rw [Go.Maps.has_put_other e', Go.Maps.atKey_put_other e']
      simp only [if_neg e]
      exact h'.waits j

/-- The log, in plain words (its disk aside). -/
structure LS where
  lives : Int
  s : Nat
  turn : Nat
  place : Nat
  ring : Nat
  free : Int
  m : Nat → Option (List UInt8)

/-- The struct's cells. -/
def lRow (dv : Value) (lives : Int) (done : Bool) (s turn place ring free : Int) (mv : Value) : List Value :=
  [dv, .int .i64 lives, .bool done, .int .u64 s, .int .u64 turn, .int .i64 place, .int .i64 ring, .int .i64 free, mv]

theorem lRow0 (x0 : Value) (x1 : Int) (x2 : Bool) (x3 x4 x5 x6 x7 : Int) (x8 : Value) : (lRow x0 x1 x2 x3 x4 x5 x6 x7 x8).toArray[0]? = some x0 := rfl
theorem lRow1 (x0 : Value) (x1 : Int) (x2 : Bool) (x3 x4 x5 x6 x7 : Int) (x8 : Value) : (lRow x0 x1 x2 x3 x4 x5 x6 x7 x8).toArray[1]? = some (.int .i64 x1) := rfl
theorem lRow2 (x0 : Value) (x1 : Int) (x2 : Bool) (x3 x4 x5 x6 x7 : Int) (x8 : Value) : (lRow x0 x1 x2 x3 x4 x5 x6 x7 x8).toArray[2]? = some (.bool x2) := rfl
theorem lRow3 (x0 : Value) (x1 : Int) (x2 : Bool) (x3 x4 x5 x6 x7 : Int) (x8 : Value) : (lRow x0 x1 x2 x3 x4 x5 x6 x7 x8).toArray[3]? = some (.int .u64 x3) := rfl
theorem lRow4 (x0 : Value) (x1 : Int) (x2 : Bool) (x3 x4 x5 x6 x7 : Int) (x8 : Value) : (lRow x0 x1 x2 x3 x4 x5 x6 x7 x8).toArray[4]? = some (.int .u64 x4) := rfl
theorem lRow5 (x0 : Value) (x1 : Int) (x2 : Bool) (x3 x4 x5 x6 x7 : Int) (x8 : Value) : (lRow x0 x1 x2 x3 x4 x5 x6 x7 x8).toArray[5]? = some (.int .i64 x5) := rfl
theorem lRow6 (x0 : Value) (x1 : Int) (x2 : Bool) (x3 x4 x5 x6 x7 : Int) (x8 : Value) : (lRow x0 x1 x2 x3 x4 x5 x6 x7 x8).toArray[6]? = some (.int .i64 x6) := rfl
theorem lRow7 (x0 : Value) (x1 : Int) (x2 : Bool) (x3 x4 x5 x6 x7 : Int) (x8 : Value) : (lRow x0 x1 x2 x3 x4 x5 x6 x7 x8).toArray[7]? = some (.int .i64 x7) := rfl
theorem lRow8 (x0 : Value) (x1 : Int) (x2 : Bool) (x3 x4 x5 x6 x7 : Int) (x8 : Value) : (lRow x0 x1 x2 x3 x4 x5 x6 x7 x8).toArray[8]? = some x8 := rfl
theorem lSet2 (x0 : Value) (x1 : Int) (x2 : Bool) (x3 x4 x5 x6 x7 : Int) (x8 : Value) (y : Bool) : (lRow x0 x1 x2 x3 x4 x5 x6 x7 x8).toArray.setIfInBounds 2 (.bool y) = (lRow x0 x1 y x3 x4 x5 x6 x7 x8).toArray := rfl
theorem lSet3 (x0 : Value) (x1 : Int) (x2 : Bool) (x3 x4 x5 x6 x7 : Int) (x8 : Value) (y : Int) : (lRow x0 x1 x2 x3 x4 x5 x6 x7 x8).toArray.setIfInBounds 3 (.int .u64 y) = (lRow x0 x1 x2 y x4 x5 x6 x7 x8).toArray := rfl
theorem lSet4 (x0 : Value) (x1 : Int) (x2 : Bool) (x3 x4 x5 x6 x7 : Int) (x8 : Value) (y : Int) : (lRow x0 x1 x2 x3 x4 x5 x6 x7 x8).toArray.setIfInBounds 4 (.int .u64 y) = (lRow x0 x1 x2 x3 y x5 x6 x7 x8).toArray := rfl
theorem lSet5 (x0 : Value) (x1 : Int) (x2 : Bool) (x3 x4 x5 x6 x7 : Int) (x8 : Value) (y : Int) : (lRow x0 x1 x2 x3 x4 x5 x6 x7 x8).toArray.setIfInBounds 5 (.int .i64 y) = (lRow x0 x1 x2 x3 x4 y x6 x7 x8).toArray := rfl
theorem lSet6 (x0 : Value) (x1 : Int) (x2 : Bool) (x3 x4 x5 x6 x7 : Int) (x8 : Value) (y : Int) : (lRow x0 x1 x2 x3 x4 x5 x6 x7 x8).toArray.setIfInBounds 6 (.int .i64 y) = (lRow x0 x1 x2 x3 x4 x5 y x7 x8).toArray := rfl
theorem lSet7 (x0 : Value) (x1 : Int) (x2 : Bool) (x3 x4 x5 x6 x7 : Int) (x8 : Value) (y : Int) : (lRow x0 x1 x2 x3 x4 x5 x6 x7 x8).toArray.setIfInBounds 7 (.int .i64 y) = (lRow x0 x1 x2 x3 x4 x5 x6 y x8).toArray := rfl
theorem lSet8 (x0 : Value) (x1 : Int) (x2 : Bool) (x3 x4 x5 x6 x7 : Int) (x8 y : Value) : (lRow x0 x1 x2 x3 x4 x5 x6 x7 x8).toArray.setIfInBounds 8 y = (lRow x0 x1 x2 x3 x4 x5 x6 x7 y).toArray := rfl

/-- A log and its disk, in memory: the struct, the map, what its slices name, the disk. -/
def logL (g gd gm : Nat) (X : LS) (M : DataW Value) (rm : Nat → Prop) (n : Nat) (D : DS) (own rd : Nat → Prop) : List Asrt :=
  [blk g (.cells (lRow (.pointer (some ⟨gd, 0, none⟩)) X.lives false X.s X.turn X.place X.ring X.free (.map (some gm))).toArray 132 (0, 0)), mapA gm (Go.Maps.size M) M, mapIsA rm M X.m n 248, dA gd D own rd]

end Go.Proofs.YtlgciddnpinpbaaGreatDoor

namespace Go.Proofs.YtlgciddnpinpbaaGreatDoor
open Go.RowKit
set_option linter.unusedSimpArgs false
set_option linter.unusedVariables false
set_option maxRecDepth 4000

/-- The number of k bytes at a place. -/
def le (l : List UInt8) (at_ k : Nat) : Nat := Lib.leNat ((l.drop at_).take k)

theorem num8 (g off n cap : Nat) (l : List UInt8) (z : Int) (at_ : Nat) (hz : (at_ : Int) = z) (w : World) (hb : BytesAt w g off l) (hn : l.length = n) (hl : at_ + 8 ≤ n) (hc : n ≤ cap) (hm : n ≤ 1048576) :
    Calls Tryz.prog 198 #[.slice (some ⟨g, off, none⟩) n cap, .int .i64 z, .int .i64 8] w fun e w' => e = .returned (.int .u64 (le l at_ 8 : Int)) ∧ w = w' := by
  subst hz hn
  have HT := Lib.hid (take8 g off cap l at_ w hb hl hc hm)
  clear hb
  go_enter Tryz.func198, Tryz.ntmps198
  go_wp2_with (first | (go_at_call 109; (with_reducible refine (HT.out).mono ?_); rintro e W' ⟨rfl, rfl⟩))
  go_ret
  exact ⟨rfl, rfl⟩

theorem num4 (g off n cap : Nat) (l : List UInt8) (z : Int) (at_ : Nat) (hz : (at_ : Int) = z) (w : World) (hb : BytesAt w g off l) (hn : l.length = n) (hl : at_ + 4 ≤ n) (hc : n ≤ cap) (hm : n ≤ 1048576) :
    Calls Tryz.prog 198 #[.slice (some ⟨g, off, none⟩) n cap, .int .i64 z, .int .i64 4] w fun e w' => e = .returned (.int .u64 (le l at_ 4 : Int)) ∧ w = w' := by
  subst hz hn
  have HT := Lib.hid (take4 g off cap l at_ w hb hl hc hm)
  clear hb
  go_enter Tryz.func198, Tryz.ntmps198
  go_wp2_with (first | (go_at_call 109; (with_reducible refine (HT.out).mono ?_); rintro e W' ⟨rfl, rfl⟩))
  go_ret
  exact ⟨rfl, rfl⟩

theorem num2 (g off n cap : Nat) (l : List UInt8) (z : Int) (at_ : Nat) (hz : (at_ : Int) = z) (w : World) (hb : BytesAt w g off l) (hn : l.length = n) (hl : at_ + 2 ≤ n) (hc : n ≤ cap) (hm : n ≤ 1048576) :
    Calls Tryz.prog 198 #[.slice (some ⟨g, off, none⟩) n cap, .int .i64 z, .int .i64 2] w fun e w' => e = .returned (.int .u64 (le l at_ 2 : Int)) ∧ w = w' := by
  subst hz hn
  have HT := Lib.hid (take2 g off cap l at_ w hb hl hc hm)
  clear hb
  go_enter Tryz.func198, Tryz.ntmps198
  go_wp2_with (first | (go_at_call 109; (with_reducible refine (HT.out).mono ?_); rintro e W' ⟨rfl, rfl⟩))
  go_ret
  exact ⟨rfl, rfl⟩

theorem tag_calls (g off n cap : Nat) (l : List UInt8) (w : World) (hb : BytesAt w g off l) (hn : l.length = n) (hl : 8 ≤ n) (hc : n ≤ cap) (hm : n ≤ 1048576) :
    Calls Tryz.prog 197 #[.slice (some ⟨g, off, none⟩) n cap] w fun e w' => e = .returned (.int .u64 (le l 0 8 : Int)) ∧ w = w' := by
  have HT := Lib.hid (num8 g off n cap l 0 0 rfl w hb hn (by omega) hc hm)
  clear hb
  go_enter Tryz.func197, Tryz.ntmps197
  go_wp2_with (first | (go_at_call 198; (with_reducible refine (HT.out).mono ?_); rintro e W' ⟨rfl, rfl⟩))
  go_ret
  exact ⟨rfl, rfl⟩

theorem bad_ok (w : World) : Calls Tryz.prog 134 #[.int .i64 0] w fun e w' => e = .returned .nilIface ∧ w = w' := by
  go_enter Tryz.func134, Tryz.ntmps134
  go_wp2
  go_ret
  exact ⟨rfl, rfl⟩

theorem size_bool : (Tryz.prog.info? 4).map (·.size) = some 1 := by kernel_rfl

/-- does, of an operation that is done. -/
theorem does_ok {w : World} {g gd gm : Nat} {X : LS} {M : DataW Value} {rm : Nat → Prop} {n : Nat} {D : DS} {own rd : Nat → Prop} (hb : Bundle w (logL g gd gm X M rm n D own rd)) :
    Calls Tryz.prog 107 #[.pointer (some ⟨g, 0, none⟩), .int .i64 0] w fun e w' => e = .returned .nilIface ∧ BunTo w (ownL (logL g gd gm X M rm n D own rd)) (rdL (logL g gd gm X M rm n D own rd)) (logL g gd gm X M rm n D own rd) w' := by
  have H := hb.open_
  clear hb
  go_enter Tryz.func107, Tryz.ntmps107
  go_wp2_with (first
    | (refine wpList_load1_st rfl 4 _ rfl _ _ rfl _ _ _ (H.at 0 rfl) _ Tryz.underlying4 rfl _ (lRow2 _ _ _ _ _ _ _ _ _) ?_)
    | (refine wpList_store1_st H 0 rfl 4 _ _ rfl _ _ (.bool false) rfl rfl rfl _ _ rfl rfl (by simp [lRow]) ?_; clear H; intro W H; (try simp only [logL, List.set_cons_zero, List.set_cons_succ] at H); (try simp only [lSet2, lSet3, lSet4, lSet5, lSet6, lSet7, lSet8] at H))
    | (go_at_call 134; (with_reducible refine (bad_ok _).mono ?_); rintro e W' ⟨rfl, rfl⟩))
  go_ret
  exact ⟨rfl, H.bunTo⟩

theorem at_calls {w : World} {g gd gm : Nat} {X : LS} {M : DataW Value} {rm : Nat → Prop} {n : Nat} {D : DS} {own rd : Nat → Prop} (hb : Bundle w (logL g gd gm X M rm n D own rd)) (z : Int) (p : Nat) (hz : (p : Int) = z) (hr : 0 < X.ring) (hrm : X.ring ≤ 512) :
    Calls Tryz.prog 144 #[.pointer (some ⟨g, 0, none⟩), .int .i64 z] w fun e w' => e = .returned (.int .i64 ((2 + p % X.ring : Nat) : Int)) ∧ w = w' := by
  have H := hb.open_
  subst hz
  have h1 : ¬ ((X.ring : Int) = 0) := by omega
  have h2 : ((X.ring : Int) == 0) = false := beq_eq_false_iff_ne.2 h1
  have hlt : p % X.ring < X.ring := Nat.mod_lt _ hr
  have ht : ((p : Int)).tmod (X.ring : Int) = ((p % X.ring : Nat) : Int) := by rw [Int.tmod_eq_emod_of_nonneg (by omega)]; rfl
  obtain ⟨q, hq⟩ : ∃ q, p % X.ring = q := ⟨_, rfl⟩
  rw [hq] at ht hlt ⊢
  have hqi : (q : Int) < 512 := by omega
  have hq0 : 0 ≤ (q : Int) := by omega
  clear hb hq hlt
  go_enter Tryz.func144, Tryz.ntmps144
  go_wp2_with (first | (refine wpList_load1_st rfl 3 _ rfl _ _ rfl _ _ _ (H.at 0 rfl) _ Tryz.underlying3 rfl _ (lRow6 _ _ _ _ _ _ _ _ _) ?_))
  go_ret
  exact ⟨by rw [show ((2 + q : Nat) : Int) = 2 + (q : Int) by omega]; rfl, rfl⟩

theorem home_calls {w : World} {g gd gm : Nat} {X : LS} {M : DataW Value} {rm : Nat → Prop} {n : Nat} {D : DS} {own rd : Nat → Prop} (hb : Bundle w (logL g gd gm X M rm n D own rd)) (z : Int) (i : Nat) (hz : (i : Int) = z) (hi : i ≤ 1000000) (hrm : X.ring ≤ 512) :
    Calls Tryz.prog 70 #[.pointer (some ⟨g, 0, none⟩), .int .i64 z] w fun e w' => e = .returned (.int .i64 ((2 + X.ring + i : Nat) : Int)) ∧ w = w' := by
  have H := hb.open_
  subst hz
  have h1 : (X.ring : Int) ≤ 512 := by omega
  have h0 : 0 ≤ (X.ring : Int) := by omega
  have h2 : (i : Int) ≤ 1000000 := by omega
  have h3 : 0 ≤ (i : Int) := by omega
  clear hb
  go_enter Tryz.func70, Tryz.ntmps70
  go_wp2_with (first | (refine wpList_load1_st rfl 3 _ rfl _ _ rfl _ _ _ (H.at 0 rfl) _ Tryz.underlying3 rfl _ (lRow6 _ _ _ _ _ _ _ _ _) ?_))
  go_ret
  exact ⟨by rw [show ((2 + X.ring + i : Nat) : Int) = 2 + (X.ring : Int) + (i : Int) by omega]; rfl, rfl⟩

/-- read, on a disk that does not fail. -/
theorem lread_ok {w : World} {g gd gm : Nat} {X : LS} {M : DataW Value} {rm : Nat → Prop} {n : Nat} {D : DS} {own rd : Nat → Prop} (hb : Bundle w (logL g gd gm X M rm n D own rd)) (hdd : D.dead = false) (z : Int) (k : Nat) (hz : (k : Int) = z) (hk : k < D.last.length) :
    Calls Tryz.prog 69 #[.pointer (some ⟨g, 0, none⟩), .int .i64 z] w fun e w' => ∃ gc cap junk, e = .returned (.tuple #[.slice (some ⟨gc, 0, none⟩) 256 cap, .nilIface]) ∧ (D.sect k).length = 256 ∧ 256 ≤ cap ∧ w.heap.size ≤ gc ∧
      BunTo w (ownL (logL g gd gm X M rm n D own rd)) (rdL (logL g gd gm X M rm n D own rd)) (logL g gd gm X M rm n D own rd ++ [blk gc (.cells (byteV (D.sect k) ++ junk).toArray 5 (0, 0))]) w' := by
  have H := hb.open_
  obtain ⟨l, hl⟩ : ∃ l, D.sect k = l := ⟨_, rfl⟩
  have HS := Lib.hid hl
  have HK := Lib.hid hk
  have HD := Lib.hid hdd
  have HZ := Lib.hid hz
  clear hb hk hdd hl hz
  go_enter Tryz.func69, Tryz.ntmps69
  go_wp2_with (first
    | (refine wpList_load1_st rfl 24 _ rfl _ _ rfl _ _ _ (H.at 0 rfl) _ Tryz.underlying24 rfl _ (lRow0 _ _ _ _ _ _ _ _ _) ?_)
    | (go_at_call 106; go_loud ((with_reducible refine (read_at (H.at 3 rfl) _ k HZ.out HK.out HD.out HS.out).mono ?_); rintro e W ⟨gc, cap, junk, rfl, hl2, ha2, hag, hac, hbl⟩; replace H := H.add (Fix.of_below hbl _) (blk gc _) hac (fun k hk => by rw [show k = gc from hk]; exact hag) (fun k hk => hk.elim); clear hac hbl; simp only [logL, List.nil_append, List.cons_append] at H))
    | (go_at_call 107; go_loud ((with_reducible refine (does_ok (g := g) (gd := gd) (gm := gm) (X := X) (M := M) (rm := rm) (n := n) (D := D) (own := own) (rd := rd) ((H.take 4).bundle)).mono ?_); rintro e W' ⟨rfl, hto⟩; replace H := hto.front (R := [blk gc _]) H; clear hto; simp only [logL, List.nil_append, List.cons_append] at H)))
  refine bodyPost_ret (results_tmp2 rfl _ _ _) rfl ?_
  rw [HS.out]
  exact ⟨gc, cap, junk, rfl, hl2, ha2, hag, H.bunTo⟩

end Go.Proofs.YtlgciddnpinpbaaGreatDoor

namespace Go.Proofs.YtlgciddnpinpbaaGreatDoor
open Go.RowKit
set_option linter.unusedSimpArgs false
set_option linter.unusedVariables false
set_option maxRecDepth 4000

theorem ArgB.sub {w : World} {own own' : Nat → Prop} {v : Value} {l : List UInt8} (h : ArgB w own v l) (hs : ∀ k, own' k → own k) : ArgB w own' v l := by
  obtain ⟨⟨g, off, cap, h1, h2, h3, h4⟩, h5⟩ := h
  refine ⟨⟨g, off, cap, h1, h2, h3, ?_⟩, h5⟩
  rcases h4 with h4 | ⟨h4, h6⟩
  · exact .inl h4
  · exact .inr ⟨h4, fun e => h6 (hs _ e)⟩

theorem ownL_disk {g gd gm : Nat} {X : LS} {M : DataW Value} {rm : Nat → Prop} {n : Nat} {D : DS} {own rd : Nat → Prop} : ∀ k, own k → ownL (logL g gd gm X M rm n D own rd) k :=
  fun k hk => ⟨_, List.mem_cons_of_mem _ (List.mem_cons_of_mem _ (List.mem_cons_of_mem _ (List.mem_cons_self ..))), hk⟩

/-- A block beside the bundle is none of it. -/
theorem St.notownL {M0 R0 : Nat → Prop} {w0 W : World} {Ls R : List Asrt} (H : St M0 R0 w0 W (Ls ++ R)) (j : Nat) {g : Nat} {x : Obj} (hj : R[j]? = some (blk g x)) : ¬ ownL Ls g := by
  rintro ⟨A, hA, hk⟩
  obtain ⟨i, hi⟩ := List.getElem?_of_mem hA
  have hil := (List.getElem?_eq_some_iff.1 hi).1
  refine (H.apart (Ls.length + j) i _ A (by rw [List.getElem?_append_right (by omega), Nat.add_sub_cancel_left]; exact hj) (by rw [List.getElem?_append_left hil]; exact hi) (by omega)).1 g rfl hk

/-- A log that is fine, on a disk that does not fail. -/
structure LogFine (X : LS) (n : Nat) (D : DS) (N u : Nat) : Prop where
  calm : Calm D N u
  fits : n + 2 + X.ring = N
  top : N ≤ 1900
  r1 : 8 ≤ X.ring
  r2 : X.ring ≤ 512
  n1 : 8 ≤ n
  place : X.place < X.ring
  lives : X.lives = D.lives
  full : (∀ k, X.m k = none) → X.free = (X.ring : Int)
  free : 0 ≤ X.free ∧ X.free ≤ (X.ring : Int)
  turn : 1 ≤ X.turn
  s : 1 ≤ X.s

theorem lwrite_ok {w : World} {g gd gm : Nat} {X : LS} {M : DataW Value} {rm : Nat → Prop} {n : Nat} {D : DS} {own rd : Nat → Prop} (hb : Bundle w (logL g gd gm X M rm n D own rd)) {N u : Nat} (hc : Calm D N u) (hu : u < 1000000) (z : Int) (k : Nat) (hz : (k : Int) = z) (hk : k < N)
    (v : Value) (l : List UInt8) (hv : ArgB w (ownL (logL g gd gm X M rm n D own rd)) v l) (hl : l.length = 256) :
    Calls Tryz.prog 143 #[.pointer (some ⟨g, 0, none⟩), .int .i64 z, v] w fun e w' => e = .returned .nilIface ∧ ∃ own' rd',
      BunTo w (ownL (logL g gd gm X M rm n D own rd)) (rdL (logL g gd gm X M rm n D own rd)) (logL g gd gm X M rm n (D.put k l) own' rd') w' := by
  have H := hb.open_
  have HC := Lib.hid hc
  have HK := Lib.hid hk
  have HU := Lib.hid hu
  have HZ := Lib.hid hz
  have HV := Lib.hid (hv.sub ownL_disk)
  have HL := Lib.hid hl
  clear hb hc hk hu hz hv hl
  go_enter Tryz.func143, Tryz.ntmps143
  go_wp2_with (first
    | (refine wpList_load1_st rfl 24 _ rfl _ _ rfl _ _ _ (H.at 0 rfl) _ Tryz.underlying24 rfl _ (lRow0 _ _ _ _ _ _ _ _ _) ?_)
    | (go_at_call 97; go_loud ((with_reducible refine (write_calm (H.at 3 rfl) HC.out HU.out _ k HZ.out HK.out _ l HV.out HL.out).mono ?_); rintro e W ⟨rfl, hto⟩; obtain ⟨own1, rd1, H1⟩ := DiskTo.step H 3 rfl hto; clear hto H HV; have H := H1; clear H1; simp only [logL, List.set_cons_zero, List.set_cons_succ] at H))
    | (go_at_call 107; go_loud ((with_reducible refine (does_ok (g := g) (gd := gd) (gm := gm) (X := X) (M := M) (rm := rm) (n := n) (D := D.put k l) (own := own1) (rd := rd1) H.bundle).mono ?_); rintro e W' ⟨rfl, hto⟩; replace H := hto.front (R := []) H; clear hto; simp only [logL, List.nil_append, List.cons_append, List.append_nil] at H)))
  go_ret
  exact ⟨rfl, own1, rd1, H.bunTo⟩

theorem lflush_ok {w : World} {g gd gm : Nat} {X : LS} {M : DataW Value} {rm : Nat → Prop} {n : Nat} {D : DS} {own rd : Nat → Prop} (hb : Bundle w (logL g gd gm X M rm n D own rd)) {N u : Nat} (hc : Calm D N u) :
    Calls Tryz.prog 145 #[.pointer (some ⟨g, 0, none⟩)] w fun e w' => e = .returned .nilIface ∧ ∃ own' rd',
      BunTo w (ownL (logL g gd gm X M rm n D own rd)) (rdL (logL g gd gm X M rm n D own rd)) (logL g gd gm X M rm n D.flushed own' rd') w' := by
  have H := hb.open_
  have HC := Lib.hid hc
  clear hb hc
  go_enter Tryz.func145, Tryz.ntmps145
  go_wp2_with (first
    | (refine wpList_load1_st rfl 24 _ rfl _ _ rfl _ _ _ (H.at 0 rfl) _ Tryz.underlying24 rfl _ (lRow0 _ _ _ _ _ _ _ _ _) ?_)
    | (go_at_call 94; go_loud ((with_reducible refine (flush_calm (H.at 3 rfl) HC.out).mono ?_); rintro e W ⟨rfl, hto⟩; obtain ⟨own1, rd1, H1⟩ := DiskTo.step H 3 rfl hto; clear hto H; have H := H1; clear H1; simp only [logL, List.set_cons_zero, List.set_cons_succ] at H))
    | (go_at_call 107; go_loud ((with_reducible refine (does_ok (g := g) (gd := gd) (gm := gm) (X := X) (M := M) (rm := rm) (n := n) (D := D.flushed) (own := own1) (rd := rd1) H.bundle).mono ?_); rintro e W' ⟨rfl, hto⟩; replace H := hto.front (R := []) H; clear hto; simp only [logL, List.nil_append, List.cons_append, List.append_nil] at H)))
  go_ret
  exact ⟨rfl, own1, rd1, H.bunTo⟩

theorem homes_ok {w : World} {g gd gm : Nat} {X : LS} {M : DataW Value} {rm : Nat → Prop} {n : Nat} {D : DS} {own rd : Nat → Prop} (hb : Bundle w (logL g gd gm X M rm n D own rd)) {N : Nat} (hN : D.last.length = N) (hf : n + 2 + X.ring = N) (ht : N ≤ 1900) :
    Calls Tryz.prog 68 #[.pointer (some ⟨g, 0, none⟩)] w fun e w' => e = .returned (.int .i64 (n : Int)) ∧
      BunTo w (ownL (logL g gd gm X M rm n D own rd)) (rdL (logL g gd gm X M rm n D own rd)) (logL g gd gm X M rm n D own rd) w' := by
  have H := hb.open_
  obtain ⟨y, hy⟩ : ∃ y, (D.last.length : Int) = y := ⟨_, rfl⟩
  have HY := Lib.hid hy
  have h1 : 0 ≤ (X.ring : Int) := by omega
  have h2 : (X.ring : Int) ≤ y - 2 := by omega
  have h3 : y ≤ 1900 := by omega
  have w1 : IntKind.i64.wrap (y - 2) = y - 2 := by rw [IntKind.wrap_i64]; omega
  have w2 : IntKind.i64.wrap (y - 2 - (X.ring : Int)) = (n : Int) := by rw [IntKind.wrap_i64]; omega
  clear hb hy hN hf ht
  go_enter Tryz.func68, Tryz.ntmps68
  go_wp2
  replace H := H.drew
  have c0 := row_cell (H.at 0 rfl) (lRow0 _ _ _ _ _ _ _ _ _)
  have c6 := row_cell (H.at 0 rfl) (lRow6 _ _ _ _ _ _ _ _ _)
  go_region_held3 (fun w' => w'.cell? ⟨g, 0, none⟩ = some (.pointer (some ⟨gd, 0, none⟩)) ∧ w'.cell? ⟨g, 6, none⟩ = some (.int .i64 (X.ring : Int))) (first | exact ⟨c0, c6⟩) (first
    | (go_at_call 91; go_loud ((refine (len_calls (H.at 3 rfl)).mono ?_); rintro e W' ⟨rfl, rfl⟩; rw [HY.out])))
  go_wp2
  go_ret
  exact ⟨rfl, H.bunTo⟩

theorem none_ok {w : World} {g gd gm : Nat} {X : LS} {M : DataW Value} {rm : Nat → Prop} {n : Nat} {D : DS} {own rd : Nat → Prop} (hb : Bundle w (logL g gd gm X M rm n D own rd)) :
    Calls Tryz.prog 71 #[.pointer (some ⟨g, 0, none⟩)] w fun e w' => e = .returned (.bool false) ∧ w = w' := by
  have H := hb.open_
  clear hb
  go_enter Tryz.func71, Tryz.ntmps71
  go_wp2_with (first | (refine wpList_load1_st rfl 24 _ rfl _ _ rfl _ _ _ (H.at 0 rfl) _ Tryz.underlying24 rfl _ (lRow0 _ _ _ _ _ _ _ _ _) ?_))
  go_ret
  exact ⟨rfl, rfl⟩

theorem none_nil (w : World) : Calls Tryz.prog 71 #[.pointer none] w fun e w' => e = .returned (.bool true) ∧ w = w' := by
  go_enter Tryz.func71, Tryz.ntmps71
  go_wp2
  go_ret
  exact ⟨rfl, rfl⟩

theorem may_ok {w : World} {g gd gm : Nat} {X : LS} {M : DataW Value} {rm : Nat → Prop} {n : Nat} {D : DS} {own rd : Nat → Prop} (hb : Bundle w (logL g gd gm X M rm n D own rd)) (hl : X.lives = D.lives) :
    Calls Tryz.prog 67 #[.pointer (some ⟨g, 0, none⟩)] w fun e w' => e = .returned (.int .i64 0) ∧
      BunTo w (ownL (logL g gd gm X M rm n D own rd)) (rdL (logL g gd gm X M rm n D own rd)) (logL g gd gm X M rm n D own rd) w' := by
  have HN := Lib.hid (none_ok hb)
  have H := hb.open_
  have HL := Lib.hid hl
  clear hb hl
  go_enter Tryz.func67, Tryz.ntmps67
  go_wp2_with (first | (go_at_call 71; (with_reducible refine (HN.out).mono ?_); rintro e W' ⟨rfl, rfl⟩))
  replace H := H.drew
  have c0 := row_cell (H.at 0 rfl) (lRow0 _ _ _ _ _ _ _ _ _)
  have c1 := row_cell (H.at 0 rfl) (lRow1 _ _ _ _ _ _ _ _ _)
  go_region_held3 (fun w' => w'.cell? ⟨g, 0, none⟩ = some (.pointer (some ⟨gd, 0, none⟩)) ∧ w'.cell? ⟨g, 1, none⟩ = some (.int .i64 X.lives)) (first | exact ⟨c0, c1⟩) (first
    | (go_at_call 99; go_loud ((refine (lives_at (H.at 3 rfl) (z := X.lives) HL.out.symm).mono ?_); rintro e W' ⟨rfl, rfl⟩)))
  clear c0 c1
  go_wp2_with (first | (refine wpList_load1_st rfl 4 _ rfl _ _ rfl _ _ _ (H.at 0 rfl) _ Tryz.underlying4 rfl _ (lRow2 _ _ _ _ _ _ _ _ _) ?_))
  go_ret
  exact ⟨rfl, H.bunTo⟩

theorem Homes_ok {w : World} {g gd gm : Nat} {X : LS} {M : DataW Value} {rm : Nat → Prop} {n : Nat} {D : DS} {own rd : Nat → Prop} (hb : Bundle w (logL g gd gm X M rm n D own rd)) {N : Nat} (hN : D.last.length = N) (hf : n + 2 + X.ring = N) (ht : N ≤ 1900) :
    Calls Tryz.prog 23 #[.pointer (some ⟨g, 0, none⟩)] w fun e w' => e = .returned (.int .i64 (n : Int)) ∧
      BunTo w (ownL (logL g gd gm X M rm n D own rd)) (rdL (logL g gd gm X M rm n D own rd)) (logL g gd gm X M rm n D own rd) w' := by
  have HN := Lib.hid (none_ok hb)
  have HH := Lib.hid (homes_ok hb hN hf ht)
  clear hb hN hf ht
  go_enter Tryz.func23, Tryz.ntmps23
  go_wp2_with (first | (go_at_call 71; (with_reducible refine (HN.out).mono ?_); rintro e W' ⟨rfl, rfl⟩) | (go_at_call 68; (with_reducible refine (HH.out).mono ?_); rintro e W' ⟨rfl, hto⟩))
  go_ret
  exact ⟨rfl, hto⟩


theorem Turn_ok {w : World} {g gd gm : Nat} {X : LS} {M : DataW Value} {rm : Nat → Prop} {n : Nat} {D : DS} {own rd : Nat → Prop} (hb : Bundle w (logL g gd gm X M rm n D own rd)) :
    Calls Tryz.prog 57 #[.pointer (some ⟨g, 0, none⟩)] w fun e w' => e = .returned (.int .u64 (X.turn : Int)) ∧ w = w' := by
  have HN := Lib.hid (none_ok hb)
  have H := hb.open_
  clear hb
  go_enter Tryz.func57, Tryz.ntmps57
  go_wp2_with (first | (go_at_call 71; (with_reducible refine (HN.out).mono ?_); rintro e W' ⟨rfl, rfl⟩) | (refine wpList_load1_st rfl 104 _ rfl _ _ rfl _ _ _ (H.at 0 rfl) _ Tryz.underlying104 rfl _ (lRow4 _ _ _ _ _ _ _ _ _) ?_))
  go_ret
  exact ⟨rfl, rfl⟩

end Go.Proofs.YtlgciddnpinpbaaGreatDoor

namespace Go.Proofs.YtlgciddnpinpbaaGreatDoor
open Go.RowKit
set_option linter.unusedSimpArgs false
set_option linter.unusedVariables false
set_option maxRecDepth 4000

/-- A call that returns a new slice of m bytes. -/
def OutB (w w' : World) (e : Ending) (l : List UInt8) (m : Nat) : Prop :=
  ∃ g cap junk, e = .returned (.slice (some ⟨g, 0, none⟩) m cap) ∧ l.length = m ∧ m ≤ cap ∧ (byteV l ++ junk).length = cap ∧ cap ≤ maxLen ∧ w.heap.size ≤ g ∧
    w'.heap[g]? = some (.cells (byteV l ++ junk).toArray 5 (0, 0)) ∧ Below w.heap.size w w'

def anchorB (s turn place ring : Nat) : List UInt8 :=
  ((((Lib.leBytes 8 s ++ Lib.leBytes 8 turn) ++ Lib.leBytes 4 place) ++ Lib.leBytes 4 ring) ++ List.replicate 224 0) ++ Lib.leBytes 8 s
theorem anchorB_len (s turn place ring : Nat) : (anchorB s turn place ring).length = 256 := by simp [anchorB, Lib.leBytes_length]

def anchorV (s turn place ring : Nat) : Value := .agg #[.int .u64 (s : Int), .int .u64 (turn : Int), .int .i64 (place : Int), .int .i64 (ring : Int)]
def anchorR (s turn place ring : Nat) : List Value := [.int .u64 (s : Int), .int .u64 (turn : Int), .int .i64 (place : Int), .int .i64 (ring : Int)]
theorem anchorR0 (a b c d : Nat) : (anchorR a b c d).toArray[0]? = some (.int .u64 (a : Int)) := rfl
theorem anchorR1 (a b c d : Nat) : (anchorR a b c d).toArray[1]? = some (.int .u64 (b : Int)) := rfl
theorem anchorR2 (a b c d : Nat) : (anchorR a b c d).toArray[2]? = some (.int .i64 (c : Int)) := rfl
theorem anchorR3 (a b c d : Nat) : (anchorR a b c d).toArray[3]? = some (.int .i64 (d : Int)) := rfl

set_option maxHeartbeats 1000000 in
theorem bytes_calls (s turn place ring : Nat) (w : World) (hs : s < 9223372036854775808) (ht : turn < 9223372036854775808) (hp : place < 1000000) (hr : ring < 1000000) :
    Calls Tryz.prog 98 #[anchorV s turn place ring] w fun e w' => OutB w w' e (anchorB s turn place ring) 256 := by
  have H := St.nil NoBlk NoBlk w
  have tok1 : True := trivial
  have tok2 : True := trivial
  have tok3 : True := trivial
  have tok4 : True := trivial
  have tok5 : True := trivial
  have hs1 : s < 18446744073709551616 := by omega
  have ht1 : turn < 18446744073709551616 := by omega
  have hp1 : IntKind.u64.wrap (place : Int) = (place : Int) := by rw [IntKind.wrap_u64]; omega
  have hr1 : IntKind.u64.wrap (ring : Int) = (ring : Int) := by rw [IntKind.wrap_u64]; omega
  unfold anchorV
  go_enter Tryz.func98, Tryz.ntmps98
  go_wp2_with (first
    | (refine wpList_box_st H rfl 130 _ rfl _ rfl ?_; clear H; intro W g0 H; replace H : St NoBlk NoBlk w W [blk g0 (.cells (anchorR s turn place ring).toArray 130 (0, 0))] := H))
  replace H := H.drew
  have c0 := row_cell (H.at 0 rfl) (anchorR0 _ _ _ _)
  have c1 := row_cell (H.at 0 rfl) (anchorR1 _ _ _ _)
  go_region_held3 (fun w' => w'.cell? ⟨g0, 0, none⟩ = some (.int .u64 (s : Int)) ∧ w'.cell? ⟨g0, 1, none⟩ = some (.int .u64 (turn : Int))) (first | exact ⟨c0, c1⟩ | exact ⟨d0, d1⟩ | exact ⟨e0, e1⟩) (first
    | (go_at_call 111; have _t := tok1; clear _t; (refine (put_at _ [] _ _ s 8 8 _ (.inl ⟨rfl, rfl⟩) rfl rfl rfl (by simp) (by omega) (by omega) hs1).mono ?_); rintro e W1 ⟨g1, cap1, junk1, rfl, hl1, hc1, hj1, hm1, hg1, hb1, hbl⟩; replace H := H.add (Fix.of_below hbl _) (blk g1 _) hb1 (fun k hk => by rw [show k = g1 from hk]; exact hg1) (fun k hk => hk.elim); clear hb1 hbl tok1; simp only [List.nil_append, List.cons_append] at H hl1; have d0 := row_cell (H.at 0 rfl) (anchorR0 _ _ _ _); have d1 := row_cell (H.at 0 rfl) (anchorR1 _ _ _ _))
    | (go_at_call 111; have _t := tok2; clear _t; go_loud ((refine (put_at _ (Lib.leBytes 8 s) _ _ turn 8 16 _ (argS_front (H.at 1 rfl) hl1 hc1) rfl rfl (by rw [hl1]) (by rw [hl1]; omega) (by omega) (by omega) ht1).mono ?_); rintro e W2 ⟨g2, cap2, junk2, rfl, hl2, hc2, hj2, hm2, hg2, hb2, hbl⟩; replace H := (H.take 1).add (Fix.of_below hbl _) (blk g2 _) hb2 (fun k hk => by rw [show k = g2 from hk]; exact hg2) (fun k hk => hk.elim); clear hb2 hbl tok2; simp only [List.take_succ_cons, List.take_zero, List.nil_append, List.cons_append] at H; have e0 := row_cell (H.at 0 rfl) (anchorR0 _ _ _ _); have e1 := row_cell (H.at 0 rfl) (anchorR1 _ _ _ _))))
  clear c0 c1 d0 d1 e0 e1
  go_wp2
  replace H := H.drew
  have c0 := row_cell (H.at 0 rfl) (anchorR2 _ _ _ _)
  have c1 := row_cell (H.at 0 rfl) (anchorR3 _ _ _ _)
  have hp2 : place < 18446744073709551616 := by omega
  have hr2 : ring < 18446744073709551616 := by omega
  go_region_held3 (fun w' => w'.cell? ⟨g0, 2, none⟩ = some (.int .i64 (place : Int)) ∧ w'.cell? ⟨g0, 3, none⟩ = some (.int .i64 (ring : Int))) (first | exact ⟨c0, c1⟩ | exact ⟨d0, d1⟩ | exact ⟨e0, e1⟩) (first
    | (go_at_call 111; have _t := tok3; clear _t; go_loud ((refine (put_at _ (Lib.leBytes 8 s ++ Lib.leBytes 8 turn) _ _ place 4 20 _ (argS_front (H.at 1 rfl) hl2 hc2) rfl rfl (by rw [hl2]) (by rw [hl2]; omega) (by omega) (by omega) hp2).mono ?_); rintro e W2 ⟨g3, cap3, junk3, rfl, hl3, hc3, hj3, hm3, hg3, hb3, hbl⟩; replace H := (H.take 1).add (Fix.of_below hbl _) (blk g3 _) hb3 (fun k hk => by rw [show k = g3 from hk]; exact hg3) (fun k hk => hk.elim); clear hb3 hbl tok3; simp only [List.take_succ_cons, List.take_zero, List.nil_append, List.cons_append] at H; have d0 := row_cell (H.at 0 rfl) (anchorR2 _ _ _ _); have d1 := row_cell (H.at 0 rfl) (anchorR3 _ _ _ _)))
    | (go_at_call 111; have _t := tok4; clear _t; go_loud ((refine (put_at _ ((Lib.leBytes 8 s ++ Lib.leBytes 8 turn) ++ Lib.leBytes 4 place) _ _ ring 4 24 _ (argS_front (H.at 1 rfl) hl3 hc3) rfl rfl (by rw [hl3]) (by rw [hl3]; omega) (by omega) (by omega) hr2).mono ?_); rintro e W2 ⟨g4, cap4, junk4, rfl, hl4, hc4, hj4, hm4, hg4, hb4, hbl⟩; replace H := (H.take 1).add (Fix.of_below hbl _) (blk g4 _) hb4 (fun k hk => by rw [show k = g4 from hk]; exact hg4) (fun k hk => hk.elim); clear hb4 hbl tok4; simp only [List.take_succ_cons, List.take_zero, List.nil_append, List.cons_append] at H; have e0 := row_cell (H.at 0 rfl) (anchorR2 _ _ _ _); have e1 := row_cell (H.at 0 rfl) (anchorR3 _ _ _ _))))
  clear c0 c1 d0 d1 e0 e1
  have hz : (List.replicate 224 (Value.int .u8 0)) = byteV (List.replicate 224 0) := by simp [byteV]
  go_wp2_with (first
    | (refine wpList_appz_st H 1 rfl _ _ 22 3 rfl _ Tryz.underlying22 _ Tryz.underlying3 _ _ info_u8 rfl rfl g4 24 cap4 rfl _ rfl hc4 hj4 hm4 _ 224 rfl (by omega) (by simp only [maxLen]; omega) (by omega) ?_; clear H; intro W g5 cap5 junk5 H hj5 hc5 hm5; simp only [List.set_cons_zero, List.set_cons_succ] at H; rw [take_byteV _ _ _ hl4, hz] at H hj5; rw [show byteV (((Lib.leBytes 8 s ++ Lib.leBytes 8 turn) ++ Lib.leBytes 4 place) ++ Lib.leBytes 4 ring) ++ byteV (List.replicate 224 0) = byteV ((((Lib.leBytes 8 s ++ Lib.leBytes 8 turn) ++ Lib.leBytes 4 place) ++ Lib.leBytes 4 ring) ++ List.replicate 224 0) by simp [byteV]] at H hj5)
    | (refine wpList_load1_st rfl 104 _ rfl _ _ rfl _ _ _ (H.at 0 rfl) _ Tryz.underlying104 rfl _ (anchorR0 _ _ _ _) ?_)
    | (go_at_call 111; have _t := tok5; clear _t; go_loud ((refine (put_at _ ((((Lib.leBytes 8 s ++ Lib.leBytes 8 turn) ++ Lib.leBytes 4 place) ++ Lib.leBytes 4 ring) ++ List.replicate 224 0) _ _ s 8 256 _ (argS_front (H.at 1 rfl) (by rw [List.length_append, hl4, List.length_replicate]) hc5) rfl rfl (by rw [List.length_append, hl4, List.length_replicate]) (by rw [List.length_append, hl4, List.length_replicate]; omega) (by omega) (by omega) hs1).mono ?_); rintro e W2 ⟨g6, cap6, junk6, rfl, hl6, hc6, hj6, hm6, hg6, hb6, hbl⟩; have hsz := H.fix.size; clear tok5; replace H := H.stay (Fix.of_below hbl NoBlk))))
  go_ret
  exact ⟨g6, cap6, junk6, rfl, hl6, hc6, hj6, hm6, Nat.le_trans hsz hg6, hb6, H.fix.below⟩

end Go.Proofs.YtlgciddnpinpbaaGreatDoor

namespace Go.Proofs.YtlgciddnpinpbaaGreatDoor
open Go.RowKit
set_option linter.unusedSimpArgs false
set_option linter.unusedVariables false
set_option maxRecDepth 4000

/-- Bytes that are read, and not written. -/
def byA (g off : Nat) (l : List UInt8) : Asrt where
  own _ := False
  rd k := k = g
  prop W := g < W.heap.size ∧ BytesAt W g off l
  stable W W' h hp := by
    have hg := h g (.inr rfl)
    refine ⟨?_, hp.2.same (.inr hg)⟩
    rw [Array.getElem?_eq_getElem hp.1] at hg
    exact (Array.getElem?_eq_some_iff.1 hg).1
  bound W hp k hk := by
    rcases hk with hk | rfl
    · exact hk.elim
    · exact hp.1

/-- A block becomes bytes that are read. -/
theorem St.toBy {M0 R0 : Nat → Prop} {w0 W : World} {L : List Asrt} (H : St M0 R0 w0 W L) (i : Nat) {g : Nat} {l : List UInt8} {t : TypeId} {fr : Nat × Nat} (hi : L[i]? = some (blk g (.cells (byteV l).toArray t fr))) : St M0 R0 w0 W (L.set i (byA g 0 l)) :=
  H.step i hi (Fix.refl _ _) ⟨(Array.getElem?_eq_some_iff.1 (H.at i hi : W.heap[g]? = some _)).1, BytesAt.whole (H.at i hi)⟩ ⟨fun _ h => h.elim, fun k hk => .inl hk⟩

theorem argB_by {M0 R0 : Nat → Prop} {w0 W : World} {L : List Asrt} (H : St M0 R0 w0 W L) (i j : Nat) {gd g off n cap : Nat} {D : DS} {own rd : Nat → Prop} {l : List UInt8} (hi : L[i]? = some (dA gd D own rd)) (hj : L[j]? = some (byA g off l)) (hne : i ≠ j) (hl : l.length = n) (hc : n ≤ cap) (hm : n ≤ 1048576) : ArgB W own (.slice (some ⟨g, off, none⟩) n cap) l :=
  ⟨⟨g, off, cap, by rw [hl], by omega, (H.at j hj : _ ∧ BytesAt W g off l).2, .inr ⟨(H.at j hj : _ ∧ BytesAt W g off l).1, fun ho => (H.apart i j _ _ hi hj hne).2.1 g ho rfl⟩⟩, by omega⟩

theorem argB_front {w : World} {own : Nat → Prop} {g n cap : Nat} {l : List UInt8} {junk : List Value} {t : TypeId} {fr : Nat × Nat} (hg : w.heap[g]? = some (.cells (byteV l ++ junk).toArray t fr)) (hno : ¬ own g) (hl : l.length = n) (hc : n ≤ cap) (hm : n ≤ 1048576) : ArgB w own (.slice (some ⟨g, 0, none⟩) n cap) l :=
  ⟨⟨g, 0, cap, by rw [hl], by omega, BytesAt.front hg, .inr ⟨(Array.getElem?_eq_some_iff.1 hg).1, hno⟩⟩, by omega⟩

/-- Sectors a to b - 1 are written. -/
def DS.fill (D : DS) (a b : Nat) (l : List UInt8) : DS := { D with wait := fun j => if a ≤ j ∧ j < b then some l else D.wait j, writes := D.writes + ((b - a : Nat) : Int) }

theorem DS.fill_none (D : DS) (a : Nat) (l : List UInt8) : D.fill a a l = D := by
  have : (fun j => if a ≤ j ∧ j < a then some l else D.wait j) = D.wait := by
    funext j; rw [if_neg (by omega)]
  unfold DS.fill
  rw [this, Nat.sub_self]
  simp

theorem DS.fill_put (D : DS) (a b : Nat) (h : a ≤ b) (l : List UInt8) : (D.fill a b l).put b l = D.fill a (b + 1) l := by
  have : (fun j => if j = b then some l else if a ≤ j ∧ j < b then some l else D.wait j) = fun j => if a ≤ j ∧ j < b + 1 then some l else D.wait j := by
    funext j
    by_cases e : j = b
    · rw [if_pos e, if_pos (by omega)]
    · rw [if_neg e]
      by_cases e2 : a ≤ j ∧ j < b
      · rw [if_pos e2, if_pos (by omega)]
      · rw [if_neg e2, if_neg (by omega)]
  unfold DS.fill DS.put
  simp only [this]
  congr 1
  omega

theorem Calm.fill {D : DS} {n w : Nat} (h : Calm D n w) (a b : Nat) (l : List UInt8) : Calm (D.fill a b l) n (w + (b - a)) :=
  ⟨h.len, h.dead, h.armed, by show D.writes + ((b - a : Nat) : Int) = _; rw [h.writes]; omega⟩

theorem fill_calls {w : World} {gd g off cap : Nat} {D : DS} {own rd : Nat → Prop} {l : List UInt8} (hb : Bundle w [dA gd D own rd, byA g off l]) {N u : Nat} (hc : Calm D N u) (hu : u + N < 1000000) (a b : Nat) (za zb : Int) (hza : (a : Int) = za) (hzb : (b : Int) = zb) (hab : a ≤ b) (hbN : b ≤ N) (hl : l.length = 256) (hcap : 256 ≤ cap) :
    Calls Tryz.prog 93 #[.pointer (some ⟨gd, 0, none⟩), .int .i64 za, .int .i64 zb, .slice (some ⟨g, off, none⟩) 256 cap] w fun e w' => e = .returned (.int .i64 0) ∧ ∃ own' rd',
      BunTo w (ownL [dA gd D own rd, byA g off l]) (rdL [dA gd D own rd, byA g off l]) [dA gd (D.fill a b l) own' rd', byA g off l] w' := by
  have H := hb.open_
  subst hza hzb
  have HC := Lib.hid hc
  have HU := Lib.hid hu
  have HL := Lib.hid hl
  have HP := Lib.hid hcap
  have HN := Lib.hid hbN
  have hab2 : (a : Int) ≤ (b : Int) := by omega
  clear hb hc hu hl hcap
  have hb9 : (b : Int) < 1000000 := by have := HU.out; omega
  have ha0 : 0 ≤ (a : Int) := by omega
  go_enter Tryz.func93, Tryz.ntmps93
  go_wp2
  go_loopw [9, 10] (fun i _ wr => ∃ (j : Nat) (own' rd' : Nat → Prop), i = .int .i64 (j : Int) ∧ a ≤ j ∧ j ≤ b ∧ St (ownL [dA gd D own rd, byA g off l]) (rdL [dA gd D own rd, byA g off l]) w wr [dA gd (D.fill a j l) own' rd', byA g off l]) (fun i _ _ => b - (intOf i).toNat)
  case atStart => exact ⟨a, own, rd, rfl, Nat.le_refl _, hab, by rw [DS.fill_none]; exact H⟩
  case round =>
    clear H
    obtain ⟨j, own', rd', rfl, haj, hjb, H⟩ := hrel
    rcases Nat.lt_or_ge j b with hlt | hge
    · have hji : (j : Int) < (b : Int) := by omega
      have hj0 : 0 ≤ (j : Int) := by omega
      have HJ := Lib.hid haj
      have HK := Lib.hid hlt
      clear haj hjb hlt
      go_wp2_with (first
        | (go_at_call 97; go_loud ((with_reducible refine (write_calm (H.at 0 rfl) (HC.out.fill a j l) (by have := HU.out; have := HN.out; have := HK.out; omega) _ j rfl (by have := HN.out; have := HK.out; omega) _ l (argB_by H 0 1 rfl rfl (by decide) HL.out HP.out (by omega)) HL.out).mono ?_); rintro e W ⟨rfl, hto⟩; obtain ⟨own1, rd1, H1⟩ := DiskTo.step H 0 rfl hto; clear hto H; have H := H1; clear H1; simp only [List.set_cons_zero, List.set_cons_succ] at H; rw [DS.fill_put _ _ _ HJ.out] at H)))
      go_roundw
      case rel => exact ⟨j + 1, own1, rd1, congrArg _ (by omega), by have := HJ.out; omega, HK.out, H⟩
      case measure => have := HK.out; simp [intOf]; omega
    · obtain rfl : j = b := by omega
      have hji : ¬ ((j : Int) < (j : Int)) := by omega
      go_wp2
      go_ret
      exact ⟨rfl, own', rd', H.bunTo⟩

end Go.Proofs.YtlgciddnpinpbaaGreatDoor

namespace Go.Proofs.YtlgciddnpinpbaaGreatDoor
open Go.RowKit
set_option linter.unusedSimpArgs false
set_option linter.unusedVariables false
set_option maxRecDepth 4000

/-- What Format's closures hold: the disk, the noughts, the variables d, ring, none. -/
def fmtL (gd gb gr g g5 : Nat) (D : DS) (own rd : Nat → Prop) (ring : Nat) : List Asrt :=
  [dA gd D own rd, byA g 0 noSect, blk gb (.cells #[.pointer (some ⟨gd, 0, none⟩)] 24 (0, 0)), blk gr (.cells #[.int .i64 (ring : Int)] 3 (0, 0)), blk g5 (.cells #[.slice (some ⟨g, 0, none⟩) 256 256] 22 (0, 0))]

theorem fmt1_calls {w : World} {gd gb gr g g5 : Nat} {D : DS} {own rd : Nat → Prop} {ring : Nat} (hb : Bundle w (fmtL gd gb gr g g5 D own rd ring)) {N u : Nat} (hc : Calm D N u) (hu : u + N < 1000000) (hN : 2 ≤ N) :
    Calls Tryz.prog 92 #[.pointer (some ⟨gb, 0, none⟩), .pointer (some ⟨g5, 0, none⟩)] w fun e w' => e = .returned (.int .i64 0) ∧ ∃ own' rd', BunTo w (ownL (fmtL gd gb gr g g5 D own rd ring)) (rdL (fmtL gd gb gr g g5 D own rd ring)) (fmtL gd gb gr g g5 (D.fill 0 2 noSect) own' rd' ring) w' := by
  have H := hb.open_
  have HC := Lib.hid hc
  have HU := Lib.hid hu
  have HN := Lib.hid hN
  clear hb hc hu hN
  go_enter Tryz.func92, Tryz.ntmps92
  go_wp2_with (first
    | (refine wpList_load1_st rfl 24 _ rfl _ _ rfl _ _ _ (H.at 2 rfl) _ Tryz.underlying24 rfl (.pointer (some ⟨gd, 0, none⟩)) rfl ?_)
    | (refine wpList_load1_st rfl 22 _ rfl _ _ rfl _ _ _ (H.at 4 rfl) _ Tryz.underlying22 rfl (.slice (some ⟨g, 0, none⟩) 256 256) rfl ?_)
    | (go_at_call 93; go_loud ((with_reducible refine (fill_calls (gd := gd) (g := g) (off := 0) (cap := 256) (D := D) (own := own) (rd := rd) (l := noSect) (H.take 2).bundle HC.out HU.out 0 2 0 2 (by decide) (by decide) (by omega) HN.out noSect_len (by omega)).mono ?_); rintro e W ⟨rfl, own1, rd1, hto⟩; replace H := hto.front (R := [blk gb _, blk gr _, blk g5 _]) H; clear hto; simp only [List.nil_append, List.cons_append] at H)))
  go_ret
  exact ⟨rfl, own1, rd1, H.bunTo⟩

theorem fmt2_calls {w : World} {gd gb gr g g5 : Nat} {D : DS} {own rd : Nat → Prop} {ring : Nat} (hb : Bundle w (fmtL gd gb gr g g5 D own rd ring)) {N u : Nat} (hc : Calm D N u) (hu : u + N < 1000000) (hN : 2 ≤ N) :
    Calls Tryz.prog 95 #[.pointer (some ⟨gb, 0, none⟩), .pointer (some ⟨g5, 0, none⟩)] w fun e w' => e = .returned (.int .i64 0) ∧ ∃ own' rd', BunTo w (ownL (fmtL gd gb gr g g5 D own rd ring)) (rdL (fmtL gd gb gr g g5 D own rd ring)) (fmtL gd gb gr g g5 (D.fill 2 N noSect) own' rd' ring) w' := by
  have H := hb.open_
  have HC := Lib.hid hc
  have HU := Lib.hid hu
  have HN := Lib.hid hN
  have HL := Lib.hid (congrArg (fun n : Nat => (n : Int)) hc.len)
  clear hb hc hu hN
  go_enter Tryz.func95, Tryz.ntmps95
  go_wp2
  replace H := H.drew
  have c0 := row_cell (H.at 2 rfl) (off := 0) (v := .pointer (some ⟨gd, 0, none⟩)) rfl
  have c1 := row_cell (H.at 4 rfl) (off := 0) (v := .slice (some ⟨g, 0, none⟩) 256 256) rfl
  go_region_held3 (fun w' => w'.cell? ⟨gb, 0, none⟩ = some (.pointer (some ⟨gd, 0, none⟩)) ∧ w'.cell? ⟨g5, 0, none⟩ = some (.slice (some ⟨g, 0, none⟩) 256 256)) (first | exact ⟨c0, c1⟩ | exact ⟨d0, d1⟩) (first
    | (go_at_call 91; go_loud ((refine (len_calls (H.at 0 rfl)).mono ?_); rintro e W' ⟨rfl, rfl⟩; rw [HL.out]))
    | (go_at_call 93; go_loud ((refine (fill_calls (gd := gd) (g := g) (off := 0) (cap := 256) (D := D) (own := own) (rd := rd) (l := noSect) (H.take 2).bundle HC.out HU.out 2 N 2 _ (by decide) rfl HN.out (Nat.le_refl _) noSect_len (by omega)).mono ?_); rintro e W ⟨rfl, own1, rd1, hto⟩; replace H := hto.front (R := [blk gb _, blk gr _, blk g5 _]) H; clear hto; simp only [List.nil_append, List.cons_append] at H; have d0 := row_cell (H.at 2 rfl) (off := 0) (v := .pointer (some ⟨gd, 0, none⟩)) rfl; have d1 := row_cell (H.at 4 rfl) (off := 0) (v := .slice (some ⟨g, 0, none⟩) 256 256) rfl)))
  go_wp2
  go_ret
  exact ⟨rfl, own1, rd1, H.bunTo⟩

theorem fmt3_calls {w : World} {gd gb gr g g5 : Nat} {D : DS} {own rd : Nat → Prop} {ring : Nat} (hb : Bundle w (fmtL gd gb gr g g5 D own rd ring)) {N u : Nat} (hc : Calm D N u) (hu : u + N < 1000000) (hN : 2 ≤ N) (hr : ring < 1000000) :
    Calls Tryz.prog 96 #[.pointer (some ⟨gb, 0, none⟩), .pointer (some ⟨gr, 0, none⟩)] w fun e w' => e = .returned (.int .i64 0) ∧ ∃ own' rd', BunTo w (ownL (fmtL gd gb gr g g5 D own rd ring)) (rdL (fmtL gd gb gr g g5 D own rd ring)) (fmtL gd gb gr g g5 (D.put 1 (anchorB 1 1 0 ring)) own' rd' ring) w' := by
  have H := hb.open_
  have HC := Lib.hid hc
  have HU := Lib.hid hu
  have HN := Lib.hid hN
  have HR := Lib.hid hr
  clear hb hc hu hN
  go_enter Tryz.func96, Tryz.ntmps96
  go_wp2
  replace H := H.drew
  have c0 := row_cell (H.at 2 rfl) (off := 0) (v := .pointer (some ⟨gd, 0, none⟩)) rfl
  have c1 := row_cell (H.at 3 rfl) (off := 0) (v := .int .i64 (ring : Int)) rfl
  go_region_held3 (fun w' => w'.cell? ⟨gb, 0, none⟩ = some (.pointer (some ⟨gd, 0, none⟩)) ∧ w'.cell? ⟨gr, 0, none⟩ = some (.int .i64 (ring : Int))) (first | exact ⟨c0, c1⟩ | exact ⟨d0, d1⟩ | exact ⟨e0, e1⟩) (first
    | (go_at_call 98; go_loud ((refine (bytes_calls 1 1 0 ring _ (by omega) (by omega) (by omega) HR.out).mono ?_); rintro e W ⟨ga, capa, junka, rfl, hl6, hc6, hj6, hm6, hg6, hb6, hbl⟩; replace H := H.add (Fix.of_below hbl _) (blk ga _) hb6 (fun k hk => by rw [show k = ga from hk]; exact hg6) (fun k hk => hk.elim); clear hb6 hbl; simp only [fmtL, List.nil_append, List.cons_append] at H; have d0 := row_cell (H.at 2 rfl) (off := 0) (v := .pointer (some ⟨gd, 0, none⟩)) rfl; have d1 := row_cell (H.at 3 rfl) (off := 0) (v := .int .i64 (ring : Int)) rfl))
    | (go_at_call 97; go_loud ((refine (write_calm (H.at 0 rfl) HC.out (by have := HU.out; omega) 1 1 (by decide) (by have := HN.out; omega) _ (anchorB 1 1 0 ring) (argB_front (H.at 5 rfl) (H.notown 5 0 rfl rfl (by decide)) hl6 hc6 (by omega)) hl6).mono ?_); rintro e W2 ⟨rfl, hto⟩; obtain ⟨own1, rd1, H1⟩ := DiskTo.step H 0 rfl hto; clear hto H; have H := H1; clear H1; simp only [List.set_cons_zero, List.set_cons_succ] at H; have e0 := row_cell (H.at 2 rfl) (off := 0) (v := .pointer (some ⟨gd, 0, none⟩)) rfl; have e1 := row_cell (H.at 3 rfl) (off := 0) (v := .int .i64 (ring : Int)) rfl)))
  go_wp2
  go_ret
  exact ⟨rfl, own1, rd1, (H.take 5).bunTo⟩

end Go.Proofs.YtlgciddnpinpbaaGreatDoor

namespace Go.Proofs.YtlgciddnpinpbaaGreatDoor
open Go.RowKit
set_option linter.unusedSimpArgs false
set_option linter.unusedVariables false
set_option maxRecDepth 4000

/-- The disk behind j of Format's six steps. -/
def fmtD (D : DS) (N ring : Nat) : Nat → DS
  | 0 => D
  | 1 => D.fill 0 2 noSect
  | 2 => (D.fill 0 2 noSect).flushed
  | 3 => ((D.fill 0 2 noSect).flushed).fill 2 N noSect
  | 4 => (((D.fill 0 2 noSect).flushed).fill 2 N noSect).flushed
  | 5 => ((((D.fill 0 2 noSect).flushed).fill 2 N noSect).flushed).put 1 (anchorB 1 1 0 ring)
  | _ => (((((D.fill 0 2 noSect).flushed).fill 2 N noSect).flushed).put 1 (anchorB 1 1 0 ring)).flushed

def fV0 (gb g5 : Nat) : Value := .func (.func 92) #[] #[.pointer (some ⟨gb, 0, none⟩), .pointer (some ⟨g5, 0, none⟩)]
def fV1 (gd : Nat) : Value := .func (.func 94) #[.pointer (some ⟨gd, 0, none⟩)] #[]
def fV2 (gb g5 : Nat) : Value := .func (.func 95) #[] #[.pointer (some ⟨gb, 0, none⟩), .pointer (some ⟨g5, 0, none⟩)]
def fV4 (gb gr : Nat) : Value := .func (.func 96) #[] #[.pointer (some ⟨gb, 0, none⟩), .pointer (some ⟨gr, 0, none⟩)]
theorem fill_steps (gd gb gr g5 : Nat) (z : Value) (hz : z.cells = #[z]) : Instr.fill (fun i => some (i * 1, 1)) ((Array.range (6 * 1)).map (z.cells[· % z.cells.size]!)) [(0, fV0 gb g5), (1, fV1 gd), (2, fV2 gb g5), (3, fV1 gd), (4, fV4 gb gr), (5, fV1 gd)] =
    some #[fV0 gb g5, fV1 gd, fV2 gb g5, fV1 gd, fV4 gb gr, fV1 gd] := by rw [hz]; kernel_rfl

theorem size_fn : (Tryz.prog.info? 36).map (·.size) = some 1 := by kernel_rfl
theorem zero_fn : (Tryz.prog.info? 36).bind (·.zero) = some (.nilFunc) := by kernel_rfl
theorem zero_slice (T : TypeId) (h : T = 22) : (Tryz.prog.info? T).bind (·.zero) = some (.slice none 0 0) := by subst h; kernel_rfl

set_option maxHeartbeats 4000000 in
theorem format_calls {w : World} {gd : Nat} {D : DS} {own rd : Nat → Prop} (hd : DiskIs w gd D own rd) {N u : Nat} (hc : Calm D N u) (hu : u + 3 * N < 1000000) (z : Int) (ring : Nat) (hz : (ring : Int) = z) (h1 : 8 ≤ ring) (h2 : ring ≤ 512) (h3 : 8 + 2 + ring ≤ N) (h4 : N ≤ 1900) :
    Calls Tryz.prog 59 #[.pointer (some ⟨gd, 0, none⟩), .int .i64 z] w fun e w' => e = .returned (.int .i64 0) ∧ DiskTo w gd own rd (fmtD D N ring 6) w' := by
  subst hz
  have H : St own rd w w [dA gd D own rd] := St.one (A := dA gd D own rd) hd
  obtain ⟨y, hy⟩ : ∃ y, (D.last.length : Int) = y := ⟨_, rfl⟩
  have HY := Lib.hid hy
  have hyN : y = (N : Int) := by rw [← hy, hc.len]
  have HC := Lib.hid hc
  have HU := Lib.hid hu
  have b1 : (y == 0) = false := beq_eq_false_iff_ne.2 (by omega)
  have b2 : (8 : Int) ≤ (ring : Int) := by omega
  have b3 : (ring : Int) ≤ 512 := by omega
  have w1 : IntKind.i64.wrap (y - 2) = y - 2 := by rw [IntKind.wrap_i64]; omega
  have w2 : IntKind.i64.wrap (y - 2 - (ring : Int)) = y - 2 - (ring : Int) := by rw [IntKind.wrap_i64]; omega
  have b4 : 8 ≤ y - 2 - (ring : Int) := by omega
  have d1 : decide ((ring : Int) < 8) = false := decide_eq_false (by omega)
  have d2 : decide (512 < (ring : Int)) = false := decide_eq_false (by omega)
  have d3 : decide (y - 2 - (ring : Int) < 8) = false := decide_eq_false (by omega)
  have H3 := Lib.hid h3
  have H4 := Lib.hid h4
  clear hy hc hu hd h3 h4 hyN
  go_enter Tryz.func59, Tryz.ntmps59
  go_wp2_with (first
    | (refine wpList_box_st H rfl 24 _ rfl _ rfl ?_; clear H; intro W gb H; simp only [List.nil_append, List.cons_append] at H)
    | (refine wpList_box_st H rfl 3 _ rfl _ rfl ?_; clear H; intro W gr H; simp only [List.nil_append, List.cons_append] at H))
  replace H : St own rd w W [dA gd D own rd, blk gb (.cells #[.pointer (some ⟨gd, 0, none⟩)] 24 (0, 0)), blk gr (.cells #[.int .i64 (ring : Int)] 3 (0, 0))] := H
  replace H := H.drew
  have c0 := row_cell (H.at 1 rfl) (off := 0) (v := .pointer (some ⟨gd, 0, none⟩)) rfl
  have c1 := row_cell (H.at 2 rfl) (off := 0) (v := .int .i64 (ring : Int)) rfl
  go_region_held3 (fun w' => w'.cell? ⟨gb, 0, none⟩ = some (.pointer (some ⟨gd, 0, none⟩)) ∧ w'.cell? ⟨gr, 0, none⟩ = some (.int .i64 (ring : Int))) (first | exact ⟨c0, c1⟩) (first
    | (go_at_call 91; go_loud ((refine (len_calls (H.at 0 rfl)).mono ?_); rintro e W' ⟨rfl, rfl⟩; rw [HY.out])))
  clear c0 c1
  go_wp2_with (first
    | (refine wpList_make_st H rfl 22 _ _ rfl _ Tryz.underlying22 _ _ info_u8 rfl 256 rfl rfl (by omega) (by simp [maxLen]) ?_; clear H; intro W g H; rw [byteV_noSect] at H; simp only [List.nil_append, List.cons_append] at H; replace H := H.toBy 3 rfl; simp only [List.set_cons_zero, List.set_cons_succ] at H)
    | (refine wpList_alloc_st H rfl 22 rfl _ zero_row ?_; clear H; intro W g5 H; simp only [List.nil_append, List.cons_append] at H)
    | (refine wpList_store1_st H 4 rfl 22 _ _ rfl _ _ (.slice _ _ _) rfl rfl rfl _ _ rfl size_row (by simp [Value.cells]) ?_; clear H; intro W H; simp only [List.set_cons_zero, List.set_cons_succ] at H; replace H : St own rd w W [dA gd D own rd, blk gb (.cells #[.pointer (some ⟨gd, 0, none⟩)] 24 (0, 0)), blk gr (.cells #[.int .i64 (ring : Int)] 3 (0, 0)), byA g 0 noSect, blk g5 (.cells #[.slice (some ⟨g, 0, none⟩) 256 256] 22 (0, 0))] := H)
    | (refine wpList_load1_st rfl 24 _ rfl _ _ rfl _ _ _ (H.at 1 rfl) _ Tryz.underlying24 rfl (.pointer (some ⟨gd, 0, none⟩)) rfl ?_)
    | (refine wpList_buildslice_st H rfl 162 36 _ _ rfl Tryz.underlying162 _ size_fn _ zero_fn (by decide) (by decide) [(0, fV0 gb g5), (1, fV1 gd), (2, fV2 gb g5), (3, fV1 gd), (4, fV4 gb gr), (5, fV1 gd)] (by simp [Act.eval, fV0, fV1, fV2, fV4]) #[fV0 gb g5, fV1 gd, fV2 gb g5, fV1 gd, fV4 gb gr, fV1 gd] (fill_steps gd gb gr g5 _ rfl) ?_; clear H; intro W gs H; simp only [List.nil_append, List.cons_append] at H))
  have H' : St own rd w W (fmtL gd gb gr g g5 D own rd ring ++ [blk gs (.cells #[fV0 gb g5, fV1 gd, fV2 gb g5, fV1 gd, fV4 gb gr, fV1 gd] 36 (0, 0))]) := by
    refine H.pick (fun m => [0, 3, 1, 2, 4, 5].getD m 0) ?_ ?_
    · intro m C hm
      rcases m with _ | _ | _ | _ | _ | _ | m
      · exact hm
      · exact hm
      · exact hm
      · exact hm
      · exact hm
      · exact hm
      · simp [fmtL] at hm
    · intro m l hm hl e
      have hm6 : m < 6 := hm
      have hl6 : l < 6 := hl
      rcases m with _ | _ | _ | _ | _ | _ | m <;> rcases l with _ | _ | _ | _ | _ | _ | l <;> first | rfl | omega | (simp at e)
  clear H
  have H := H'
  clear H'
  go_loopw [42, 8, 9] (fun i _ _ wr => ∃ (j : Nat) (own' rd' : Nat → Prop), i = .int .i64 (j : Int) ∧ j ≤ 6 ∧
      St own rd w wr (fmtL gd gb gr g g5 (fmtD D N ring j) own' rd' ring ++ [blk gs (.cells #[fV0 gb g5, fV1 gd, fV2 gb g5, fV1 gd, fV4 gb gr, fV1 gd] 36 (0, 0))])) (fun i _ _ _ => 6 - (intOf i).toNat)
  case atStart => exact ⟨0, own, rd, rfl, by omega, H⟩
  case round =>
    clear H
    obtain ⟨j, own', rd', rfl, hj, H⟩ := hrel
    have hcell : ∀ i v, (#[fV0 gb g5, fV1 gd, fV2 gb g5, fV1 gd, fV4 gb gr, fV1 gd] : Array Value)[i]? = some v → wr.cell? ⟨gs, i, none⟩ = some v := fun i v hv => row_cell (H.at 5 rfl) hv
    rcases (show j = 0 ∨ j = 1 ∨ j = 2 ∨ j = 3 ∨ j = 4 ∨ j = 5 ∨ j = 6 by omega) with rfl | rfl | rfl | rfl | rfl | rfl | rfl
    · have hv := hcell 0 (fV0 gb g5) rfl
      clear hcell
      simp only [fV0, fV1, fV2, fV4] at hv
      go_wp2_with (first
        | (go_at_call 92; go_loud ((refine (fmt1_calls (gd := gd) (gb := gb) (gr := gr) (g := g) (g5 := g5) (D := fmtD D N ring 0) (own := own') (rd := rd') (ring := ring) (H.take 5).bundle HC.out (by have := HU.out; have := H3.out; omega) (by have := HU.out; have := H3.out; omega)).mono ?_); rintro e W ⟨rfl, own1, rd1, hto⟩; replace H := hto.front (R := [blk gs _]) H; clear hto hv)))
      go_roundw
      case rel => exact ⟨1, own1, rd1, rfl, by omega, H⟩
      case measure => simp [intOf]
    · have hv := hcell 1 (fV1 gd) rfl
      clear hcell
      simp only [fV0, fV1, fV2, fV4] at hv
      go_wp2_with (first
        | (go_at_call 94; go_loud ((refine (flush_calm (H.at 0 rfl) ((HC.out.fill 0 2 noSect))).mono ?_); rintro e W ⟨rfl, hto⟩; obtain ⟨own1, rd1, H1⟩ := DiskTo.step H 0 rfl hto; clear hto H hv; have H := H1; clear H1)))
      go_roundw
      case rel => exact ⟨2, own1, rd1, rfl, by omega, H⟩
      case measure => simp [intOf]
    · have hv := hcell 2 (fV2 gb g5) rfl
      clear hcell
      simp only [fV0, fV1, fV2, fV4] at hv
      go_wp2_with (first
        | (go_at_call 95; go_loud ((refine (fmt2_calls (gd := gd) (gb := gb) (gr := gr) (g := g) (g5 := g5) (D := fmtD D N ring 2) (own := own') (rd := rd') (ring := ring) (H.take 5).bundle ((HC.out.fill 0 2 noSect).flushed) (by have := HU.out; have := H3.out; omega) (by have := HU.out; have := H3.out; omega)).mono ?_); rintro e W ⟨rfl, own1, rd1, hto⟩; replace H := hto.front (R := [blk gs _]) H; clear hto hv)))
      go_roundw
      case rel => exact ⟨3, own1, rd1, rfl, by omega, H⟩
      case measure => simp [intOf]
    · have hv := hcell 3 (fV1 gd) rfl
      clear hcell
      simp only [fV0, fV1, fV2, fV4] at hv
      go_wp2_with (first
        | (go_at_call 94; go_loud ((refine (flush_calm (H.at 0 rfl) ((((HC.out.fill 0 2 noSect).flushed).fill 2 N noSect))).mono ?_); rintro e W ⟨rfl, hto⟩; obtain ⟨own1, rd1, H1⟩ := DiskTo.step H 0 rfl hto; clear hto H hv; have H := H1; clear H1)))
      go_roundw
      case rel => exact ⟨4, own1, rd1, rfl, by omega, H⟩
      case measure => simp [intOf]
    · have hv := hcell 4 (fV4 gb gr) rfl
      clear hcell
      simp only [fV0, fV1, fV2, fV4] at hv
      go_wp2_with (first
        | (go_at_call 96; go_loud ((refine (fmt3_calls (gd := gd) (gb := gb) (gr := gr) (g := g) (g5 := g5) (D := fmtD D N ring 4) (own := own') (rd := rd') (ring := ring) (H.take 5).bundle ((((HC.out.fill 0 2 noSect).flushed).fill 2 N noSect).flushed) (by have := HU.out; have := H3.out; omega) (by have := HU.out; have := H3.out; omega) (by omega)).mono ?_); rintro e W ⟨rfl, own1, rd1, hto⟩; replace H := hto.front (R := [blk gs _]) H; clear hto hv)))
      go_roundw
      case rel => exact ⟨5, own1, rd1, rfl, by omega, H⟩
      case measure => simp [intOf]
    · have hv := hcell 5 (fV1 gd) rfl
      clear hcell
      simp only [fV0, fV1, fV2, fV4] at hv
      go_wp2_with (first
        | (go_at_call 94; go_loud ((refine (flush_calm (H.at 0 rfl) ((((((HC.out.fill 0 2 noSect).flushed).fill 2 N noSect).flushed).put 1 (anchorB 1 1 0 ring)))).mono ?_); rintro e W ⟨rfl, hto⟩; obtain ⟨own1, rd1, H1⟩ := DiskTo.step H 0 rfl hto; clear hto H hv; have H := H1; clear H1)))
      go_roundw
      case rel => exact ⟨6, own1, rd1, rfl, by omega, H⟩
      case measure => simp [intOf]
    · clear hcell
      go_wp2
      go_ret
      exact ⟨rfl, own', rd', H.at 0 rfl, H.fix, fun k hk => (H.mine 0 _ rfl k hk).symm, fun k hk => by
        rcases H.reads 0 _ rfl k hk with h | h | h
        · exact .inr (.inr h)
        · exact .inl h
        · exact .inr (.inl h)⟩

end Go.Proofs.YtlgciddnpinpbaaGreatDoor

namespace Go.Proofs.YtlgciddnpinpbaaGreatDoor
open Go.RowKit
set_option linter.unusedSimpArgs false
set_option linter.unusedVariables false
set_option maxRecDepth 4000

theorem leNat_zeros : ∀ n, Lib.leNat (List.replicate n 0) = 0
  | 0 => rfl
  | n + 1 => by rw [List.replicate_succ, Lib.leNat, leNat_zeros n]; rfl

theorem le_none (at_ k : Nat) : le noSect at_ k = 0 := by
  unfold le noSect
  rw [List.drop_replicate, List.take_replicate]
  exact leNat_zeros _

theorem le_at (a b c : List UInt8) (n k v : Nat) (ha : a.length = n) (hb : b = Lib.leBytes k v) (hv : v < 256 ^ k) : le (a ++ b ++ c) n k = v := by
  subst hb
  unfold le
  rw [List.append_assoc, List.drop_append_of_le_length (by omega), List.drop_of_length_le (by omega), List.nil_append, List.take_append_of_le_length (by rw [Lib.leBytes_length]; exact Nat.le_refl _), List.take_of_length_le (by rw [Lib.leBytes_length]; exact Nat.le_refl _)]
  exact Lib.leNat_leBytes k v hv

theorem le_anchor (s turn place ring : Nat) (hs : s < 18446744073709551616) (ht : turn < 18446744073709551616) (hp : place < 4294967296) (hr : ring < 4294967296) :
    le (anchorB s turn place ring) 0 8 = s ∧ le (anchorB s turn place ring) 8 8 = turn ∧ le (anchorB s turn place ring) 16 4 = place ∧ le (anchorB s turn place ring) 20 4 = ring ∧ le (anchorB s turn place ring) 248 8 = s := by
  have l8 : ∀ v, (Lib.leBytes 8 v).length = 8 := fun v => Lib.leBytes_length 8 v
  have l4 : ∀ v, (Lib.leBytes 4 v).length = 4 := fun v => Lib.leBytes_length 4 v
  refine ⟨?_, ?_, ?_, ?_, ?_⟩
  · have := le_at [] (Lib.leBytes 8 s) (Lib.leBytes 8 turn ++ Lib.leBytes 4 place ++ Lib.leBytes 4 ring ++ List.replicate 224 0 ++ Lib.leBytes 8 s) 0 8 s rfl rfl (by omega)
    simpa [anchorB, List.append_assoc] using this
  · have := le_at (Lib.leBytes 8 s) (Lib.leBytes 8 turn) (Lib.leBytes 4 place ++ Lib.leBytes 4 ring ++ List.replicate 224 0 ++ Lib.leBytes 8 s) 8 8 turn (l8 _) rfl (by omega)
    simpa [anchorB, List.append_assoc] using this
  · have := le_at (Lib.leBytes 8 s ++ Lib.leBytes 8 turn) (Lib.leBytes 4 place) (Lib.leBytes 4 ring ++ List.replicate 224 0 ++ Lib.leBytes 8 s) 16 4 place (by simp [l8]) rfl (by omega)
    simpa [anchorB, List.append_assoc] using this
  · have := le_at (Lib.leBytes 8 s ++ Lib.leBytes 8 turn ++ Lib.leBytes 4 place) (Lib.leBytes 4 ring) (List.replicate 224 0 ++ Lib.leBytes 8 s) 20 4 ring (by simp [l8, l4]) rfl (by omega)
    simpa [anchorB, List.append_assoc] using this
  · have := le_at (Lib.leBytes 8 s ++ Lib.leBytes 8 turn ++ Lib.leBytes 4 place ++ Lib.leBytes 4 ring ++ List.replicate 224 0) (Lib.leBytes 8 s) [] 248 8 s (by simp [l8, l4]) rfl (by omega)
    simpa [anchorB, List.append_assoc] using this

end Go.Proofs.YtlgciddnpinpbaaGreatDoor

namespace Go.Proofs.YtlgciddnpinpbaaGreatDoor
open Go.RowKit

variable {P : Program} {ops : Array Oper} {o : Oper} {a : Act} {S : World → Prop}

/-- string(b) yields in every world in which the bytes lie there. -/
theorem yieldsIf_bytes_str (hw : Region.wanted o (yielded ops a.tmps) = true) (src dst : TypeId) (x : Operand) (ho : o.op = .convert src dst x) (g off n cap : Nat) (hx : a.eval x = .slice (some ⟨g, off, none⟩) n cap)
    (e : TypeId) (hs : P.underlying src = some (.slice e)) (he : P.underlying e = some (.int .u8)) (hd : P.underlying dst = some .string) (l : List UInt8) (hn : n = l.length) (hS : ∀ w, S w → BytesAt w g off l) :
    YieldsIf P ops S o (.string ⟨l.toArray⟩) a := by
  refine Or.inl ⟨hw, fun w h => ?_⟩
  have hrun := run_bytes_str (P := P) w src dst e hs he hd g off cap l (hS w h) n hn
  unfold execOp
  simp only [ho, hx, Sem.run_bind, hrun, Result.andThen_ok, Sem.run_pure]

/-- A load of one cell yields in every world in which the cell holds the value. -/
theorem yieldsIf_load1 (hw : Region.wanted o (yielded ops a.tmps) = true) (ty : TypeId) (x : Operand) (ho : o.op = .load ty x) (g off : Nat) (hx : a.eval x = .pointer (some ⟨g, off, none⟩))
    (d : TypeDesc) (hu : P.underlying ty = some d) (hd : (match d with | .struct _ | .array _ _ => true | _ => false) = false) (v : Value) (hS : ∀ w, S w → w.cell? ⟨g, off, none⟩ = some v) :
    YieldsIf P ops S o v a := by
  refine Or.inl ⟨hw, fun w h => ?_⟩
  have hc := hS w h
  have hagg : (isAgg ty).run P w = .ok false w := by
    unfold isAgg
    rw [Sem.run_bind, run_underlying hu w]
    cases d <;> simp_all
  have hl : (load ⟨g, off, none⟩).run P w = .ok v w := by simp [load, Sem.run, hc]
  unfold execOp
  simp only [ho, hx, Instr.loadAt, Instr.sureAddr, Sem.run_bind, Sem.run_pure, Result.andThen_ok, loadVar, hagg]
  simp [hl, Result.andThen]

/-- What is not wanted yields nothing. -/
theorem yieldsIf_un (hw : Region.wanted o (yielded ops a.tmps) = false) : YieldsIf P ops S o undef a := Or.inr ⟨hw, rfl⟩

/-- string(b), run. -/
theorem wp_bytes_str {Q : Exit → Act → World → Prop} {K : Act → World → Prop} {W : World} (src dst : TypeId) (x : Operand) (ho : o.op = .convert src dst x) (g off n cap : Nat) (hx : a.eval x = .slice (some ⟨g, off, none⟩) n cap)
    (e : TypeId) (hs : P.underlying src = some (.slice e)) (he : P.underlying e = some (.int .u8)) (hd : P.underlying dst = some .string) (l : List UInt8) (hb : BytesAt W g off l) (hn : n = l.length)
    (h : K (a.put o.dst (.string ⟨l.toArray⟩)) W) : o.wp P a W K Q := by
  have hrun := run_bytes_str (P := P) W src dst e hs he hd g off cap l hb n hn
  unfold Oper.wp execOp
  simp only [ho, hx, Sem.run_bind, hrun, Result.andThen_ok, Sem.run_pure]
  exact h

end Go.Proofs.YtlgciddnpinpbaaGreatDoor

namespace Go.Proofs.YtlgciddnpinpbaaGreatDoor
open Go.RowKit
set_option linter.unusedSimpArgs false
set_option linter.unusedVariables false
set_option maxRecDepth 4000

theorem zero_anchor : (Tryz.prog.info? 130).bind (·.zero) = some (anchorV 0 0 0 0) := by kernel_rfl
theorem size_anchor : (Tryz.prog.info? 130).map (·.size) = some 4 := by kernel_rfl
theorem cells_anchorV (a b c d : Nat) : (anchorV a b c d).cells = (anchorR a b c d).toArray := rfl
theorem anchorR_all (a b c d : Nat) : (anchorR a b c d).toArray.all (·.oneCell') = true := all_oneCell_toArray (by
  intro v hv
  simp only [anchorR, List.mem_cons, List.not_mem_nil, or_false] at hv
  rcases hv with rfl | rfl | rfl | rfl <;> rfl)

theorem results_cell_row_tmp {P : Program} {fn : Func} {p u : Tmp} {ty : TypeId} (h : fn.results = #[.cell p ty, .tmp u]) (tmps : Array Value) (w : World) (g : Nat) (t : TypeId) (cs : Array Value) (fr : Nat × Nat) (d : TypeDesc)
    (hp : tmps.getD p undef = .pointer (some ⟨g, 0, none⟩)) (hg : w.heap[g]? = some (.cells cs t fr))
    (hu : P.underlying ty = some d) (hd : (match d with | .struct _ | .array _ _ => true | _ => false) = true) (hi : (P.info? ty).map (·.size) = some cs.size) :
    (results fn tmps).run P w = .ok (.tuple #[.agg cs, tmps.getD u undef]) w := by
  rw [results_cell_tmp h, hp]
  have e : (asAddr (.pointer (some ⟨g, 0, none⟩))).run P w = .ok ⟨g, 0, none⟩ w := rfl
  rw [e]
  simp only [Result.andThen]
  rw [run_loadVar_row w g t ty cs fr d hg hu hd hi]

theorem St.bytes {w : World} {g off : Nat} {l : List UInt8} (hb : BytesAt w g off l) (hlt : g < w.heap.size) : St NoBlk (fun _ => True) w w [byA g off l] :=
  St.reads_only _ (by
    intro B hB
    simp only [List.mem_cons, List.not_mem_nil, or_false] at hB
    subst hB
    exact ⟨⟨hlt, hb⟩, fun _ h => h⟩)

set_option maxHeartbeats 2000000 in
theorem stands_no (g off cap : Nat) (N : Int) (w : World) (hb : BytesAt w g off noSect) (hlt : g < w.heap.size) (hc : 256 ≤ cap) :
    Calls Tryz.prog 171 #[.slice (some ⟨g, off, none⟩) 256 cap, .int .i64 N] w fun e w' => e = .returned (.tuple #[anchorV 0 0 0 0, .bool false]) ∧ Below w.heap.size w w' := by
  have H := St.bytes hb hlt
  have tok1 : True := trivial
  have tok2 : True := trivial
  have HC := Lib.hid hc
  have z1 := Lib.hid (le_none 0 8)
  have z2 := Lib.hid (le_none 8 8)
  have z3 := Lib.hid (le_none 16 4)
  have z4 := Lib.hid (le_none 20 4)
  clear hb hlt hc
  go_enter Tryz.func171, Tryz.ntmps171
  go_wp2_with (first
    | (have _t := tok1; clear _t; refine wpList_alloc_st H rfl 130 rfl _ zero_anchor ?_; clear H tok1; intro W g4 H; rw [cells_anchorV] at H; simp only [List.nil_append, List.cons_append] at H)
    | (have _t := tok2; clear _t; refine wpList_alloc_st H rfl 130 rfl _ zero_anchor ?_; clear H tok2; intro W g6 H; rw [cells_anchorV] at H; simp only [List.nil_append, List.cons_append] at H)
    | (go_at_call 197; go_loud ((with_reducible refine (tag_calls g off 256 cap noSect _ (H.at 0 rfl : _ ∧ BytesAt _ g off noSect).2 noSect_len (by omega) HC.out (by omega)).mono ?_); rintro e W' ⟨rfl, rfl⟩; rw [z1.out]))
    | (go_at_call 198; go_loud ((with_reducible refine (num8 g off 256 cap noSect 8 8 (by decide) _ (H.at 0 rfl : _ ∧ BytesAt _ g off noSect).2 noSect_len (by omega) HC.out (by omega)).mono ?_); rintro e W' ⟨rfl, rfl⟩; rw [z2.out]))
    | (go_at_call 198; ((with_reducible refine (num4 g off 256 cap noSect 16 16 (by decide) _ (H.at 0 rfl : _ ∧ BytesAt _ g off noSect).2 noSect_len (by omega) HC.out (by omega)).mono ?_); rintro e W' ⟨rfl, rfl⟩; rw [z3.out]))
    | (go_at_call 198; ((with_reducible refine (num4 g off 256 cap noSect 20 20 (by decide) _ (H.at 0 rfl : _ ∧ BytesAt _ g off noSect).2 noSect_len (by omega) HC.out (by omega)).mono ?_); rintro e W' ⟨rfl, rfl⟩; rw [z4.out]))
    | go_loud (refine wpList_storerow_st H 2 rfl 130 _ _ rfl _ (anchorR 0 0 0 0).toArray rfl rfl _ _ rfl size_anchor rfl (anchorR_all _ _ _ _) ?_; clear H; intro W H; simp only [List.set_cons_zero, List.set_cons_succ] at H))
  replace H := H.drew
  have c0 := row_cell (H.at 2 rfl) (anchorR0 _ _ _ _)
  refine wp_region_held_drew (S := fun w' => w'.cell? ⟨g6, 0, none⟩ = some (.int .u64 ((0 : Nat) : Int))) (by kernel_rfl) c0 (fun hHeld => ?_)
  (refine wpAnyH_take (i := 0) (v := ?_) rfl (by kernel_rfl) (by kernel_rfl) (by kernel_rfl) (fun _ _ _ h => h) (Or.inl ⟨by rfl, ?_⟩) (by assumption) ?_; rotate_left; focus (intro w hSw; (try dsimp only at hSw); go_simp; all_goals (with_reducible rfl))); (try simp only [Act.put, List.setIfInBounds_toArray, List.set_cons_zero, List.set_cons_succ, List.getElem_toArray, List.getElem_cons_succ, List.getElem_cons_zero])
  (refine wpAnyH_take (i := 1) rfl (by kernel_rfl) (by kernel_rfl) (by kernel_rfl) (fun _ _ _ h => h) ((yieldsIf_load1 (by rfl) 104 _ rfl _ _ (by rfl) _ Tryz.underlying104 rfl _ (fun w h => h))) (by assumption) ?_); (try simp only [Act.put, List.setIfInBounds_toArray, List.set_cons_zero, List.set_cons_succ, List.getElem_toArray, List.getElem_cons_succ, List.getElem_cons_zero])
  (refine wpAnyH_take (i := 2) (v := ?_) rfl (by kernel_rfl) (by kernel_rfl) (by kernel_rfl) (fun _ _ _ h => h) (Or.inl ⟨by rfl, ?_⟩) (by assumption) ?_; rotate_left; focus (intro w hSw; (try dsimp only at hSw); go_simp; all_goals (with_reducible rfl))); (try simp only [Act.put, List.setIfInBounds_toArray, List.set_cons_zero, List.set_cons_succ, List.getElem_toArray, List.getElem_cons_succ, List.getElem_cons_zero])
  (refine wpAnyH_take (i := 3) (v := ?_) rfl (by kernel_rfl) (by kernel_rfl) (by kernel_rfl) (fun _ _ _ h => h) (Or.inl ⟨by rfl, ?_⟩) (by assumption) ?_; rotate_left; focus (intro w hSw; (try dsimp only at hSw); go_simp; all_goals (with_reducible rfl))); (try simp only [Act.put, List.setIfInBounds_toArray, List.set_cons_zero, List.set_cons_succ, List.getElem_toArray, List.getElem_cons_succ, List.getElem_cons_zero])
  (refine wpAnyH_take (i := 4) (v := undef) rfl (by kernel_rfl) (by kernel_rfl) (by kernel_rfl) (fun _ _ _ h => h) (Or.inr ⟨by rfl, rfl⟩) (by assumption) ?_); (try simp only [Act.put, List.setIfInBounds_toArray, List.set_cons_zero, List.set_cons_succ, List.getElem_toArray, List.getElem_cons_succ, List.getElem_cons_zero])
  (refine wpAnyH_take (i := 5) (v := undef) rfl (by kernel_rfl) (by kernel_rfl) (by kernel_rfl) (fun _ _ _ h => h) (Or.inr ⟨by rfl, rfl⟩) (by assumption) ?_); (try simp only [Act.put, List.setIfInBounds_toArray, List.set_cons_zero, List.set_cons_succ, List.getElem_toArray, List.getElem_cons_succ, List.getElem_cons_zero])
  (refine wpAnyH_take (i := 6) (v := undef) rfl (by kernel_rfl) (by kernel_rfl) (by kernel_rfl) (fun _ _ _ h => h) (Or.inr ⟨by rfl, rfl⟩) (by assumption) ?_); (try simp only [Act.put, List.setIfInBounds_toArray, List.set_cons_zero, List.set_cons_succ, List.getElem_toArray, List.getElem_cons_succ, List.getElem_cons_zero])
  (refine wpAnyH_take (i := 7) (v := undef) rfl (by kernel_rfl) (by kernel_rfl) (by kernel_rfl) (fun _ _ _ h => h) (Or.inr ⟨by rfl, rfl⟩) (by assumption) ?_); (try simp only [Act.put, List.setIfInBounds_toArray, List.set_cons_zero, List.set_cons_succ, List.getElem_toArray, List.getElem_cons_succ, List.getElem_cons_zero])
  (refine wpAnyH_take (i := 8) (v := undef) rfl (by kernel_rfl) (by kernel_rfl) (by kernel_rfl) (fun _ _ _ h => h) (Or.inr ⟨by rfl, rfl⟩) (by assumption) ?_); (try simp only [Act.put, List.setIfInBounds_toArray, List.set_cons_zero, List.set_cons_succ, List.getElem_toArray, List.getElem_cons_succ, List.getElem_cons_zero])
  (refine wpAnyH_take (i := 9) (v := ?_) rfl (by kernel_rfl) (by kernel_rfl) (by kernel_rfl) (fun _ _ _ h => h) (Or.inl ⟨by rfl, ?_⟩) (by assumption) ?_; rotate_left; focus (intro w hSw; (try dsimp only at hSw); go_simp; all_goals (with_reducible rfl))); (try simp only [Act.put, List.setIfInBounds_toArray, List.set_cons_zero, List.set_cons_succ, List.getElem_toArray, List.getElem_cons_succ, List.getElem_cons_zero])
  (refine wpAnyH_take (i := 10) (v := ?_) rfl (by kernel_rfl) (by kernel_rfl) (by kernel_rfl) (fun _ _ _ h => h) (Or.inl ⟨by rfl, ?_⟩) (by assumption) ?_; rotate_left; focus (intro w hSw; (try dsimp only at hSw); go_simp; all_goals (with_reducible rfl))); (try simp only [Act.put, List.setIfInBounds_toArray, List.set_cons_zero, List.set_cons_succ, List.getElem_toArray, List.getElem_cons_succ, List.getElem_cons_zero])
  (refine wpAnyH_take (i := 11) (v := undef) rfl (by kernel_rfl) (by kernel_rfl) (by kernel_rfl) (fun _ _ _ h => h) (Or.inr ⟨by rfl, rfl⟩) (by assumption) ?_); (try simp only [Act.put, List.setIfInBounds_toArray, List.set_cons_zero, List.set_cons_succ, List.getElem_toArray, List.getElem_cons_succ, List.getElem_cons_zero])
  (refine wpAnyH_take (i := 12) (v := undef) rfl (by kernel_rfl) (by kernel_rfl) (by kernel_rfl) (fun _ _ _ h => h) (Or.inr ⟨by rfl, rfl⟩) (by assumption) ?_); (try simp only [Act.put, List.setIfInBounds_toArray, List.set_cons_zero, List.set_cons_succ, List.getElem_toArray, List.getElem_cons_succ, List.getElem_cons_zero])
  (refine wpAnyH_take (i := 13) (v := undef) rfl (by kernel_rfl) (by kernel_rfl) (by kernel_rfl) (fun _ _ _ h => h) (Or.inr ⟨by rfl, rfl⟩) (by assumption) ?_); (try simp only [Act.put, List.setIfInBounds_toArray, List.set_cons_zero, List.set_cons_succ, List.getElem_toArray, List.getElem_cons_succ, List.getElem_cons_zero])
  (refine wpAnyH_take (i := 14) (v := ?_) rfl (by kernel_rfl) (by kernel_rfl) (by kernel_rfl) (fun _ _ _ h => h) (Or.inl ⟨by rfl, ?_⟩) (by assumption) ?_; rotate_left; focus (intro w hSw; (try dsimp only at hSw); go_simp; all_goals (with_reducible rfl))); (try simp only [Act.put, List.setIfInBounds_toArray, List.set_cons_zero, List.set_cons_succ, List.getElem_toArray, List.getElem_cons_succ, List.getElem_cons_zero])
  (refine wpAnyH_take (i := 15) (v := ?_) rfl (by kernel_rfl) (by kernel_rfl) (by kernel_rfl) (fun _ _ _ h => h) (Or.inl ⟨by rfl, ?_⟩) (by assumption) ?_; rotate_left; focus (intro w hSw; (try dsimp only at hSw); go_simp; all_goals (with_reducible rfl))); (try simp only [Act.put, List.setIfInBounds_toArray, List.set_cons_zero, List.set_cons_succ, List.getElem_toArray, List.getElem_cons_succ, List.getElem_cons_zero])
  (refine wpAnyH_take (i := 16) (v := undef) rfl (by kernel_rfl) (by kernel_rfl) (by kernel_rfl) (fun _ _ _ h => h) (Or.inr ⟨by rfl, rfl⟩) (by assumption) ?_); (try simp only [Act.put, List.setIfInBounds_toArray, List.set_cons_zero, List.set_cons_succ, List.getElem_toArray, List.getElem_cons_succ, List.getElem_cons_zero])
  (refine wpAnyH_take (i := 17) (v := undef) rfl (by kernel_rfl) (by kernel_rfl) (by kernel_rfl) (fun _ _ _ h => h) (Or.inr ⟨by rfl, rfl⟩) (by assumption) ?_); (try simp only [Act.put, List.setIfInBounds_toArray, List.set_cons_zero, List.set_cons_succ, List.getElem_toArray, List.getElem_cons_succ, List.getElem_cons_zero])
  (refine wpAnyH_take (i := 18) (v := undef) rfl (by kernel_rfl) (by kernel_rfl) (by kernel_rfl) (fun _ _ _ h => h) (Or.inr ⟨by rfl, rfl⟩) (by assumption) ?_); (try simp only [Act.put, List.setIfInBounds_toArray, List.set_cons_zero, List.set_cons_succ, List.getElem_toArray, List.getElem_cons_succ, List.getElem_cons_zero])
  (refine wpAnyH_take (i := 19) (v := ?_) rfl (by kernel_rfl) (by kernel_rfl) (by kernel_rfl) (fun _ _ _ h => h) (Or.inl ⟨by rfl, ?_⟩) (by assumption) ?_; rotate_left; focus (intro w hSw; (try dsimp only at hSw); go_simp; all_goals (with_reducible rfl))); (try simp only [Act.put, List.setIfInBounds_toArray, List.set_cons_zero, List.set_cons_succ, List.getElem_toArray, List.getElem_cons_succ, List.getElem_cons_zero])
  (refine wpAnyH_take (i := 20) (v := ?_) rfl (by kernel_rfl) (by kernel_rfl) (by kernel_rfl) (fun _ _ _ h => h) (Or.inl ⟨by rfl, ?_⟩) (by assumption) ?_; rotate_left; focus (intro w hSw; (try dsimp only at hSw); go_simp; all_goals (with_reducible rfl))); (try simp only [Act.put, List.setIfInBounds_toArray, List.set_cons_zero, List.set_cons_succ, List.getElem_toArray, List.getElem_cons_succ, List.getElem_cons_zero])
  (refine wpAnyH_take (i := 21) (v := undef) rfl (by kernel_rfl) (by kernel_rfl) (by kernel_rfl) (fun _ _ _ h => h) (Or.inr ⟨by rfl, rfl⟩) (by assumption) ?_); (try simp only [Act.put, List.setIfInBounds_toArray, List.set_cons_zero, List.set_cons_succ, List.getElem_toArray, List.getElem_cons_succ, List.getElem_cons_zero])
  (refine wpAnyH_take (i := 22) (v := undef) rfl (by kernel_rfl) (by kernel_rfl) (by kernel_rfl) (fun _ _ _ h => h) (Or.inr ⟨by rfl, rfl⟩) (by assumption) ?_); (try simp only [Act.put, List.setIfInBounds_toArray, List.set_cons_zero, List.set_cons_succ, List.getElem_toArray, List.getElem_cons_succ, List.getElem_cons_zero])
  (refine wpAnyH_take (i := 23) (v := ?_) rfl (by kernel_rfl) (by kernel_rfl) (by kernel_rfl) (fun _ _ _ h => h) (Or.inl ⟨by rfl, ?_⟩) (by assumption) ?_; rotate_left; focus (intro w hSw; (try dsimp only at hSw); go_simp; all_goals (with_reducible rfl))); (try simp only [Act.put, List.setIfInBounds_toArray, List.set_cons_zero, List.set_cons_succ, List.getElem_toArray, List.getElem_cons_succ, List.getElem_cons_zero])
  (refine wpAnyH_take (i := 24) (v := ?_) rfl (by kernel_rfl) (by kernel_rfl) (by kernel_rfl) (fun _ _ _ h => h) (Or.inl ⟨by rfl, ?_⟩) (by assumption) ?_; rotate_left; focus (intro w hSw; (try dsimp only at hSw); go_simp; all_goals (with_reducible rfl))); (try simp only [Act.put, List.setIfInBounds_toArray, List.set_cons_zero, List.set_cons_succ, List.getElem_toArray, List.getElem_cons_succ, List.getElem_cons_zero])
  (refine wpAnyH_take (i := 25) (v := undef) rfl (by kernel_rfl) (by kernel_rfl) (by kernel_rfl) (fun _ _ _ h => h) (Or.inr ⟨by rfl, rfl⟩) (by assumption) ?_); (try simp only [Act.put, List.setIfInBounds_toArray, List.set_cons_zero, List.set_cons_succ, List.getElem_toArray, List.getElem_cons_succ, List.getElem_cons_zero])
  (refine wpAnyH_take (i := 26) (v := undef) rfl (by kernel_rfl) (by kernel_rfl) (by kernel_rfl) (fun _ _ _ h => h) (Or.inr ⟨by rfl, rfl⟩) (by assumption) ?_); (try simp only [Act.put, List.setIfInBounds_toArray, List.set_cons_zero, List.set_cons_succ, List.getElem_toArray, List.getElem_cons_succ, List.getElem_cons_zero])
  (refine wpAnyH_take (i := 27) (v := ?_) rfl (by kernel_rfl) (by kernel_rfl) (by kernel_rfl) (fun _ _ _ h => h) (Or.inl ⟨by rfl, ?_⟩) (by assumption) ?_; rotate_left; focus (intro w hSw; (try dsimp only at hSw); go_simp; all_goals (with_reducible rfl))); (try simp only [Act.put, List.setIfInBounds_toArray, List.set_cons_zero, List.set_cons_succ, List.getElem_toArray, List.getElem_cons_succ, List.getElem_cons_zero])
  (refine wpAnyH_take (i := 28) (v := ?_) rfl (by kernel_rfl) (by kernel_rfl) (by kernel_rfl) (fun _ _ _ h => h) (Or.inl ⟨by rfl, ?_⟩) (by assumption) ?_; rotate_left; focus (intro w hSw; (try dsimp only at hSw); go_simp; all_goals (with_reducible rfl))); (try simp only [Act.put, List.setIfInBounds_toArray, List.set_cons_zero, List.set_cons_succ, List.getElem_toArray, List.getElem_cons_succ, List.getElem_cons_zero])
  (refine wpAnyH_take (i := 29) (v := undef) rfl (by kernel_rfl) (by kernel_rfl) (by kernel_rfl) (fun _ _ _ h => h) (Or.inr ⟨by rfl, rfl⟩) (by assumption) ?_); (try simp only [Act.put, List.setIfInBounds_toArray, List.set_cons_zero, List.set_cons_succ, List.getElem_toArray, List.getElem_cons_succ, List.getElem_cons_zero])
  (refine wpAnyH_take (i := 30) (v := undef) rfl (by kernel_rfl) (by kernel_rfl) (by kernel_rfl) (fun _ _ _ h => h) (Or.inr ⟨by rfl, rfl⟩) (by assumption) ?_); (try simp only [Act.put, List.setIfInBounds_toArray, List.set_cons_zero, List.set_cons_succ, List.getElem_toArray, List.getElem_cons_succ, List.getElem_cons_zero])
  (refine wpAnyH_take (i := 31) (v := undef) rfl (by kernel_rfl) (by kernel_rfl) (by kernel_rfl) (fun _ _ _ h => h) (Or.inr ⟨by rfl, rfl⟩) (by assumption) ?_); (try simp only [Act.put, List.setIfInBounds_toArray, List.set_cons_zero, List.set_cons_succ, List.getElem_toArray, List.getElem_cons_succ, List.getElem_cons_zero])
  (refine wpAnyH_take (i := 32) (v := ?_) rfl (by kernel_rfl) (by kernel_rfl) (by kernel_rfl) (fun _ _ _ h => h) (Or.inl ⟨by rfl, ?_⟩) (by assumption) ?_; rotate_left; focus (intro w hSw; (try dsimp only at hSw); go_simp; all_goals (with_reducible rfl))); (try simp only [Act.put, List.setIfInBounds_toArray, List.set_cons_zero, List.set_cons_succ, List.getElem_toArray, List.getElem_cons_succ, List.getElem_cons_zero])
  (refine wpAnyH_take (i := 33) (v := ?_) rfl (by kernel_rfl) (by kernel_rfl) (by kernel_rfl) (fun _ _ _ h => h) (Or.inl ⟨by rfl, ?_⟩) (by assumption) ?_; rotate_left; focus (intro w hSw; (try dsimp only at hSw); go_simp; all_goals (with_reducible rfl))); (try simp only [Act.put, List.setIfInBounds_toArray, List.set_cons_zero, List.set_cons_succ, List.getElem_toArray, List.getElem_cons_succ, List.getElem_cons_zero])
  (refine wpAnyH_take (i := 34) (v := undef) rfl (by kernel_rfl) (by kernel_rfl) (by kernel_rfl) (fun _ _ _ h => h) (Or.inr ⟨by rfl, rfl⟩) (by assumption) ?_); (try simp only [Act.put, List.setIfInBounds_toArray, List.set_cons_zero, List.set_cons_succ, List.getElem_toArray, List.getElem_cons_succ, List.getElem_cons_zero])
  (refine wpAnyH_take (i := 35) (v := undef) rfl (by kernel_rfl) (by kernel_rfl) (by kernel_rfl) (fun _ _ _ h => h) (Or.inr ⟨by rfl, rfl⟩) (by assumption) ?_); (try simp only [Act.put, List.setIfInBounds_toArray, List.set_cons_zero, List.set_cons_succ, List.getElem_toArray, List.getElem_cons_succ, List.getElem_cons_zero])
  (refine wpAnyH_take (i := 36) (v := undef) rfl (by kernel_rfl) (by kernel_rfl) (by kernel_rfl) (fun _ _ _ h => h) (Or.inr ⟨by rfl, rfl⟩) (by assumption) ?_); (try simp only [Act.put, List.setIfInBounds_toArray, List.set_cons_zero, List.set_cons_succ, List.getElem_toArray, List.getElem_cons_succ, List.getElem_cons_zero])
  (refine wpAnyH_take (i := 37) (v := undef) rfl (by kernel_rfl) (by kernel_rfl) (by kernel_rfl) (fun _ _ _ h => h) (Or.inr ⟨by rfl, rfl⟩) (by assumption) ?_); (try simp only [Act.put, List.setIfInBounds_toArray, List.set_cons_zero, List.set_cons_succ, List.getElem_toArray, List.getElem_cons_succ, List.getElem_cons_zero])
  (refine wpAnyH_take (i := 38) (v := undef) rfl (by kernel_rfl) (by kernel_rfl) (by kernel_rfl) (fun _ _ _ h => h) (Or.inr ⟨by rfl, rfl⟩) (by assumption) ?_); (try simp only [Act.put, List.setIfInBounds_toArray, List.set_cons_zero, List.set_cons_succ, List.getElem_toArray, List.getElem_cons_succ, List.getElem_cons_zero])
  (refine wpAnyH_take (i := 39) (v := undef) rfl (by kernel_rfl) (by kernel_rfl) (by kernel_rfl) (fun _ _ _ h => h) (Or.inr ⟨by rfl, rfl⟩) (by assumption) ?_); (try simp only [Act.put, List.setIfInBounds_toArray, List.set_cons_zero, List.set_cons_succ, List.getElem_toArray, List.getElem_cons_succ, List.getElem_cons_zero])
  (refine wpAnyH_take (i := 40) (v := ?_) rfl (by kernel_rfl) (by kernel_rfl) (by kernel_rfl) (fun _ _ _ h => h) (Or.inl ⟨by rfl, ?_⟩) (by assumption) ?_; rotate_left; focus (intro w hSw; (try dsimp only at hSw); go_simp; all_goals (with_reducible rfl))); (try simp only [Act.put, List.setIfInBounds_toArray, List.set_cons_zero, List.set_cons_succ, List.getElem_toArray, List.getElem_cons_succ, List.getElem_cons_zero])
  (refine wpAnyH_done (by kernel_rfl) ?_ _)
  clear c0 hHeld
  go_wp2_with (first
    | (refine wpList_build0 rfl 130 rfl (anchorR 0 0 0 0).toArray (by kernel_rfl) ?_)
    | go_loud (refine wpList_storerow_st H 1 rfl 130 _ _ rfl _ (anchorR 0 0 0 0).toArray rfl rfl _ _ rfl size_anchor rfl (anchorR_all _ _ _ _) ?_; clear H; intro W H; simp only [List.set_cons_zero, List.set_cons_succ] at H))
  refine bodyPost_ret (results_cell_row_tmp rfl _ _ g4 _ _ _ _ rfl (H.at 1 rfl) Tryz.underlying130 rfl size_anchor) rfl ?_
  exact ⟨rfl, H.fix.below⟩

end Go.Proofs.YtlgciddnpinpbaaGreatDoor

namespace Go.Proofs.YtlgciddnpinpbaaGreatDoor
open Go.RowKit
set_option linter.unusedSimpArgs false
set_option linter.unusedVariables false
set_option maxRecDepth 4000

def aR (a b c d : Int) : List Value := [.int .u64 a, .int .u64 b, .int .i64 c, .int .i64 d]
theorem aR_all (a b c d : Int) : (aR a b c d).toArray.all (·.oneCell') = true := all_oneCell_toArray (by
  intro v hv
  simp only [aR, List.mem_cons, List.not_mem_nil, or_false] at hv
  rcases hv with rfl | rfl | rfl | rfl <;> rfl)

set_option maxHeartbeats 2000000 in
theorem stands_yes (s turn place ring : Nat) (g off cap : Nat) (y : Int) (N : Nat) (hN : (N : Int) = y) (w : World) (hs : 1 ≤ s ∧ s < 9223372036854775808) (ht : 1 ≤ turn ∧ turn ≤ 4611686018427387903) (hp : place < ring) (hr : 8 ≤ ring ∧ ring ≤ 512) (hfit : 8 + 2 + ring ≤ N) (htop : N ≤ 1900) (hb : BytesAt w g off (anchorB s turn place ring)) (hlt : g < w.heap.size) (hc : 256 ≤ cap) :
    Calls Tryz.prog 171 #[.slice (some ⟨g, off, none⟩) 256 cap, .int .i64 y] w fun e w' => e = .returned (.tuple #[anchorV s turn place ring, .bool true]) ∧ Below w.heap.size w w' := by
  have H := St.bytes hb hlt
  have tok1 : True := trivial
  have tok2 : True := trivial
  have HC := Lib.hid hc
  obtain ⟨q1, q2, q3, q4, q5⟩ := le_anchor s turn place ring (by omega) (by omega) (by omega) (by omega)
  obtain ⟨S, hS⟩ : ∃ S : Int, (s : Int) = S := ⟨_, rfl⟩
  obtain ⟨T, hT⟩ : ∃ T : Int, (turn : Int) = T := ⟨_, rfl⟩
  obtain ⟨Pl, hPl⟩ : ∃ Pl : Int, (place : Int) = Pl := ⟨_, rfl⟩
  obtain ⟨Rg, hRg⟩ : ∃ Rg : Int, (ring : Int) = Rg := ⟨_, rfl⟩
  have z1 := Lib.hid (show ((le (anchorB s turn place ring) 0 8 : Nat) : Int) = S by rw [q1]; exact hS)
  have z2 := Lib.hid (show ((le (anchorB s turn place ring) 8 8 : Nat) : Int) = T by rw [q2]; exact hT)
  have z3 := Lib.hid (show ((le (anchorB s turn place ring) 16 4 : Nat) : Int) = Pl by rw [q3]; exact hPl)
  have z4 := Lib.hid (show ((le (anchorB s turn place ring) 20 4 : Nat) : Int) = Rg by rw [q4]; exact hRg)
  have z5 := Lib.hid (show ((le (anchorB s turn place ring) 248 8 : Nat) : Int) = S by rw [q5]; exact hS)
  clear q1 q2 q3 q4 q5
  obtain ⟨hs1, hs2⟩ := hs
  obtain ⟨ht1, ht2⟩ := ht
  obtain ⟨hr1, hr2⟩ := hr
  have f0 : (S == 0) = false := beq_eq_false_iff_ne.2 (by omega)
  have f1 : decide (T < 1) = false := decide_eq_false (by omega)
  have f2 : decide (4611686018427387903 < T) = false := decide_eq_false (by omega)
  have f3 : decide (Rg < 8) = false := decide_eq_false (by omega)
  have f4 : decide (512 < Rg) = false := decide_eq_false (by omega)
  have f5 : decide (Rg ≤ Pl) = false := decide_eq_false (by omega)
  have w0 : IntKind.i64.wrap Rg = Rg := by rw [IntKind.wrap_i64]; omega
  have w3 : IntKind.i64.wrap Pl = Pl := by rw [IntKind.wrap_i64]; omega
  have w1 : IntKind.i64.wrap (y - 2) = y - 2 := by rw [IntKind.wrap_i64]; omega
  have w2 : IntKind.i64.wrap (y - 2 - Rg) = y - 2 - Rg := by rw [IntKind.wrap_i64]; omega
  have f7 : decide (y - 2 - Rg < 8) = false := decide_eq_false (by omega)
  have HE := Lib.hid (show anchorV s turn place ring = .agg #[.int .u64 S, .int .u64 T, .int .i64 Pl, .int .i64 Rg] by rw [← hS, ← hT, ← hPl, ← hRg]; rfl)
  clear hN htop hfit hp hs2 hs1 ht1 ht2 hr1 hr2 hS hT hPl hRg
  rw [HE.out]
  clear hb hlt hc
  go_enter Tryz.func171, Tryz.ntmps171
  go_wp2_with (first
    | (have _t := tok1; clear _t; refine wpList_alloc_st H rfl 130 rfl _ zero_anchor ?_; clear H tok1; intro W g4 H; rw [cells_anchorV] at H; simp only [List.nil_append, List.cons_append] at H)
    | (have _t := tok2; clear _t; refine wpList_alloc_st H rfl 130 rfl _ zero_anchor ?_; clear H tok2; intro W g6 H; rw [cells_anchorV] at H; simp only [List.nil_append, List.cons_append] at H)
    | (go_at_call 197; go_loud ((with_reducible refine (tag_calls g off 256 cap (anchorB s turn place ring) _ (H.at 0 rfl : _ ∧ BytesAt _ g off (anchorB s turn place ring)).2 (anchorB_len _ _ _ _) (by omega) HC.out (by omega)).mono ?_); rintro e W' ⟨rfl, rfl⟩; rw [z1.out]))
    | (go_at_call 198; go_loud ((with_reducible refine (num8 g off 256 cap (anchorB s turn place ring) 8 8 (by decide) _ (H.at 0 rfl : _ ∧ BytesAt _ g off (anchorB s turn place ring)).2 (anchorB_len _ _ _ _) (by omega) HC.out (by omega)).mono ?_); rintro e W' ⟨rfl, rfl⟩; rw [z2.out]))
    | (go_at_call 198; ((with_reducible refine (num4 g off 256 cap (anchorB s turn place ring) 16 16 (by decide) _ (H.at 0 rfl : _ ∧ BytesAt _ g off (anchorB s turn place ring)).2 (anchorB_len _ _ _ _) (by omega) HC.out (by omega)).mono ?_); rintro e W' ⟨rfl, rfl⟩; rw [z3.out]))
    | (go_at_call 198; ((with_reducible refine (num4 g off 256 cap (anchorB s turn place ring) 20 20 (by decide) _ (H.at 0 rfl : _ ∧ BytesAt _ g off (anchorB s turn place ring)).2 (anchorB_len _ _ _ _) (by omega) HC.out (by omega)).mono ?_); rintro e W' ⟨rfl, rfl⟩; rw [z4.out]))
    | go_loud (refine wpList_storerow_st H 2 rfl 130 _ _ rfl _ (aR S T 0 0).toArray rfl rfl _ _ rfl size_anchor rfl (aR_all _ _ _ _) ?_; clear H; intro W H; simp only [List.set_cons_zero, List.set_cons_succ] at H))
  replace H := H.drew
  have c0 := row_cell (H.at 2 rfl) (off := 0) (v := .int .u64 S) rfl
  have c1 := row_cell (H.at 2 rfl) (off := 1) (v := .int .u64 T) rfl
  refine wp_region_held_drew (S := fun w' => w'.cell? ⟨g6, 0, none⟩ = some (.int .u64 S) ∧ w'.cell? ⟨g6, 1, none⟩ = some (.int .u64 T)) (by kernel_rfl) ⟨c0, c1⟩ (fun hHeld => ?_)
  (refine wpAnyH_take (i := 0) (v := ?_) rfl (by kernel_rfl) (by kernel_rfl) (by kernel_rfl) (fun _ _ _ h => h) (Or.inl ⟨by rfl, ?_⟩) (by assumption) ?_; rotate_left; focus (intro w hSw; (try dsimp only at hSw); go_simp; all_goals (with_reducible rfl))); (try simp only [Act.put, List.setIfInBounds_toArray, List.set_cons_zero, List.set_cons_succ, List.getElem_toArray, List.getElem_cons_succ, List.getElem_cons_zero])
  (refine wpAnyH_take (i := 1) rfl (by kernel_rfl) (by kernel_rfl) (by kernel_rfl) (fun _ _ _ h => h) ((yieldsIf_load1 (by rfl) 104 _ rfl _ _ (by rfl) _ Tryz.underlying104 rfl _ (fun w h => h.1))) (by assumption) ?_); (try simp only [Act.put, List.setIfInBounds_toArray, List.set_cons_zero, List.set_cons_succ, List.getElem_toArray, List.getElem_cons_succ, List.getElem_cons_zero])
  (refine wpAnyH_take (i := 2) (v := ?_) rfl (by kernel_rfl) (by kernel_rfl) (by kernel_rfl) (fun _ _ _ h => h) (Or.inl ⟨by rfl, ?_⟩) (by assumption) ?_; rotate_left; focus (intro w hSw; (try dsimp only at hSw); go_simp; all_goals (with_reducible rfl))); (try simp only [Act.put, List.setIfInBounds_toArray, List.set_cons_zero, List.set_cons_succ, List.getElem_toArray, List.getElem_cons_succ, List.getElem_cons_zero])
  (refine wpAnyH_take (i := 3) (v := ?_) rfl (by kernel_rfl) (by kernel_rfl) (by kernel_rfl) (fun _ _ _ h => h) (Or.inl ⟨by rfl, ?_⟩) (by assumption) ?_; rotate_left; focus (intro w hSw; (try dsimp only at hSw); go_simp; all_goals (with_reducible rfl))); (try simp only [Act.put, List.setIfInBounds_toArray, List.set_cons_zero, List.set_cons_succ, List.getElem_toArray, List.getElem_cons_succ, List.getElem_cons_zero])
  (refine wpAnyH_take (i := 4) (v := ?_) rfl (by kernel_rfl) (by kernel_rfl) (by kernel_rfl) (fun _ _ _ h => h) (Or.inl ⟨by rfl, ?_⟩) (by assumption) ?_; rotate_left; focus (intro w hSw; (try dsimp only at hSw); go_simp; all_goals (with_reducible rfl))); (try simp only [Act.put, List.setIfInBounds_toArray, List.set_cons_zero, List.set_cons_succ, List.getElem_toArray, List.getElem_cons_succ, List.getElem_cons_zero])
  (refine wpAnyH_take (i := 5) rfl (by kernel_rfl) (by kernel_rfl) (by kernel_rfl) (fun _ _ _ h => h) ((yieldsIf_load1 (by rfl) 104 _ rfl _ _ (by rfl) _ Tryz.underlying104 rfl _ (fun w h => h.1))) (by assumption) ?_); (try simp only [Act.put, List.setIfInBounds_toArray, List.set_cons_zero, List.set_cons_succ, List.getElem_toArray, List.getElem_cons_succ, List.getElem_cons_zero])
  (refine wpAnyH_take (i := 6) (v := ?_) rfl (by kernel_rfl) (by kernel_rfl) (by kernel_rfl) (fun _ _ _ h => h) (Or.inl ⟨by rfl, ?_⟩) (by assumption) ?_; rotate_left; focus (intro w hSw; (try dsimp only at hSw); go_simp; all_goals (with_reducible rfl))); (try simp only [Act.put, List.setIfInBounds_toArray, List.set_cons_zero, List.set_cons_succ, List.getElem_toArray, List.getElem_cons_succ, List.getElem_cons_zero])
  (refine wpAnyH_ready (rs := [7]) (by kernel_rfl) (by simp) (AllReadyH.cons rfl (fun K hK => ?_) AllReadyH.nil)); (rw [if_pos (by rfl)]); (go_simp; go_at_call 198; (refine (num8 g off 256 cap (anchorB s turn place ring) 248 248 (by decide) _ (H.at 0 rfl : _ ∧ BytesAt _ g off (anchorB s turn place ring)).2 (anchorB_len _ _ _ _) (by omega) HC.out (by omega)).mono ?_); rintro e W' ⟨rfl, rfl⟩; rw [z5.out]; (try dsimp only); refine hK.out _ _ ⟨c0, c1⟩ (fun hHeld2 => ?_); clear hK K) ; (try simp only [Act.put, List.setIfInBounds_toArray, List.set_cons_zero, List.set_cons_succ, List.getElem_toArray, List.getElem_cons_succ, List.getElem_cons_zero])
  (refine wpAnyH_take (i := 8) (v := ?_) rfl (by kernel_rfl) (by kernel_rfl) (by kernel_rfl) (fun _ _ _ h => h) (Or.inl ⟨by rfl, ?_⟩) (by assumption) ?_; rotate_left; focus (intro w hSw; (try dsimp only at hSw); go_simp; all_goals (with_reducible rfl))); (try simp only [Act.put, List.setIfInBounds_toArray, List.set_cons_zero, List.set_cons_succ, List.getElem_toArray, List.getElem_cons_succ, List.getElem_cons_zero])
  (refine wpAnyH_take (i := 9) (v := ?_) rfl (by kernel_rfl) (by kernel_rfl) (by kernel_rfl) (fun _ _ _ h => h) (Or.inl ⟨by rfl, ?_⟩) (by assumption) ?_; rotate_left; focus (intro w hSw; (try dsimp only at hSw); go_simp; all_goals (with_reducible rfl))); (try simp only [Act.put, List.setIfInBounds_toArray, List.set_cons_zero, List.set_cons_succ, List.getElem_toArray, List.getElem_cons_succ, List.getElem_cons_zero])
  (refine wpAnyH_take (i := 10) (v := ?_) rfl (by kernel_rfl) (by kernel_rfl) (by kernel_rfl) (fun _ _ _ h => h) (Or.inl ⟨by rfl, ?_⟩) (by assumption) ?_; rotate_left; focus (intro w hSw; (try dsimp only at hSw); go_simp; all_goals (with_reducible rfl))); (try simp only [Act.put, List.setIfInBounds_toArray, List.set_cons_zero, List.set_cons_succ, List.getElem_toArray, List.getElem_cons_succ, List.getElem_cons_zero])
  (refine wpAnyH_take (i := 11) (v := ?_) rfl (by kernel_rfl) (by kernel_rfl) (by kernel_rfl) (fun _ _ _ h => h) (Or.inl ⟨by rfl, ?_⟩) (by assumption) ?_; rotate_left; focus (intro w hSw; (try dsimp only at hSw); go_simp; all_goals (with_reducible rfl))); (try simp only [Act.put, List.setIfInBounds_toArray, List.set_cons_zero, List.set_cons_succ, List.getElem_toArray, List.getElem_cons_succ, List.getElem_cons_zero])
  (refine wpAnyH_take (i := 12) rfl (by kernel_rfl) (by kernel_rfl) (by kernel_rfl) (fun _ _ _ h => h) ((yieldsIf_load1 (by rfl) 104 _ rfl _ _ (by rfl) _ Tryz.underlying104 rfl _ (fun w h => h.2))) (by assumption) ?_); (try simp only [Act.put, List.setIfInBounds_toArray, List.set_cons_zero, List.set_cons_succ, List.getElem_toArray, List.getElem_cons_succ, List.getElem_cons_zero])
  (refine wpAnyH_take (i := 13) (v := ?_) rfl (by kernel_rfl) (by kernel_rfl) (by kernel_rfl) (fun _ _ _ h => h) (Or.inl ⟨by rfl, ?_⟩) (by assumption) ?_; rotate_left; focus (intro w hSw; (try dsimp only at hSw); go_simp; all_goals (with_reducible rfl))); (try simp only [Act.put, List.setIfInBounds_toArray, List.set_cons_zero, List.set_cons_succ, List.getElem_toArray, List.getElem_cons_succ, List.getElem_cons_zero])
  (refine wpAnyH_take (i := 14) (v := ?_) rfl (by kernel_rfl) (by kernel_rfl) (by kernel_rfl) (fun _ _ _ h => h) (Or.inl ⟨by rfl, ?_⟩) (by assumption) ?_; rotate_left; focus (intro w hSw; (try dsimp only at hSw); go_simp; all_goals (with_reducible rfl))); (try simp only [Act.put, List.setIfInBounds_toArray, List.set_cons_zero, List.set_cons_succ, List.getElem_toArray, List.getElem_cons_succ, List.getElem_cons_zero])
  (refine wpAnyH_take (i := 15) (v := ?_) rfl (by kernel_rfl) (by kernel_rfl) (by kernel_rfl) (fun _ _ _ h => h) (Or.inl ⟨by rfl, ?_⟩) (by assumption) ?_; rotate_left; focus (intro w hSw; (try dsimp only at hSw); go_simp; all_goals (with_reducible rfl))); (try simp only [Act.put, List.setIfInBounds_toArray, List.set_cons_zero, List.set_cons_succ, List.getElem_toArray, List.getElem_cons_succ, List.getElem_cons_zero])
  (refine wpAnyH_take (i := 16) (v := ?_) rfl (by kernel_rfl) (by kernel_rfl) (by kernel_rfl) (fun _ _ _ h => h) (Or.inl ⟨by rfl, ?_⟩) (by assumption) ?_; rotate_left; focus (intro w hSw; (try dsimp only at hSw); go_simp; all_goals (with_reducible rfl))); (try simp only [Act.put, List.setIfInBounds_toArray, List.set_cons_zero, List.set_cons_succ, List.getElem_toArray, List.getElem_cons_succ, List.getElem_cons_zero])
  (refine wpAnyH_take (i := 17) rfl (by kernel_rfl) (by kernel_rfl) (by kernel_rfl) (fun _ _ _ h => h) ((yieldsIf_load1 (by rfl) 104 _ rfl _ _ (by rfl) _ Tryz.underlying104 rfl _ (fun w h => h.2))) (by assumption) ?_); (try simp only [Act.put, List.setIfInBounds_toArray, List.set_cons_zero, List.set_cons_succ, List.getElem_toArray, List.getElem_cons_succ, List.getElem_cons_zero])
  (refine wpAnyH_take (i := 18) (v := ?_) rfl (by kernel_rfl) (by kernel_rfl) (by kernel_rfl) (fun _ _ _ h => h) (Or.inl ⟨by rfl, ?_⟩) (by assumption) ?_; rotate_left; focus (intro w hSw; (try dsimp only at hSw); go_simp; all_goals (with_reducible rfl))); (try simp only [Act.put, List.setIfInBounds_toArray, List.set_cons_zero, List.set_cons_succ, List.getElem_toArray, List.getElem_cons_succ, List.getElem_cons_zero])
  (refine wpAnyH_take (i := 19) (v := ?_) rfl (by kernel_rfl) (by kernel_rfl) (by kernel_rfl) (fun _ _ _ h => h) (Or.inl ⟨by rfl, ?_⟩) (by assumption) ?_; rotate_left; focus (intro w hSw; (try dsimp only at hSw); go_simp; all_goals (with_reducible rfl))); (try simp only [Act.put, List.setIfInBounds_toArray, List.set_cons_zero, List.set_cons_succ, List.getElem_toArray, List.getElem_cons_succ, List.getElem_cons_zero])
  (refine wpAnyH_take (i := 20) (v := ?_) rfl (by kernel_rfl) (by kernel_rfl) (by kernel_rfl) (fun _ _ _ h => h) (Or.inl ⟨by rfl, ?_⟩) (by assumption) ?_; rotate_left; focus (intro w hSw; (try dsimp only at hSw); go_simp; all_goals (with_reducible rfl))); (try simp only [Act.put, List.setIfInBounds_toArray, List.set_cons_zero, List.set_cons_succ, List.getElem_toArray, List.getElem_cons_succ, List.getElem_cons_zero])
  (refine wpAnyH_take (i := 21) (v := ?_) rfl (by kernel_rfl) (by kernel_rfl) (by kernel_rfl) (fun _ _ _ h => h) (Or.inl ⟨by rfl, ?_⟩) (by assumption) ?_; rotate_left; focus (intro w hSw; (try dsimp only at hSw); go_simp; all_goals (with_reducible rfl))); (try simp only [Act.put, List.setIfInBounds_toArray, List.set_cons_zero, List.set_cons_succ, List.getElem_toArray, List.getElem_cons_succ, List.getElem_cons_zero])
  (refine wpAnyH_take (i := 22) (v := ?_) rfl (by kernel_rfl) (by kernel_rfl) (by kernel_rfl) (fun _ _ _ h => h) (Or.inl ⟨by rfl, ?_⟩) (by assumption) ?_; rotate_left; focus (intro w hSw; (try dsimp only at hSw); go_simp; all_goals (with_reducible rfl))); (try simp only [Act.put, List.setIfInBounds_toArray, List.set_cons_zero, List.set_cons_succ, List.getElem_toArray, List.getElem_cons_succ, List.getElem_cons_zero])
  (refine wpAnyH_take (i := 23) (v := ?_) rfl (by kernel_rfl) (by kernel_rfl) (by kernel_rfl) (fun _ _ _ h => h) (Or.inl ⟨by rfl, ?_⟩) (by assumption) ?_; rotate_left; focus (intro w hSw; (try dsimp only at hSw); go_simp; all_goals (with_reducible rfl))); (try simp only [Act.put, List.setIfInBounds_toArray, List.set_cons_zero, List.set_cons_succ, List.getElem_toArray, List.getElem_cons_succ, List.getElem_cons_zero])
  (refine wpAnyH_take (i := 24) (v := ?_) rfl (by kernel_rfl) (by kernel_rfl) (by kernel_rfl) (fun _ _ _ h => h) (Or.inl ⟨by rfl, ?_⟩) (by assumption) ?_; rotate_left; focus (intro w hSw; (try dsimp only at hSw); go_simp; all_goals (with_reducible rfl))); (try simp only [Act.put, List.setIfInBounds_toArray, List.set_cons_zero, List.set_cons_succ, List.getElem_toArray, List.getElem_cons_succ, List.getElem_cons_zero])
  (refine wpAnyH_take (i := 25) (v := ?_) rfl (by kernel_rfl) (by kernel_rfl) (by kernel_rfl) (fun _ _ _ h => h) (Or.inl ⟨by rfl, ?_⟩) (by assumption) ?_; rotate_left; focus (intro w hSw; (try dsimp only at hSw); go_simp; all_goals (with_reducible rfl))); (try simp only [Act.put, List.setIfInBounds_toArray, List.set_cons_zero, List.set_cons_succ, List.getElem_toArray, List.getElem_cons_succ, List.getElem_cons_zero])
  (refine wpAnyH_take (i := 26) (v := ?_) rfl (by kernel_rfl) (by kernel_rfl) (by kernel_rfl) (fun _ _ _ h => h) (Or.inl ⟨by rfl, ?_⟩) (by assumption) ?_; rotate_left; focus (intro w hSw; (try dsimp only at hSw); go_simp; all_goals (with_reducible rfl))); (try simp only [Act.put, List.setIfInBounds_toArray, List.set_cons_zero, List.set_cons_succ, List.getElem_toArray, List.getElem_cons_succ, List.getElem_cons_zero])
  (refine wpAnyH_take (i := 27) (v := ?_) rfl (by kernel_rfl) (by kernel_rfl) (by kernel_rfl) (fun _ _ _ h => h) (Or.inl ⟨by rfl, ?_⟩) (by assumption) ?_; rotate_left; focus (intro w hSw; (try dsimp only at hSw); go_simp; all_goals (with_reducible rfl))); (try simp only [Act.put, List.setIfInBounds_toArray, List.set_cons_zero, List.set_cons_succ, List.getElem_toArray, List.getElem_cons_succ, List.getElem_cons_zero])
  (refine wpAnyH_take (i := 28) (v := ?_) rfl (by kernel_rfl) (by kernel_rfl) (by kernel_rfl) (fun _ _ _ h => h) (Or.inl ⟨by rfl, ?_⟩) (by assumption) ?_; rotate_left; focus (intro w hSw; (try dsimp only at hSw); go_simp; all_goals (with_reducible rfl))); (try simp only [Act.put, List.setIfInBounds_toArray, List.set_cons_zero, List.set_cons_succ, List.getElem_toArray, List.getElem_cons_succ, List.getElem_cons_zero])
  (refine wpAnyH_take (i := 29) (v := ?_) rfl (by kernel_rfl) (by kernel_rfl) (by kernel_rfl) (fun _ _ _ h => h) (Or.inl ⟨by rfl, ?_⟩) (by assumption) ?_; rotate_left; focus (intro w hSw; (try dsimp only at hSw); go_simp; all_goals (with_reducible rfl))); (try simp only [Act.put, List.setIfInBounds_toArray, List.set_cons_zero, List.set_cons_succ, List.getElem_toArray, List.getElem_cons_succ, List.getElem_cons_zero])
  (refine wpAnyH_take (i := 30) (v := ?_) rfl (by kernel_rfl) (by kernel_rfl) (by kernel_rfl) (fun _ _ _ h => h) (Or.inl ⟨by rfl, ?_⟩) (by assumption) ?_; rotate_left; focus (intro w hSw; (try dsimp only at hSw); go_simp; all_goals (with_reducible rfl))); (try simp only [Act.put, List.setIfInBounds_toArray, List.set_cons_zero, List.set_cons_succ, List.getElem_toArray, List.getElem_cons_succ, List.getElem_cons_zero])
  (refine wpAnyH_take (i := 31) (v := ?_) rfl (by kernel_rfl) (by kernel_rfl) (by kernel_rfl) (fun _ _ _ h => h) (Or.inl ⟨by rfl, ?_⟩) (by assumption) ?_; rotate_left; focus (intro w hSw; (try dsimp only at hSw); go_simp; all_goals (with_reducible rfl))); (try simp only [Act.put, List.setIfInBounds_toArray, List.set_cons_zero, List.set_cons_succ, List.getElem_toArray, List.getElem_cons_succ, List.getElem_cons_zero])
  (refine wpAnyH_take (i := 32) (v := ?_) rfl (by kernel_rfl) (by kernel_rfl) (by kernel_rfl) (fun _ _ _ h => h) (Or.inl ⟨by rfl, ?_⟩) (by assumption) ?_; rotate_left; focus (intro w hSw; (try dsimp only at hSw); go_simp; all_goals (with_reducible rfl))); (try simp only [Act.put, List.setIfInBounds_toArray, List.set_cons_zero, List.set_cons_succ, List.getElem_toArray, List.getElem_cons_succ, List.getElem_cons_zero])
  (refine wpAnyH_take (i := 33) (v := ?_) rfl (by kernel_rfl) (by kernel_rfl) (by kernel_rfl) (fun _ _ _ h => h) (Or.inl ⟨by rfl, ?_⟩) (by assumption) ?_; rotate_left; focus (intro w hSw; (try dsimp only at hSw); go_simp; all_goals (with_reducible rfl))); (try simp only [Act.put, List.setIfInBounds_toArray, List.set_cons_zero, List.set_cons_succ, List.getElem_toArray, List.getElem_cons_succ, List.getElem_cons_zero])
  (refine wpAnyH_take (i := 34) (v := ?_) rfl (by kernel_rfl) (by kernel_rfl) (by kernel_rfl) (fun _ _ _ h => h) (Or.inl ⟨by rfl, ?_⟩) (by assumption) ?_; rotate_left; focus (intro w hSw; (try dsimp only at hSw); go_simp; all_goals (with_reducible rfl))); (try simp only [Act.put, List.setIfInBounds_toArray, List.set_cons_zero, List.set_cons_succ, List.getElem_toArray, List.getElem_cons_succ, List.getElem_cons_zero])
  (refine wpAnyH_take (i := 35) (v := ?_) rfl (by kernel_rfl) (by kernel_rfl) (by kernel_rfl) (fun _ _ _ h => h) (Or.inl ⟨by rfl, ?_⟩) (by assumption) ?_; rotate_left; focus (intro w hSw; (try dsimp only at hSw); go_simp; all_goals (with_reducible rfl))); (try simp only [Act.put, List.setIfInBounds_toArray, List.set_cons_zero, List.set_cons_succ, List.getElem_toArray, List.getElem_cons_succ, List.getElem_cons_zero])
  (refine wpAnyH_take (i := 36) (v := ?_) rfl (by kernel_rfl) (by kernel_rfl) (by kernel_rfl) (fun _ _ _ h => h) (Or.inl ⟨by rfl, ?_⟩) (by assumption) ?_; rotate_left; focus (intro w hSw; (try dsimp only at hSw); go_simp; all_goals (with_reducible rfl))); (try simp only [Act.put, List.setIfInBounds_toArray, List.set_cons_zero, List.set_cons_succ, List.getElem_toArray, List.getElem_cons_succ, List.getElem_cons_zero])
  (refine wpAnyH_take (i := 37) (v := ?_) rfl (by kernel_rfl) (by kernel_rfl) (by kernel_rfl) (fun _ _ _ h => h) (Or.inl ⟨by rfl, ?_⟩) (by assumption) ?_; rotate_left; focus (intro w hSw; (try dsimp only at hSw); go_simp; all_goals (with_reducible rfl))); (try simp only [Act.put, List.setIfInBounds_toArray, List.set_cons_zero, List.set_cons_succ, List.getElem_toArray, List.getElem_cons_succ, List.getElem_cons_zero])
  (refine wpAnyH_take (i := 38) (v := ?_) rfl (by kernel_rfl) (by kernel_rfl) (by kernel_rfl) (fun _ _ _ h => h) (Or.inl ⟨by rfl, ?_⟩) (by assumption) ?_; rotate_left; focus (intro w hSw; (try dsimp only at hSw); go_simp; all_goals (with_reducible rfl))); (try simp only [Act.put, List.setIfInBounds_toArray, List.set_cons_zero, List.set_cons_succ, List.getElem_toArray, List.getElem_cons_succ, List.getElem_cons_zero])
  (refine wpAnyH_take (i := 39) (v := ?_) rfl (by kernel_rfl) (by kernel_rfl) (by kernel_rfl) (fun _ _ _ h => h) (Or.inl ⟨by rfl, ?_⟩) (by assumption) ?_; rotate_left; focus (intro w hSw; (try dsimp only at hSw); go_simp; all_goals (with_reducible rfl))); (try simp only [Act.put, List.setIfInBounds_toArray, List.set_cons_zero, List.set_cons_succ, List.getElem_toArray, List.getElem_cons_succ, List.getElem_cons_zero])
  (refine wpAnyH_take (i := 40) (v := ?_) rfl (by kernel_rfl) (by kernel_rfl) (by kernel_rfl) (fun _ _ _ h => h) (Or.inl ⟨by rfl, ?_⟩) (by assumption) ?_; rotate_left; focus (intro w hSw; (try dsimp only at hSw); go_simp; all_goals (with_reducible rfl))); (try simp only [Act.put, List.setIfInBounds_toArray, List.set_cons_zero, List.set_cons_succ, List.getElem_toArray, List.getElem_cons_succ, List.getElem_cons_zero])
  (refine wpAnyH_done (by kernel_rfl) ?_ _)
  clear c0 c1 f0 f1 f2 f3 f4 f5 f7 w1 w2
  go_wp2_with (first
    | (refine wpList_store1_st H 2 rfl 3 _ _ rfl _ _ (.int .i64 _) rfl rfl rfl _ _ rfl rfl (by simp [aR]) ?_; clear H; intro W H; simp only [List.set_cons_zero, List.set_cons_succ] at H)
    | (refine wpList_loadrow_st rfl 130 _ rfl _ rfl _ _ _ (H.at 2 rfl) _ Tryz.underlying130 rfl size_anchor ?_)
    | (refine wpList_storerow_st H 1 rfl 130 _ _ rfl _ (aR S T Pl Rg).toArray rfl rfl _ _ rfl size_anchor rfl (aR_all _ _ _ _) ?_; clear H; intro W H; simp only [List.set_cons_zero, List.set_cons_succ] at H))
  refine bodyPost_ret (results_cell_row_tmp rfl _ _ g4 _ _ _ _ rfl (H.at 1 rfl) Tryz.underlying130 rfl size_anchor) rfl ?_
  exact ⟨rfl, H.fix.below⟩

end Go.Proofs.YtlgciddnpinpbaaGreatDoor

namespace Go.Proofs.YtlgciddnpinpbaaGreatDoor
open Go.RowKit
set_option linter.unusedSimpArgs false
set_option linter.unusedVariables false
set_option maxRecDepth 4000

theorem within_nil (w : World) : Calls Tryz.prog 131 #[.nilIface] w fun e w' => e = .returned .nilIface ∧ w = w' := by
  go_enter Tryz.func131, Tryz.ntmps131
  go_wp2
  go_ret
  exact ⟨rfl, rfl⟩

/-- No group stands where the next one would. -/
structure NoGroup (X : LS) (D : DS) (N : Nat) : Prop where
  dead : D.dead = false
  len : D.last.length = N
  r0 : 0 < X.ring
  r2 : X.ring ≤ 512
  fit : 2 + X.ring ≤ N
  place : X.place < X.ring
  turn : X.turn < 2305843009213693952
  sect : D.sect (2 + X.place) = noSect

theorem mark_no {w : World} {g gd gm : Nat} {X : LS} {M : DataW Value} {rm : Nat → Prop} {n : Nat} {D : DS} {own rd : Nat → Prop} (hb : Bundle w (logL g gd gm X M rm n D own rd)) {N : Nat} (hg : NoGroup X D N) :
    Calls Tryz.prog 199 #[.pointer (some ⟨g, 0, none⟩)] w fun e w' => e = .returned (.tuple #[.slice none 0 0, .nilIface]) ∧
      BunTo w (ownL (logL g gd gm X M rm n D own rd)) (rdL (logL g gd gm X M rm n D own rd)) (logL g gd gm X M rm n D own rd) w' := by
  have H := hb.open_
  have HG := Lib.hid hg
  have e1 := Lib.hid (show 2 + X.place % X.ring = 2 + X.place by rw [Nat.mod_eq_of_lt hg.place])
  have ht : (X.turn : Int) < 2305843009213693952 := by have := hg.turn; omega
  have ht0 : 0 ≤ (X.turn : Int) := by omega
  have b1 : ((0 : Int) != 2 * (X.turn : Int) + 1) = true := by
    have : ((0 : Int) == 2 * (X.turn : Int) + 1) = false := beq_eq_false_iff_ne.2 (by omega)
    simp [bne, this]
  have z1 := Lib.hid (le_none 0 8)
  have z2 := Lib.hid (le_none 8 2)
  clear hb hg
  go_enter Tryz.func199, Tryz.ntmps199
  go_wp2_with (first
    | (refine wpList_load1_st rfl 3 _ rfl _ _ rfl _ _ _ (H.at 0 rfl) _ Tryz.underlying3 rfl _ (lRow5 _ _ _ _ _ _ _ _ _) ?_)
    | (refine wpList_load1_st rfl 104 _ rfl _ _ rfl _ _ _ (H.at 0 rfl) _ Tryz.underlying104 rfl _ (lRow4 _ _ _ _ _ _ _ _ _) ?_)
    | (go_at_call 144; go_loud ((with_reducible refine (at_calls (g := g) (gd := gd) (gm := gm) (X := X) (M := M) (rm := rm) (n := n) (D := D) (own := own) (rd := rd) H.bundle _ X.place rfl HG.out.r0 HG.out.r2).mono ?_); rintro e W' ⟨rfl, rfl⟩; rw [e1.out]))
    | (go_at_call 69; go_loud ((with_reducible refine (lread_ok (g := g) (gd := gd) (gm := gm) (X := X) (M := M) (rm := rm) (n := n) (D := D) (own := own) (rd := rd) H.bundle HG.out.dead (2 + (X.place : Int)) (2 + X.place) (by omega) (by have := HG.out.len; have := HG.out.fit; have := HG.out.place; omega)).mono ?_); rintro e W ⟨gc, cap, junk, rfl, hl2, ha2, hag, hto⟩; replace H := hto.front2 (R := []) H; clear hto; rw [HG.out.sect] at H; simp only [logL, List.nil_append, List.cons_append, List.append_nil] at H))
    | (go_at_call 198; go_loud ((with_reducible refine (num2 gc 0 256 cap noSect 8 8 (by decide) _ (BytesAt.front (H.at 4 rfl)) noSect_len (by omega) ha2 (by omega)).mono ?_); rintro e W' ⟨rfl, rfl⟩; rw [z2.out]))
    | (go_at_call 197; go_loud ((with_reducible refine (tag_calls gc 0 256 cap noSect _ (BytesAt.front (H.at 4 rfl)) noSect_len (by omega) ha2 (by omega)).mono ?_); rintro e W' ⟨rfl, rfl⟩; rw [z1.out])))
  refine bodyPost_ret (results_tmp2 rfl _ _ _) rfl ?_
  exact ⟨rfl, (H.take 4).bunTo⟩

theorem group_no {w : World} {g gd gm : Nat} {X : LS} {M : DataW Value} {rm : Nat → Prop} {n : Nat} {D : DS} {own rd : Nat → Prop} (hb : Bundle w (logL g gd gm X M rm n D own rd)) {N : Nat} (hg : NoGroup X D N) :
    Calls Tryz.prog 172 #[.pointer (some ⟨g, 0, none⟩)] w fun e w' => e = .returned (.tuple #[.map none, .nilIface]) ∧
      BunTo w (ownL (logL g gd gm X M rm n D own rd)) (rdL (logL g gd gm X M rm n D own rd)) (logL g gd gm X M rm n D own rd) w' := by
  have HM := Lib.hid (mark_no hb hg)
  clear hb hg
  go_enter Tryz.func172, Tryz.ntmps172
  go_wp2_with (first
    | (go_at_call 199; go_loud ((with_reducible refine (HM.out).mono ?_); rintro e W ⟨rfl, hto⟩)))
  refine bodyPost_ret (results_tmp2 rfl _ _ _) rfl ?_
  exact ⟨rfl, hto⟩

theorem takes_no {w : World} {g gd gm : Nat} {X : LS} {M : DataW Value} {rm : Nat → Prop} {n : Nat} {D : DS} {own rd : Nat → Prop} (hb : Bundle w (logL g gd gm X M rm n D own rd)) {N : Nat} (hg : NoGroup X D N) :
    Calls Tryz.prog 132 #[.pointer (some ⟨g, 0, none⟩)] w fun e w' => e = .returned .nilIface ∧
      BunTo w (ownL (logL g gd gm X M rm n D own rd)) (rdL (logL g gd gm X M rm n D own rd)) (logL g gd gm X M rm n D own rd) w' := by
  have HM := Lib.hid (group_no hb hg)
  clear hb hg
  go_enter Tryz.func132, Tryz.ntmps132
  go_wp2
  go_loopw [3, 4] (fun _ _ wr => wr = w) (fun _ _ _ => 0)
  case atStart => rfl
  case round =>
    subst hrel
    go_wp2_with (first
      | (go_at_call 172; go_loud ((with_reducible refine (HM.out).mono ?_); rintro e W ⟨rfl, hto⟩))
      | (go_at_call 131; (with_reducible refine (within_nil _).mono ?_); rintro e W' ⟨rfl, rfl⟩))
    go_ret
    exact ⟨rfl, hto⟩

end Go.Proofs.YtlgciddnpinpbaaGreatDoor

namespace Go.Proofs.YtlgciddnpinpbaaGreatDoor
open Go.RowKit
set_option linter.unusedSimpArgs false
set_option linter.unusedVariables false
set_option maxRecDepth 4000

section
variable {P : Program} {ops : Array Oper} {rest : List Oper} {o : Oper} {a : Act} {Q : Exit → Act → World → Prop}
variable {M0 R0 : Nat → Prop} {w0 W : World} {L : List Asrt}

/-- Some cells amid a row are stored. -/
theorem wpList_storemid_st (H : St M0 R0 w0 W L) (i : Nat) (hwt : Region.wanted o (yielded ops a.tmps) = true) (ty : TypeId) (x y : Operand) (ho : o.op = .store ty x y)
    (g off : Nat) (vs : List Value) (hx : a.eval x = .pointer (some ⟨g, off, none⟩)) (hy : a.eval y = .agg vs.toArray)
    (t : TypeId) (old : List Value) (hi : L[i]? = some (blk g (.cells old.toArray t (0, 0)))) (hn : (P.info? ty).map (·.size) = some vs.length) (hfit : off + vs.length ≤ old.length) (h1 : ∀ v ∈ vs, v.oneCell' = true)
    (h : ∀ W', St M0 R0 w0 W' (L.set i (blk g (.cells (old.take off ++ vs ++ old.drop (off + vs.length)).toArray t (0, 0)))) → wpList P ops Q rest (a.put o.dst undef) W') : wpList P ops Q (o :: rest) a W := by
  refine wpList_want hwt fun K hK => ?_
  have hg := H.at i hi
  have hst := run_storeCells_at P g off t vs 0 _ W hg (by simpa using hfit) h1
  simp only [Nat.add_zero, List.toList_toArray] at hst
  have h' := hK _ _ (h _ (H.setRow i hi _))
  cases hq : P.info? ty with
  | none => simp [hq] at hn
  | some j =>
    have hs : j.size = vs.length := by simpa [hq] using hn
    unfold Oper.wp execOp
    simp [ho, hx, hy, Instr.storeAt, Instr.sureAddr, storeVar, sizeOf, typeInfo, hq, hs, Value.cells, hst, Result.andThen]
    simp only [List.append_assoc] at h'
    exact h'
end

/-- A disk that was formatted, and not written since. -/
structure FreshD (D : DS) (N ring : Nat) : Prop where
  dead : D.dead = false
  len : D.last.length = N
  r1 : 8 ≤ ring
  r2 : ring ≤ 512
  fit : 8 + 2 + ring ≤ N
  top : N ≤ 1900
  s0 : D.sect 0 = noSect
  s1 : D.sect 1 = anchorB 1 1 0 ring
  rest : ∀ k, 2 ≤ k → k < N → D.sect k = noSect

def LS.found (X : LS) (s turn place ring : Nat) : LS := { X with s := s, turn := turn, place := place, ring := ring }

theorem agg_anchor (a b c d : Nat) : anchorV a b c d = .agg (anchorR a b c d).toArray := rfl
theorem anchorR_one (a b c d : Nat) : ∀ v ∈ anchorR a b c d, v.oneCell' = true := by
  intro v hv
  simp only [anchorR, List.mem_cons, List.not_mem_nil, or_false] at hv
  rcases hv with rfl | rfl | rfl | rfl <;> rfl

set_option maxHeartbeats 2000000 in
theorem find_fresh {w : World} {g gd gm : Nat} {X : LS} {M : DataW Value} {rm : Nat → Prop} {n : Nat} {D : DS} {own rd : Nat → Prop} (hb : Bundle w (logL g gd gm X M rm n D own rd)) (hX : X.s = 0) {N ring : Nat} (hf : FreshD D N ring) :
    Calls Tryz.prog 130 #[.pointer (some ⟨g, 0, none⟩)] w fun e w' => e = .returned .nilIface ∧
      BunTo w (ownL (logL g gd gm X M rm n D own rd)) (rdL (logL g gd gm X M rm n D own rd)) (logL g gd gm (X.found 1 1 0 ring) M rm n D own rd) w' := by
  have H := hb.open_
  obtain ⟨O, hO⟩ : ∃ O, ownL (logL g gd gm X M rm n D own rd) = O := ⟨_, rfl⟩
  obtain ⟨R, hR⟩ : ∃ R, rdL (logL g gd gm X M rm n D own rd) = R := ⟨_, rfl⟩
  rw [hO, hR] at H ⊢
  clear hO hR
  have HF := Lib.hid hf
  have HL := Lib.hid (show (D.last.length : Int) = (N : Int) by rw [hf.len])
  have HX := Lib.hid hX
  clear hb hf hX
  go_enter Tryz.func130, Tryz.ntmps130
  go_wp2
  go_loopw [8, 3, 4, 5, 6, 7] (fun i _ _ _ _ _ wr => ∃ (j : Nat), i = .int .i64 (j : Int) ∧ j ≤ 2 ∧
      St O R w wr (logL g gd gm (if j = 2 then X.found 1 1 0 ring else X) M rm n D own rd)) (fun i _ _ _ _ _ _ => 2 - (intOf i).toNat)
  case atStart => exact ⟨0, rfl, by omega, H⟩
  case round =>
    clear H
    obtain ⟨j, rfl, hj, H⟩ := hrel
    rcases (show j = 0 ∨ j = 1 ∨ j = 2 by omega) with rfl | rfl | rfl
    · rw [if_neg (by decide)] at H
      go_wp2_with (first
        | (refine wpList_load1_st rfl 24 _ rfl _ _ rfl _ _ _ (H.at 0 rfl) _ Tryz.underlying24 rfl _ (lRow0 _ _ _ _ _ _ _ _ _) ?_)
        | (go_at_call 69; go_loud ((with_reducible refine (lread_ok (g := g) (gd := gd) (gm := gm) (X := X) (M := M) (rm := rm) (n := n) (D := D) (own := own) (rd := rd) H.bundle HF.out.dead 0 0 (by decide) (by have := HF.out.len; have := HF.out.fit; omega)).mono ?_); rintro e W ⟨gc, cap, junk, rfl, hl2, ha2, hag, hto⟩; replace H := hto.front2 (R := []) H; clear hto; rw [HF.out.s0] at H; simp only [logL, List.nil_append, List.cons_append, List.append_nil] at H))
        | (go_at_call 91; go_loud ((with_reducible refine (len_calls (H.at 3 rfl)).mono ?_); rintro e W' ⟨rfl, rfl⟩; rw [HL.out]))
        | (go_at_call 171; go_loud ((with_reducible refine (stands_no gc 0 cap _ _ (BytesAt.front (H.at 4 rfl)) (Array.getElem?_eq_some_iff.1 (H.at 4 rfl : _ = some _)).1 ha2).mono ?_); rintro e W ⟨rfl, hbl⟩; replace H := H.stay (Fix.of_below hbl _); clear hbl))
        | (refine wpList_alloc_st H rfl 130 rfl _ zero_anchor ?_; clear H; intro W g6 H; rw [cells_anchorV] at H; simp only [List.nil_append, List.cons_append] at H)
        | (refine wpList_storerow_st H 5 rfl 130 _ _ rfl _ (anchorR 0 0 0 0).toArray rfl rfl _ _ rfl size_anchor rfl (anchorR_all _ _ _ _) ?_; clear H; intro W H; simp only [List.set_cons_zero, List.set_cons_succ] at H))
      refine wp_region_held_drew (S := fun _ => True) (by kernel_rfl) trivial (fun hHeld => ?_)
      (refine wpAnyH_take (i := 0) (v := ?_) rfl (by kernel_rfl) (by kernel_rfl) (by kernel_rfl) (fun _ _ _ h => h) (Or.inl ⟨by rfl, ?_⟩) (by assumption) ?_; rotate_left; focus (intro w hSw; (try dsimp only at hSw); go_simp; all_goals (with_reducible rfl))); (try simp only [Act.put, List.setIfInBounds_toArray, List.set_cons_zero, List.set_cons_succ, List.getElem_toArray, List.getElem_cons_succ, List.getElem_cons_zero])
      (refine wpAnyH_take (i := 1) (v := ?_) rfl (by kernel_rfl) (by kernel_rfl) (by kernel_rfl) (fun _ _ _ h => h) (Or.inl ⟨by rfl, ?_⟩) (by assumption) ?_; rotate_left; focus (intro w hSw; (try dsimp only at hSw); go_simp; all_goals (with_reducible rfl))); (try simp only [Act.put, List.setIfInBounds_toArray, List.set_cons_zero, List.set_cons_succ, List.getElem_toArray, List.getElem_cons_succ, List.getElem_cons_zero])
      (refine wpAnyH_take (i := 2) (v := undef) rfl (by kernel_rfl) (by kernel_rfl) (by kernel_rfl) (fun _ _ _ h => h) (Or.inr ⟨by rfl, rfl⟩) (by assumption) ?_); (try simp only [Act.put, List.setIfInBounds_toArray, List.set_cons_zero, List.set_cons_succ, List.getElem_toArray, List.getElem_cons_succ, List.getElem_cons_zero])
      (refine wpAnyH_take (i := 3) (v := undef) rfl (by kernel_rfl) (by kernel_rfl) (by kernel_rfl) (fun _ _ _ h => h) (Or.inr ⟨by rfl, rfl⟩) (by assumption) ?_); (try simp only [Act.put, List.setIfInBounds_toArray, List.set_cons_zero, List.set_cons_succ, List.getElem_toArray, List.getElem_cons_succ, List.getElem_cons_zero])
      (refine wpAnyH_take (i := 4) (v := undef) rfl (by kernel_rfl) (by kernel_rfl) (by kernel_rfl) (fun _ _ _ h => h) (Or.inr ⟨by rfl, rfl⟩) (by assumption) ?_); (try simp only [Act.put, List.setIfInBounds_toArray, List.set_cons_zero, List.set_cons_succ, List.getElem_toArray, List.getElem_cons_succ, List.getElem_cons_zero])
      (refine wpAnyH_take (i := 5) (v := undef) rfl (by kernel_rfl) (by kernel_rfl) (by kernel_rfl) (fun _ _ _ h => h) (Or.inr ⟨by rfl, rfl⟩) (by assumption) ?_); (try simp only [Act.put, List.setIfInBounds_toArray, List.set_cons_zero, List.set_cons_succ, List.getElem_toArray, List.getElem_cons_succ, List.getElem_cons_zero])
      (refine wpAnyH_take (i := 6) (v := undef) rfl (by kernel_rfl) (by kernel_rfl) (by kernel_rfl) (fun _ _ _ h => h) (Or.inr ⟨by rfl, rfl⟩) (by assumption) ?_); (try simp only [Act.put, List.setIfInBounds_toArray, List.set_cons_zero, List.set_cons_succ, List.getElem_toArray, List.getElem_cons_succ, List.getElem_cons_zero])
      (refine wpAnyH_take (i := 7) (v := undef) rfl (by kernel_rfl) (by kernel_rfl) (by kernel_rfl) (fun _ _ _ h => h) (Or.inr ⟨by rfl, rfl⟩) (by assumption) ?_); (try simp only [Act.put, List.setIfInBounds_toArray, List.set_cons_zero, List.set_cons_succ, List.getElem_toArray, List.getElem_cons_succ, List.getElem_cons_zero])
      (refine wpAnyH_take (i := 8) (v := undef) rfl (by kernel_rfl) (by kernel_rfl) (by kernel_rfl) (fun _ _ _ h => h) (Or.inr ⟨by rfl, rfl⟩) (by assumption) ?_); (try simp only [Act.put, List.setIfInBounds_toArray, List.set_cons_zero, List.set_cons_succ, List.getElem_toArray, List.getElem_cons_succ, List.getElem_cons_zero])
      (refine wpAnyH_take (i := 9) (v := undef) rfl (by kernel_rfl) (by kernel_rfl) (by kernel_rfl) (fun _ _ _ h => h) (Or.inr ⟨by rfl, rfl⟩) (by assumption) ?_); (try simp only [Act.put, List.setIfInBounds_toArray, List.set_cons_zero, List.set_cons_succ, List.getElem_toArray, List.getElem_cons_succ, List.getElem_cons_zero])
      (refine wpAnyH_take (i := 10) (v := ?_) rfl (by kernel_rfl) (by kernel_rfl) (by kernel_rfl) (fun _ _ _ h => h) (Or.inl ⟨by rfl, ?_⟩) (by assumption) ?_; rotate_left; focus (intro w hSw; (try dsimp only at hSw); go_simp; all_goals (with_reducible rfl))); (try simp only [Act.put, List.setIfInBounds_toArray, List.set_cons_zero, List.set_cons_succ, List.getElem_toArray, List.getElem_cons_succ, List.getElem_cons_zero])
      (refine wpAnyH_done (by kernel_rfl) ?_ _)
      replace H := H.drew.take 4
      clear hHeld
      go_wp2
      go_roundw
      case rel => exact ⟨1, rfl, by omega, H⟩
      case measure => simp [intOf]
    · rw [if_neg (by decide)] at H
      go_wp2_with (first
        | (refine wpList_load1_st rfl 24 _ rfl _ _ rfl _ _ _ (H.at 0 rfl) _ Tryz.underlying24 rfl _ (lRow0 _ _ _ _ _ _ _ _ _) ?_)
        | (go_at_call 69; go_loud ((with_reducible refine (lread_ok (g := g) (gd := gd) (gm := gm) (X := X) (M := M) (rm := rm) (n := n) (D := D) (own := own) (rd := rd) H.bundle HF.out.dead 1 1 (by decide) (by have := HF.out.len; have := HF.out.fit; omega)).mono ?_); rintro e W ⟨gc, cap, junk, rfl, hl2, ha2, hag, hto⟩; replace H := hto.front2 (R := []) H; clear hto; rw [HF.out.s1] at H; simp only [logL, List.nil_append, List.cons_append, List.append_nil] at H))
        | (go_at_call 91; go_loud ((with_reducible refine (len_calls (H.at 3 rfl)).mono ?_); rintro e W' ⟨rfl, rfl⟩; rw [HL.out]))
        | (go_at_call 171; go_loud ((with_reducible refine (stands_yes 1 1 0 ring gc 0 cap (N : Int) N rfl _ (by omega) (by omega) (by have := HF.out.r1; omega) ⟨HF.out.r1, HF.out.r2⟩ HF.out.fit HF.out.top (BytesAt.front (H.at 4 rfl)) (Array.getElem?_eq_some_iff.1 (H.at 4 rfl : _ = some _)).1 ha2).mono ?_); rintro e W ⟨rfl, hbl⟩; replace H := H.stay (Fix.of_below hbl _); clear hbl))
        | (refine wpList_alloc_st H rfl 130 rfl _ zero_anchor ?_; clear H; intro W g6 H; rw [cells_anchorV] at H; simp only [List.nil_append, List.cons_append] at H)
        | (refine wpList_storerow_st H 5 rfl 130 _ _ rfl _ (anchorR 1 1 0 ring).toArray rfl rfl _ _ rfl size_anchor rfl (anchorR_all _ _ _ _) ?_; clear H; intro W H; simp only [List.set_cons_zero, List.set_cons_succ] at H))
      simp only [HX.out] at H
      replace H := H.drew
      have c0 := row_cell (H.at 5 rfl) (anchorR0 _ _ _ _)
      have c1 := row_cell (H.at 0 rfl) (lRow3 _ _ _ _ _ _ _ _ _)
      refine wp_region_held_drew (S := fun w' => w'.cell? ⟨g6, 0, none⟩ = some (.int .u64 ((1 : Nat) : Int)) ∧ w'.cell? ⟨g, 3, none⟩ = some (.int .u64 ((0 : Nat) : Int))) (by kernel_rfl) ⟨c0, c1⟩ (fun hHeld => ?_)
      (refine wpAnyH_take (i := 0) (v := ?_) rfl (by kernel_rfl) (by kernel_rfl) (by kernel_rfl) (fun _ _ _ h => h) (Or.inl ⟨by rfl, ?_⟩) (by assumption) ?_; rotate_left; focus (intro w hSw; (try dsimp only at hSw); go_simp; all_goals (with_reducible rfl))); (try simp only [Act.put, List.setIfInBounds_toArray, List.set_cons_zero, List.set_cons_succ, List.getElem_toArray, List.getElem_cons_succ, List.getElem_cons_zero])
      (refine wpAnyH_take (i := 1) (v := ?_) rfl (by kernel_rfl) (by kernel_rfl) (by kernel_rfl) (fun _ _ _ h => h) (Or.inl ⟨by rfl, ?_⟩) (by assumption) ?_; rotate_left; focus (intro w hSw; (try dsimp only at hSw); go_simp; all_goals (with_reducible rfl))); (try simp only [Act.put, List.setIfInBounds_toArray, List.set_cons_zero, List.set_cons_succ, List.getElem_toArray, List.getElem_cons_succ, List.getElem_cons_zero])
      (refine wpAnyH_take (i := 2) (v := ?_) rfl (by kernel_rfl) (by kernel_rfl) (by kernel_rfl) (fun _ _ _ h => h) (Or.inl ⟨by rfl, ?_⟩) (by assumption) ?_; rotate_left; focus (intro w hSw; (try dsimp only at hSw); go_simp; all_goals (with_reducible rfl))); (try simp only [Act.put, List.setIfInBounds_toArray, List.set_cons_zero, List.set_cons_succ, List.getElem_toArray, List.getElem_cons_succ, List.getElem_cons_zero])
      (refine wpAnyH_take (i := 3) rfl (by kernel_rfl) (by kernel_rfl) (by kernel_rfl) (fun _ _ _ h => h) ((yieldsIf_load1 (by rfl) 104 _ rfl _ _ (by rfl) _ Tryz.underlying104 rfl _ (fun w h => h.1))) (by assumption) ?_); (try simp only [Act.put, List.setIfInBounds_toArray, List.set_cons_zero, List.set_cons_succ, List.getElem_toArray, List.getElem_cons_succ, List.getElem_cons_zero])
      (refine wpAnyH_take (i := 4) (v := ?_) rfl (by kernel_rfl) (by kernel_rfl) (by kernel_rfl) (fun _ _ _ h => h) (Or.inl ⟨by rfl, ?_⟩) (by assumption) ?_; rotate_left; focus (intro w hSw; (try dsimp only at hSw); go_simp; all_goals (with_reducible rfl))); (try simp only [Act.put, List.setIfInBounds_toArray, List.set_cons_zero, List.set_cons_succ, List.getElem_toArray, List.getElem_cons_succ, List.getElem_cons_zero])
      (refine wpAnyH_take (i := 5) (v := ?_) rfl (by kernel_rfl) (by kernel_rfl) (by kernel_rfl) (fun _ _ _ h => h) (Or.inl ⟨by rfl, ?_⟩) (by assumption) ?_; rotate_left; focus (intro w hSw; (try dsimp only at hSw); go_simp; all_goals (with_reducible rfl))); (try simp only [Act.put, List.setIfInBounds_toArray, List.set_cons_zero, List.set_cons_succ, List.getElem_toArray, List.getElem_cons_succ, List.getElem_cons_zero])
      (refine wpAnyH_take (i := 6) (v := ?_) rfl (by kernel_rfl) (by kernel_rfl) (by kernel_rfl) (fun _ _ _ h => h) (Or.inl ⟨by rfl, ?_⟩) (by assumption) ?_; rotate_left; focus (intro w hSw; (try dsimp only at hSw); go_simp; all_goals (with_reducible rfl))); (try simp only [Act.put, List.setIfInBounds_toArray, List.set_cons_zero, List.set_cons_succ, List.getElem_toArray, List.getElem_cons_succ, List.getElem_cons_zero])
      (refine wpAnyH_take (i := 7) (v := ?_) rfl (by kernel_rfl) (by kernel_rfl) (by kernel_rfl) (fun _ _ _ h => h) (Or.inl ⟨by rfl, ?_⟩) (by assumption) ?_; rotate_left; focus (intro w hSw; (try dsimp only at hSw); go_simp; all_goals (with_reducible rfl))); (try simp only [Act.put, List.setIfInBounds_toArray, List.set_cons_zero, List.set_cons_succ, List.getElem_toArray, List.getElem_cons_succ, List.getElem_cons_zero])
      (refine wpAnyH_take (i := 8) rfl (by kernel_rfl) (by kernel_rfl) (by kernel_rfl) (fun _ _ _ h => h) ((yieldsIf_load1 (by rfl) 104 _ rfl _ _ (by rfl) _ Tryz.underlying104 rfl _ (fun w h => h.2))) (by assumption) ?_); (try simp only [Act.put, List.setIfInBounds_toArray, List.set_cons_zero, List.set_cons_succ, List.getElem_toArray, List.getElem_cons_succ, List.getElem_cons_zero])
      (refine wpAnyH_take (i := 9) (v := ?_) rfl (by kernel_rfl) (by kernel_rfl) (by kernel_rfl) (fun _ _ _ h => h) (Or.inl ⟨by rfl, ?_⟩) (by assumption) ?_; rotate_left; focus (intro w hSw; (try dsimp only at hSw); go_simp; all_goals (with_reducible rfl))); (try simp only [Act.put, List.setIfInBounds_toArray, List.set_cons_zero, List.set_cons_succ, List.getElem_toArray, List.getElem_cons_succ, List.getElem_cons_zero])
      (refine wpAnyH_take (i := 10) (v := ?_) rfl (by kernel_rfl) (by kernel_rfl) (by kernel_rfl) (fun _ _ _ h => h) (Or.inl ⟨by rfl, ?_⟩) (by assumption) ?_; rotate_left; focus (intro w hSw; (try dsimp only at hSw); go_simp; all_goals (with_reducible rfl))); (try simp only [Act.put, List.setIfInBounds_toArray, List.set_cons_zero, List.set_cons_succ, List.getElem_toArray, List.getElem_cons_succ, List.getElem_cons_zero])
      (refine wpAnyH_done (by kernel_rfl) ?_ _)
      clear hHeld c0 c1
      go_wp2_with (first
        | (refine wpList_loadrow_st rfl 130 _ rfl _ rfl _ _ _ (H.at 5 rfl) _ Tryz.underlying130 rfl size_anchor ?_)
        | (refine wpList_storemid_st H 0 rfl 130 _ _ rfl g 3 (anchorR 1 1 0 ring) rfl rfl _ _ rfl size_anchor (by simp [lRow, anchorR]) (anchorR_one _ _ _ _) ?_; clear H; intro W H; simp only [List.set_cons_zero, List.set_cons_succ] at H))
      replace H := H.take 4
      replace H : St O R w _ (logL g gd gm (X.found 1 1 0 ring) M rm n D own rd) := H
      (try simp only [Act.put])
      go_roundw
      case rel => exact ⟨2, rfl, by omega, H⟩
      case measure => simp [intOf]
    · rw [if_pos rfl] at H
      have hji : ¬ ((2 : Int) < 2) := by omega
      have hs1 : (((X.found 1 1 0 ring).s : Int) == 0) = false := rfl
      go_wp2_with (first | (refine wpList_load1_st rfl 104 _ rfl _ _ rfl _ _ _ (H.at 0 rfl) _ Tryz.underlying104 rfl _ (lRow3 _ _ _ _ _ _ _ _ _) ?_))
      go_ret
      exact ⟨rfl, H.bunTo⟩

end Go.Proofs.YtlgciddnpinpbaaGreatDoor

namespace Go.Proofs.YtlgciddnpinpbaaGreatDoor
open Go.RowKit
set_option linter.unusedSimpArgs false
set_option linter.unusedVariables false
set_option maxRecDepth 4000

/-- len of a map that is ours. -/
theorem wpList_lenmap {P : Program} {ops : Array Oper} {rest : List Oper} {o : Oper} {a : Act} {Q : Exit → Act → World → Prop} {W : World} (hwt : Region.wanted o (yielded ops a.tmps) = true) (x : Operand) (T : TypeId)
    (ho : o.op = .call { callee := .builtin .len, args := #[x], argTypes := #[T] }) (b : Nat) (hx : a.eval x = .map (some b)) {k e : TypeId} {R : Value → Option (DataW Value × List MemPlace)} {n : Nat} {M : DataW Value} (hm : W.ownsMap P k R b n M) (ht : P.underlying T = some (.map k e))
    (h : wpList P ops Q rest (a.put o.dst (.int .i64 (Go.Maps.size M))) W) : wpList P ops Q (o :: rest) a W := by
  refine wpList_want hwt fun K hK => ?_
  have hr := hm.len (t := T) ht o.type
  unfold Oper.wp execOp
  simp only [ho, resolve, invoke, builtin, Sem.run_bind, Sem.run_pure, Result.andThen_ok, List.map_toArray, List.map_cons, List.map_nil, hx, hr]
  exact hK _ _ h

theorem FreshD.noGroup {X : LS} {D : DS} {N ring : Nat} (h : FreshD D N ring) : NoGroup (X.found 1 1 0 ring) D N := by
  have h1 := h.r1; have h2 := h.r2; have h3 := h.fit
  exact ⟨h.dead, h.len, by show 0 < ring; omega, h2, by show 2 + ring ≤ N; omega, by show 0 < ring; omega, by show 1 < 2305843009213693952; omega, h.rest 2 (by omega) (by omega)⟩

theorem opens_fresh {w : World} {g gd gm : Nat} {X : LS} {rm : Nat → Prop} {n : Nat} {D : DS} {own rd : Nat → Prop} (hb : Bundle w (logL g gd gm X (.map []) rm n D own rd)) (hX : X.s = 0) {N ring : Nat} (hf : FreshD D N ring) :
    Calls Tryz.prog 100 #[.pointer (some ⟨g, 0, none⟩)] w fun e w' => e = .returned .nilIface ∧
      BunTo w (ownL (logL g gd gm X (.map []) rm n D own rd)) (rdL (logL g gd gm X (.map []) rm n D own rd)) (logL g gd gm { X.found 1 1 0 ring with free := (ring : Int) } (.map []) rm n D own rd) w' := by
  have H := hb.open_
  have HF := Lib.hid (find_fresh hb hX hf)
  have HN := Lib.hid (hf.noGroup (X := X))
  obtain ⟨O, hO⟩ : ∃ O, ownL (logL g gd gm X (.map []) rm n D own rd) = O := ⟨_, rfl⟩
  obtain ⟨R, hR⟩ : ∃ R, rdL (logL g gd gm X (.map []) rm n D own rd) = R := ⟨_, rfl⟩
  clear hb hf hX
  go_enter Tryz.func100, Tryz.ntmps100
  go_wp2_with (first
    | (go_at_call 130; go_loud ((with_reducible refine (HF.out).mono ?_); rintro e W ⟨rfl, hto⟩; replace H := hto.front (R := []) H; clear hto; replace H : St _ _ w W (logL g gd gm (X.found 1 1 0 ring) (.map []) rm n D own rd) := H))
    | (go_at_call 132; go_loud ((with_reducible refine (takes_no (g := g) (gd := gd) (gm := gm) (X := X.found 1 1 0 ring) (M := .map []) (rm := rm) (n := n) (D := D) (own := own) (rd := rd) H.bundle HN.out).mono ?_); rintro e W ⟨rfl, hto⟩; replace H := hto.front (R := []) H; clear hto; replace H : St _ _ w W (logL g gd gm (X.found 1 1 0 ring) (.map []) rm n D own rd) := H))
    | (refine wpList_load1_st rfl 110 _ rfl _ _ rfl _ _ _ (H.at 0 rfl) _ Tryz.underlying110 rfl _ (lRow8 _ _ _ _ _ _ _ _ _) ?_)
    | (refine wpList_load1_st rfl 3 _ rfl _ _ rfl _ _ _ (H.at 0 rfl) _ Tryz.underlying3 rfl _ (lRow6 _ _ _ _ _ _ _ _ _) ?_)
    | (refine wpList_lenmap rfl _ 110 rfl gm rfl (H.at 1 rfl : World.ownsMap _ Tryz.prog 3 RV gm _ (.map [])) Tryz.underlying110 ?_)
    | (refine wpList_store1_st H 0 rfl 3 _ _ rfl _ _ (.int .i64 (ring : Int)) rfl rfl rfl _ _ rfl rfl (by simp [lRow]) ?_; clear H; intro W H; (try simp only [logL, List.set_cons_zero, List.set_cons_succ] at H); (try simp only [lSet2, lSet3, lSet4, lSet5, lSet6, lSet7, lSet8] at H)))
  go_ret
  exact ⟨rfl, H.bunTo⟩

/-- A log that Open has made of a disk that was formatted. -/
def LS.start (lives : Int) (ring : Nat) : LS := { lives := lives, s := 1, turn := 1, place := 0, ring := ring, free := (ring : Int), m := fun _ => none }

def lEmpty (lives : Int) : LS := { lives := lives, s := 0, turn := 0, place := 0, ring := 0, free := 0, m := fun _ => none }

theorem St.logOpen {M0 R0 : Nat → Prop} {w0 W : World} {g gd gm : Nat} {D : DS} {own rd : Nat → Prop} {lv : Int} (n : Nat)
    (H : St M0 R0 w0 W [dA gd D own rd, mapA gm 0 (.map []), blk g (.cells (lRow (.pointer (some ⟨gd, 0, none⟩)) lv false 0 0 0 0 0 (.map (some gm))).toArray 132 (0, 0))]) :
    St M0 R0 w0 W (logL g gd gm (lEmpty lv) (.map []) NoBlk n D own rd) := by
  have H1 := H.add (Fix.refl _ _) (mapIsA NoBlk (.map []) (fun _ => none) n 248) (MapIs.empty W n 248) (fun k hk => hk.elim) (fun k hk => hk.elim)
  simp only [List.cons_append, List.nil_append] at H1
  refine H1.pick (fun m => [2, 1, 3, 0].getD m 0) ?_ ?_
  · intro m C hm
    rcases m with _ | _ | _ | _ | m
    · exact hm
    · exact hm
    · exact hm
    · exact hm
    · simp [logL] at hm
  · intro m l hm hl e
    have hm4 : m < 4 := hm
    have hl4 : l < 4 := hl
    rcases m with _ | _ | _ | _ | m <;> rcases l with _ | _ | _ | _ | l <;> first | rfl | omega | (simp at e)

set_option maxHeartbeats 1000000 in
theorem open_fresh {w : World} {gd : Nat} {D : DS} {own rd : Nat → Prop} (hd : DiskIs w gd D own rd) {N ring : Nat} (hf : FreshD D N ring) (n : Nat) :
    Calls Tryz.prog 60 #[.pointer (some ⟨gd, 0, none⟩)] w fun e w' => ∃ g gm own' rd', e = .returned (.tuple #[.pointer (some ⟨g, 0, none⟩), .int .i64 0]) ∧ BunTo w own rd (logL g gd gm (LS.start D.lives ring) (.map []) NoBlk n D own' rd') w' := by
  have H : St own rd w w [dA gd D own rd] := St.one (A := dA gd D own rd) hd
  have HF := Lib.hid hf
  have hl : ((D.last.length : Int) == 0) = false := beq_eq_false_iff_ne.2 (by rw [hf.len]; have := hf.fit; omega)
  clear hd hf
  go_enter Tryz.func60, Tryz.ntmps60
  go_wp2_with (first
    | (go_at_call 91; go_loud ((with_reducible refine (len_calls (H.at 0 rfl)).mono ?_); rintro e W' ⟨rfl, rfl⟩))
    | (go_at_call 99; go_loud ((with_reducible refine (lives_at (H.at 0 rfl) (z := D.lives) rfl).mono ?_); rintro e W' ⟨rfl, rfl⟩))
    | (refine wpList_makemap_st H rfl 110 rfl ?_; clear H; intro W gm H; simp only [List.nil_append, List.cons_append] at H)
    | (refine wpList_box_st H rfl 132 _ rfl _ rfl ?_; clear H; intro W g H; simp only [List.nil_append, List.cons_append] at H; replace H := St.logOpen (lv := D.lives) n H)
    | (go_at_call 100; go_loud ((with_reducible refine (opens_fresh (g := g) (gd := gd) (gm := gm) (X := lEmpty D.lives) (rm := NoBlk) (n := n) (D := D) (own := own) (rd := rd) H.bundle rfl HF.out).mono ?_); rintro e W ⟨rfl, hto⟩; replace H := hto.front (R := []) H; clear hto; replace H : St _ _ w W (logL g gd gm (LS.start D.lives ring) (.map []) NoBlk n D own rd) := H)))
  refine bodyPost_ret (results_tmp2 rfl _ _ _) rfl ?_
  exact ⟨g, gm, own, rd, rfl, H.bunTo⟩

end Go.Proofs.YtlgciddnpinpbaaGreatDoor

namespace Go.Proofs.YtlgciddnpinpbaaGreatDoor
open Go.RowKit
set_option linter.unusedSimpArgs false
set_option linter.unusedVariables false
set_option maxRecDepth 4000

theorem sect_fill (D : DS) (a b : Nat) (l : List UInt8) (k : Nat) : (D.fill a b l).sect k = if a ≤ k ∧ k < b then l else D.sect k := by
  show (if a ≤ k ∧ k < b then some l else D.wait k).getD (D.last.getD k []) = _
  split
  · rfl
  · rfl

theorem sect_put (D : DS) (s : Nat) (l : List UInt8) (k : Nat) : (D.put s l).sect k = if k = s then l else D.sect k := by
  show (if k = s then some l else D.wait k).getD (D.last.getD k []) = _
  split
  · rfl
  · rfl

theorem sect_flushed (D : DS) (k : Nat) (hk : k < D.last.length) : D.flushed.sect k = D.sect k := by
  show (D.all).getD k [] = _
  rw [DS.all, List.getD_eq_getElem?_getD, List.getElem?_map, List.getElem?_range hk]; rfl

theorem flushed_len (D : DS) : D.flushed.last.length = D.last.length := DS.all_len D

theorem fmt_fresh {D : DS} {N u ring : Nat} (hc : Calm D N u) (h1 : 8 ≤ ring) (h2 : ring ≤ 512) (h3 : 8 + 2 + ring ≤ N) (h4 : N ≤ 1900) : FreshD (fmtD D N ring 6) N ring := by
  have c1 := hc.fill 0 2 noSect
  have c2 := c1.flushed
  have c3 := c2.fill 2 N noSect
  have c4 := c3.flushed
  have c5 := c4.put 1 (anchorB 1 1 0 ring)
  have c6 := c5.flushed
  have key : ∀ k, k < N → (fmtD D N ring 6).sect k = if k = 1 then anchorB 1 1 0 ring else noSect := by
    intro k hk
    show ((((((D.fill 0 2 noSect).flushed).fill 2 N noSect).flushed).put 1 (anchorB 1 1 0 ring)).flushed).sect k = _
    rw [sect_flushed _ k (by rw [c5.len]; exact hk), sect_put]
    by_cases e : k = 1
    · rw [if_pos e, if_pos e]
    · rw [if_neg e, if_neg e, sect_flushed _ k (by rw [c3.len]; exact hk), sect_fill]
      by_cases e2 : 2 ≤ k ∧ k < N
      · rw [if_pos e2]
      · rw [if_neg e2, sect_flushed _ k (by rw [c1.len]; exact hk), sect_fill, if_pos (by omega)]
  refine ⟨c6.dead, c6.len, h1, h2, h3, h4, ?_, ?_, ?_⟩
  · rw [key 0 (by omega)]; rfl
  · rw [key 1 (by omega)]; rfl
  · intro k hk hkN
    rw [key k hkN, if_neg (by omega)]

theorem fmt_calm {D : DS} {N u ring : Nat} (hc : Calm D N u) (hN : 2 ≤ N) : Calm (fmtD D N ring 6) N (u + N + 1) := by
  have c6 := ((((((hc.fill 0 2 noSect).flushed).fill 2 N noSect).flushed).put 1 (anchorB 1 1 0 ring)).flushed)
  have e : u + (2 - 0) + (N - 2) + 1 = u + N + 1 := by omega
  rw [e] at c6
  exact c6

theorem fmt_lives {D : DS} {N ring : Nat} : (fmtD D N ring 6).lives = D.lives := rfl

/-- code of nil. -/
theorem errorsAs_nil_dummy : True := trivial

end Go.Proofs.YtlgciddnpinpbaaGreatDoor

namespace Go.Proofs.YtlgciddnpinpbaaGreatDoor
open Go.RowKit Go.Maps
set_option linter.unusedSimpArgs false
set_option linter.unusedVariables false
set_option maxRecDepth 4000

theorem as_nil (v : Value) (w : World) : Calls Tryz.prog 102 #[.nilIface, v] w fun e w' => e = .returned (.bool false) ∧ w = w' := by
  go_enter Tryz.func102, Tryz.ntmps102
  go_wp2
  go_ret
  exact ⟨rfl, rfl⟩

theorem zero_fault : (Tryz.prog.info? 200).bind (·.zero) = some (.pointer none) := by kernel_rfl

theorem code_nil (w : World) : Calls Tryz.prog 101 #[.nilIface] w fun e w' => e = .returned (.int .i64 0) ∧ Below w.heap.size w w' := by
  have H := St.nil NoBlk NoBlk w
  go_enter Tryz.func101, Tryz.ntmps101
  go_wp2_with (first
    | (refine wpList_alloc_st H rfl 200 rfl _ zero_fault ?_; clear H; intro W gf H)
    | (go_at_call 102; (with_reducible refine (as_nil _ _).mono ?_); rintro e W' ⟨rfl, rfl⟩))
  go_ret
  exact ⟨rfl, H.fix.below⟩

/-- A put: its home, its bytes' slice, its bytes. -/
structure PutS where
  home : Nat
  val : Value
  bs : List UInt8

def putV (ps : List PutS) : List Value := ps.flatMap fun x => [.int .i64 (x.home : Int), x.val]

theorem putV_at : ∀ (ps : List PutS) (i : Nat) (h : i < ps.length), (putV ps)[i * 2]? = some (.int .i64 (ps[i].home : Int)) ∧ (putV ps)[i * 2 + 1]? = some ps[i].val
  | p :: ps, 0, _ => ⟨rfl, rfl⟩
  | p :: ps, i + 1, h => by
    have ih := putV_at ps i (by simpa using h)
    have e1 : (i + 1) * 2 = i * 2 + 2 := by omega
    rw [e1]
    exact ih

/-- The bytes that a group's puts name. -/
structure PutsIs (W : World) (rd : Nat → Prop) (ps : List PutS) : Prop where
  by_ : ∀ x ∈ ps, ByS W rd x.val x.bs
  lt : ∀ k, rd k → k < W.heap.size

def putsA (rd : Nat → Prop) (ps : List PutS) : Asrt where
  own _ := False
  rd := rd
  prop W := PutsIs W rd ps
  stable W W' h hp := by
    refine ⟨fun x hx => (hp.by_ x hx).same fun k hk => ⟨h k (.inr hk), hk⟩, fun k hk => ?_⟩
    have h1 := hp.lt k hk
    have h2 := h k (.inr hk)
    rw [Array.getElem?_eq_getElem h1] at h2
    exact (Array.getElem?_eq_some_iff.1 h2).1
  bound W hp k hk := by
    rcases hk with hk | hk
    · exact hk.elim
    · exact hp.lt k hk

/-- A group that may be committed. -/
structure Good (ps : List PutS) (n ring : Nat) : Prop where
  home : ∀ x ∈ ps, x.home < n
  len : ∀ x ∈ ps, x.bs.length = 248
  nodup : (ps.map PutS.home).Nodup
  most : ps.length ≤ 119
  fits : ps.length < ring

theorem keys_size_le {W : World} {M : DataW Value} {b gm n : Nat} (hk : ∀ kl, Go.Maps.has M kl = true → ∃ k : Nat, k < b ∧ kl = keyI k) (hm : W.ownsMap Tryz.prog 3 RV gm n M) : Go.Maps.size M ≤ b := by
  obtain ⟨es, rfl, hp⟩ := hm.tidy keyedInt
  have hn : (es.map Prod.fst).Nodup := by
    rw [List.nodup_iff_pairwise_ne, List.pairwise_map]
    exact hp
  have key : ∀ x ∈ es.map Prod.fst, ∃ k : Nat, k < b ∧ x = keyI k := by
    intro x hx
    obtain ⟨p, hp1, rfl⟩ := List.mem_map.1 hx
    have hkey : WideAt.IsKeyLit p.1 := by
      obtain ⟨es', e1, _, h3⟩ := hm.canon keyedInt
      cases e1
      exact h3 p hp1
    refine hk p.1 ?_
    rw [Go.Maps.has_eq, List.any_eq_true]
    exact ⟨p, hp1, WideAt.sameKey_self hkey⟩
  have := nodup_le (((es.map Prod.fst).map fun x => match x with | .int _ k => k | _ => 0)) ((List.range b).map (fun k : Nat => (k : Int))) (by
    rw [List.nodup_iff_pairwise_ne, List.pairwise_map]
    refine List.Pairwise.imp_of_mem ?_ hn
    intro a c ha hc hne e
    obtain ⟨i, _, rfl⟩ := key a ha
    obtain ⟨j, _, rfl⟩ := key c hc
    simp only [keyI] at e
    have : i = j := by omega
    exact hne (by rw [this])) (by
    intro x hx
    obtain ⟨p, hp1, rfl⟩ := List.mem_map.1 hx
    obtain ⟨i, hi, rfl⟩ := key p hp1
    simp only [keyI, List.mem_map, List.mem_range]
    exact ⟨i, hi, rfl⟩)
  simpa [Go.Maps.size] using this

theorem zero_int (W : World) : (zeroValue 3).run Tryz.prog W = .ok (.int .i64 0) W := by kernel_rfl

theorem look_int {W : World} {gm n : Nat} {M : DataW Value} (hm : W.ownsMap Tryz.prog 3 RV gm n M) (k : Nat) (hk : k < 1048576) (x : Value) (h : M.atKey (keyI k) (.held (.int .i64 0)) = .held x) :
    (Instr.lookup 265 (.map (some gm)) (.int .i64 (k : Int)) false).run Tryz.prog W = .ok x W := by
  obtain ⟨v, ps, hrun, hv⟩ := hm.lookup keyedInt Tryz.underlying265 (zero_int W) (zd := .held (.int .i64 0)) (zp := []) rfl (keyI_is hk)
  rw [h] at hv
  simp [RV] at hv
  rw [hrun, hv.1]

theorem St.mapStoreI {M0 R0 : Nat → Prop} {w0 W : World} {L : List Asrt} (H : St M0 R0 w0 W L) (i : Nat) {gm : Nat} {M : DataW Value} (hi : L[i]? = some (mapA gm (Go.Maps.size M) M)) (hs : Go.Maps.size M ≤ 1900) (k : Nat) (hk : k < 1048576) (v : Value) :
    ∃ W', (Instr.mapUpdate 265 (.map (some gm)) (.int .i64 (k : Int)) v).run Tryz.prog W = .ok () W' ∧ St M0 R0 w0 W' (L.set i (mapA gm (Go.Maps.size (M.put (keyI k) (.held v))) (M.put (keyI k) (.held v)))) := by
  obtain ⟨W', hrun, hown, hturn⟩ := (H.at i hi : W.ownsMap Tryz.prog 3 RV gm (Go.Maps.size M) M).store keyedInt Tryz.underlying265 (by simp only [maxLen]; omega) (keyI_is hk) (val := v) (d := .held v) (ps := []) rfl
  refine ⟨W', hrun, H.step i hi (Fix.turned hturn) (ownsMap_fit hown) ⟨fun _ h => .inl h, fun _ h => h.elim⟩⟩

/-- A map is stored into, run. -/
theorem wpList_mapupdate_run {P : Program} {ops : Array Oper} {rest : List Oper} {o : Oper} {a : Act} {Q : Exit → Act → World → Prop} {W W' : World}
    (hwt : Region.wanted o (yielded ops a.tmps) = true) (t : TypeId) (m x y : Operand) (hop : o.op = .mapUpdate t m x y) (mv xv v : Value) (hm : a.eval m = mv) (hx : a.eval x = xv) (hy : a.eval y = v)
    (hrun : (Instr.mapUpdate t mv xv v).run P W = .ok () W') (h : wpList P ops Q rest (a.put o.dst undef) W') : wpList P ops Q (o :: rest) a W := by
  refine wpList_want hwt fun K hK => ?_
  unfold Oper.wp
  simp [execOp, hop, hm, hx, hy, hrun, Result.andThen]
  exact hK _ _ h

/-- The homes that were seen: each once. -/
structure Seen (M : DataW Value) (hs : List Nat) (b : Nat) : Prop where
  keys : ∀ kl, Go.Maps.has M kl = true → ∃ k : Nat, k < b ∧ kl = keyI k
  at_ : ∀ k : Nat, M.atKey (keyI k) (.held (.int .i64 0)) = .held (.int .i64 (if k ∈ hs then 1 else 0))
  map : Go.Maps.IsMap M

theorem Seen.put {M : DataW Value} {hs : List Nat} {b : Nat} (h : Seen M hs b) (k : Nat) (hk : k < b) : Seen (M.put (keyI k) (.held (.int .i64 1))) (hs ++ [k]) b := by
  refine ⟨fun kl hkl => ?_, fun j => ?_, ?_⟩
  · by_cases e : kl = keyI k
    · exact ⟨k, hk, e⟩
    · rw [Go.Maps.has_put_other e] at hkl
      exact h.keys kl hkl
  · by_cases e : j = k
    · subst e
      rw [Go.Maps.atKey_put_same h.map (show WideAt.IsKeyLit (keyI j) from trivial)]
      simp
    · have e' : keyI j ≠ keyI k := fun x => e (keyI_inj x)
      rw [Go.Maps.atKey_put_other e', h.at_ j]
      simp [e]
  · exact h.map.put _ _

theorem Seen.empty (b : Nat) : Seen (.map []) [] b := ⟨fun kl h => by simp [Go.Maps.has] at h, fun k => by simp [DataW.atKey], isMap_empty⟩

/-- A put's slice. -/
theorem PutsIs.val {W : World} {rd : Nat → Prop} {ps : List PutS} (h : PutsIs W rd ps) (i : Nat) (hi : i < ps.length) (hl : ps[i].bs.length = 248) : ∃ gv off cap, ps[i].val = .slice (some ⟨gv, off, none⟩) 248 cap ∧ 248 ≤ cap ∧ rd gv ∧ BytesAt W gv off ps[i].bs := by
  rcases h.by_ _ (List.getElem_mem hi) with ⟨e, _⟩ | ⟨g, off, cap, h1, h2, h3, h4⟩
  · rw [e] at hl; simp at hl
  · rw [hl] at h1 h2
    rcases h3 with h3 | h3
    · rw [h3] at hl; simp at hl
    · exact ⟨g, off, cap, h1, h2, h3, h4⟩

end Go.Proofs.YtlgciddnpinpbaaGreatDoor

namespace Go.Proofs.YtlgciddnpinpbaaGreatDoor
open Go.RowKit Go.Extern.Stop Go.Stop Go.Extern
set_option linter.unusedSimpArgs false
set_option linter.unusedVariables false
set_option maxRecDepth 4000

theorem AsZ.valueOf27 (t : Addr) (w : World) : (ReflectliteValue.unpack (.iface 201 (.pointer (some t)))).run Tryz.prog w
    = .ok (.agg #[.pointer (some ⟨2, 201, none⟩), .pointer (some ⟨w.heap.size, 0, none⟩), .int .u64 150]) (w.alloc (.cells #[.pointer (some t)] 201)) := by kernel_rfl
theorem AsZ.type27 (a : Addr) (w : World) : (ReflectliteValue.methodAny (ReflectliteValue.valueError "reflectlite.Value.Type" 0) (fun t _ _ _ => ReflectliteType.toType t) #[.agg #[.pointer (some ⟨2, 201, none⟩), .pointer (some a), .int .u64 150]]).run Tryz.prog w
    = .ok (.iface 253 (.agg #[.pointer (some ⟨2, 201, none⟩)])) w := by kernel_rfl
theorem AsZ.methodKind (h : Value) (w : World) : (Go.method 428 253 (.agg #[h]) "Kind").run Tryz.prog w = .ok (225, h) w := by kernel_rfl
theorem AsZ.kind27 (w : World) : ((ReflectliteType.abiMethod fun t => (fun a : Nat => Value.int IntKind.u8 (a : Int)) <$> Rtype.kind t) #[.pointer (some ⟨2, 201, none⟩)]).run Tryz.prog w = .ok (.int .u8 22) w := by kernel_rfl
theorem AsZ.kind25 (w : World) : ((ReflectliteType.abiMethod fun t => (fun a : Nat => Value.int IntKind.u8 (a : Int)) <$> Rtype.kind t) #[.pointer (some ⟨2, 200, none⟩)]).run Tryz.prog w = .ok (.int .u8 22) w := by kernel_rfl

theorem rlm (z : Sem Value) (f : TypeId → Addr → Nat → Nat → Sem Value) (v : Value) :
    ReflectliteValue.method z f #[v] = (do match ← ReflectliteValue.parts v with | none => z | some (t, a, fl) => f t a fl (fl % 32)) := rfl
theorem AsZ.parts27 (a : Addr) (w : World) : (ReflectliteValue.parts (.agg #[.pointer (some ⟨2, 201, none⟩), .pointer (some a), .int .u64 150])).run Tryz.prog w = .ok (some (201, a, 150)) w := by kernel_rfl
theorem AsZ.isNil27 (a p : Addr) (W : World) (ha : W.cell? a = some (.pointer (some p))) :
    (ReflectliteValue.method (ReflectliteValue.valueError "reflectlite.Value.IsNil" 0) ReflectliteValue.isNil #[.agg #[.pointer (some ⟨2, 201, none⟩), .pointer (some a), .int .u64 150]]).run Tryz.prog W = .ok (.bool false) W := by
  rw [rlm]
  simp only [Sem.run_bind, AsZ.parts27, Result.andThen]
  simp [ReflectliteValue.isNil, loadVar, isAgg, underlying, Tryz.underlying201, ha, Result.andThen]

theorem AsZ.methodElem (h : Value) (w : World) : (Go.method 428 253 (.agg #[h]) "Elem").run Tryz.prog w = .ok (246, .agg #[h]) w := by kernel_rfl
theorem AsZ.methodImplements (h : Value) (w : World) : (Go.method 428 253 (.agg #[h]) "Implements").run Tryz.prog w = .ok (247, .agg #[h]) w := by kernel_rfl
theorem AsZ.methodAssignableTo (h : Value) (w : World) : (Go.method 428 253 (.agg #[h]) "AssignableTo").run Tryz.prog w = .ok (244, .agg #[h]) w := by kernel_rfl
theorem AsZ.elem27 (w : World) : (ReflectliteType.method ReflectliteType.elem #[.agg #[.pointer (some ⟨2, 201, none⟩)]]).run Tryz.prog w = .ok (.iface 253 (.agg #[.pointer (some ⟨2, 200, none⟩)])) w := by kernel_rfl
theorem AsZ.implements25 (w : World) : (ReflectliteType.relation "Implements" ReflectliteType.implements_ #[.agg #[.pointer (some ⟨2, 200, none⟩)], .iface 253 (.agg #[.pointer (some ⟨2, 114, none⟩)])]).run Tryz.prog w = .ok (.bool true) w := by kernel_rfl
theorem AsZ.typeOf25 (v : Value) (w : World) : (ReflectliteType.typeOf #[.iface 200 v]).run Tryz.prog w = .ok (.iface 253 (.agg #[.pointer (some ⟨2, 200, none⟩)])) w := by kernel_rfl
theorem AsZ.assignable25 (w : World) : (ReflectliteType.relation "AssignableTo" ReflectliteType.assignableTo #[.agg #[.pointer (some ⟨2, 200, none⟩)], .iface 253 (.agg #[.pointer (some ⟨2, 200, none⟩)])]).run Tryz.prog w = .ok (.bool true) w := by kernel_rfl
theorem AsZ.valueOf25 (e : Addr) (w : World) : (ReflectliteValue.unpack (.iface 200 (.pointer (some e)))).run Tryz.prog w
    = .ok (.agg #[.pointer (some ⟨2, 200, none⟩), .pointer (some ⟨w.heap.size, 0, none⟩), .int .u64 150]) (w.alloc (.cells #[.pointer (some e)] 200)) := by kernel_rfl

theorem AsZ.elemOf27 (w : World) : (Rtype.elem? 201).run Tryz.prog w = .ok (some 200) w := by kernel_rfl
theorem AsZ.mk25 (p : Addr) (w : World) : (ReflectliteValue.mk 200 p ReflectliteValue.flagAddr).run Tryz.prog w = .ok (.agg #[.pointer (some ⟨2, 200, none⟩), .pointer (some p), .int .u64 406]) w := by kernel_rfl
theorem AsZ.elemV27 (a p : Addr) (W : World) (ha : W.cell? a = some (.pointer (some p))) :
    (ReflectliteValue.method (ReflectliteValue.valueError "reflectlite.Value.Elem" 0) ReflectliteValue.elem #[.agg #[.pointer (some ⟨2, 201, none⟩), .pointer (some a), .int .u64 150]]).run Tryz.prog W
      = .ok (.agg #[.pointer (some ⟨2, 200, none⟩), .pointer (some p), .int .u64 406]) W := by
  rw [rlm]
  simp only [Sem.run_bind, AsZ.parts27, Result.andThen]
  simp [ReflectliteValue.elem, loadVar, isAgg, underlying, Tryz.underlying201, ha, Result.andThen, AsZ.elemOf27, AsZ.mk25]
theorem rls (v x : Value) : ReflectliteValue.set #[v, x] = (do
    let (some (dst, a, fl), some (src, b, _)) := (← ReflectliteValue.parts v, ← ReflectliteValue.parts x)
      | unsupported (.noEntry "extern/(internal/reflectlite.Value).Set.zeroValue")
    if fl / ReflectliteValue.flagAddr % 2 == 0 then unsupported (.noEntry "extern/(internal/reflectlite.Value).Set.unaddressable")
    let val ← loadVar src b
    if ← Rtype.directlyAssignable dst src then storeVar dst a val
    else if ← Rtype.implements dst src then
      if (← Rtype.kind src) == 20 then
        match val with
        | .nilIface => unsupported (.noEntry "extern/reflectlite: a nil value of one interface type handed on as a value of another")
        | _ => storeVar dst a val
      else storeVar dst a (.iface src val)
    else panicString ("reflectlite.Set: value of type " ++ (← Rtype.spelt src) ++ " is not assignable to type " ++ (← Rtype.spelt dst))
    pure (.tuple #[])) := rfl
theorem AsZ.parts25a (a : Addr) (w : World) : (ReflectliteValue.parts (.agg #[.pointer (some ⟨2, 200, none⟩), .pointer (some a), .int .u64 406])).run Tryz.prog w = .ok (some (200, a, 406)) w := by kernel_rfl
theorem AsZ.parts25 (a : Addr) (w : World) : (ReflectliteValue.parts (.agg #[.pointer (some ⟨2, 200, none⟩), .pointer (some a), .int .u64 150])).run Tryz.prog w = .ok (some (200, a, 150)) w := by kernel_rfl
theorem AsZ.direct25 (w : World) : (Rtype.directlyAssignable 200 200).run Tryz.prog w = .ok true w := by kernel_rfl
theorem AsZ.size25 (w : World) : (sizeOf 200).run Tryz.prog w = .ok 1 w := by kernel_rfl
theorem AsZ.set25 (ta b e : Addr) (old : Value) (W : World) (hb : W.cell? b = some (.pointer (some e))) (ht : W.cell? ta = some old) (hf : W.frozen? ta = false) :
    (ReflectliteValue.set #[.agg #[.pointer (some ⟨2, 200, none⟩), .pointer (some ta), .int .u64 406], .agg #[.pointer (some ⟨2, 200, none⟩), .pointer (some b), .int .u64 150]]).run Tryz.prog W
      = .ok (.tuple #[]) (W.setCell ta (.pointer (some e))) := by
  rw [rls]
  simp only [Sem.run_bind, AsZ.parts25a, AsZ.parts25, Result.andThen]
  simp [ReflectliteValue.flagAddr, loadVar, isAgg, underlying, Tryz.underlying200, hb, Result.andThen, AsZ.direct25, storeVar, Value.cells, storeCells, Addr.add]
  rw [run_store Tryz.prog W ta _ _ (by rfl)]
  simp [ht, hf]

set_option maxHeartbeats 4000000 in
theorem as_hit (e t : Addr) (old : Value) (w : World) (hg : w.cell? ⟨0, 0, none⟩ = some (.iface 253 (.agg #[.pointer (some ⟨2, 114, none⟩)]))) (ht0 : w.cell? t = some old) (hf0 : w.frozen? t = false) :
    Calls Tryz.prog 102 #[.iface 200 (.pointer (some e)), .iface 201 (.pointer (some t))] w fun ev w' => ev = .returned (.bool true) ∧ w' = ((((w.alloc (.cells #[.pointer (some t)] 201)).alloc (.cells #[.pointer (some ⟨2, 201, none⟩), .pointer (some ⟨w.heap.size, 0, none⟩), .int .u64 150] 207)).alloc (.cells #[.pointer (some ⟨2, 201, none⟩), .pointer (some ⟨w.heap.size, 0, none⟩), .int .u64 150] 207)).alloc (.cells #[.pointer (some e)] 200)).setCell t (.pointer (some e)) := by
  have h6 := @run_callFunc_extern Tryz.prog 136 _ (fun args => ReflectliteValue.unpack (args.getD 0 (.tuple #[]))) Tryz.func136 (by kernel_rfl) (by kernel_rfl) (by kernel_rfl) (by kernel_rfl)
  have h7 := @run_callFunc_extern Tryz.prog 137 _ (ReflectliteValue.methodAny (ReflectliteValue.valueError "reflectlite.Value.Type" 0) (fun t _ _ _ => ReflectliteType.toType t)) Tryz.func137 (by kernel_rfl) (by kernel_rfl) (by kernel_rfl) (by kernel_rfl)
  have h8 := @run_callFunc_extern Tryz.prog 138 _ (ReflectliteValue.method (ReflectliteValue.valueError "reflectlite.Value.IsNil" 0) ReflectliteValue.isNil) Tryz.func138 (by kernel_rfl) (by kernel_rfl) (by kernel_rfl) (by kernel_rfl)
  have h27 := @run_callFunc_extern Tryz.prog 225 _ (ReflectliteType.abiMethod fun t => do pure (.int .u8 (← Rtype.kind t))) Tryz.func225 (by kernel_rfl) (by kernel_rfl) (by kernel_rfl) (by kernel_rfl)
  have h37 := @run_callFunc_extern Tryz.prog 246 _ (ReflectliteType.method ReflectliteType.elem) Tryz.func246 (by kernel_rfl) (by kernel_rfl) (by kernel_rfl) (by kernel_rfl)
  have h38 := @run_callFunc_extern Tryz.prog 247 _ (ReflectliteType.relation "Implements" ReflectliteType.implements_) Tryz.func247 (by kernel_rfl) (by kernel_rfl) (by kernel_rfl) (by kernel_rfl)
  have h10 := @run_callFunc_extern Tryz.prog 174 _ ReflectliteType.typeOf Tryz.func174 (by kernel_rfl) (by kernel_rfl) (by kernel_rfl) (by kernel_rfl)
  have h35 := @run_callFunc_extern Tryz.prog 244 _ (ReflectliteType.relation "AssignableTo" ReflectliteType.assignableTo) Tryz.func244 (by kernel_rfl) (by kernel_rfl) (by kernel_rfl) (by kernel_rfl)
  have h11 := @run_callFunc_extern Tryz.prog 175 _ (ReflectliteValue.method (ReflectliteValue.valueError "reflectlite.Value.Elem" 0) ReflectliteValue.elem) Tryz.func175 (by kernel_rfl) (by kernel_rfl) (by kernel_rfl) (by kernel_rfl)
  have h12 := @run_callFunc_extern Tryz.prog 176 _ ReflectliteValue.set Tryz.func176 (by kernel_rfl) (by kernel_rfl) (by kernel_rfl) (by kernel_rfl)
  have tO := AsZ.typeOf25
  have mA := AsZ.methodAssignableTo
  have a25 := AsZ.assignable25
  have v25 := AsZ.valueOf25
  have f6 := AsZ.valueOf27
  have f7 := AsZ.type27
  have mK := AsZ.methodKind
  have mE := AsZ.methodElem
  have mI := AsZ.methodImplements
  have k27 := AsZ.kind27
  have k25 := AsZ.kind25
  have e27 := AsZ.elem27
  have i25 := AsZ.implements25
  have n8 := AsZ.isNil27 ⟨w.heap.size, 0, none⟩ t ((w.alloc (.cells #[.pointer (some t)] 201)).alloc (.cells #[.pointer (some ⟨2, 201, none⟩), .pointer (some ⟨w.heap.size, 0, none⟩), .int .u64 150] 207)) (by simp)
  have hlt : 0 < w.heap.size := by
    rcases Nat.eq_zero_or_pos w.heap.size with h0 | h
    · simp [World.cell?, h0] at hg
    · exact h
  have hg2 : ((w.alloc (.cells #[.pointer (some t)] 201)).alloc (.cells #[.pointer (some ⟨2, 201, none⟩), .pointer (some ⟨w.heap.size, 0, none⟩), .int .u64 150] 207)).cell? ⟨0, 0, none⟩ = some (.iface 253 (.agg #[.pointer (some ⟨2, 114, none⟩)])) := by
    rw [World.cell?_alloc_lt _ _ ⟨0, 0, none⟩ (by simp), World.cell?_alloc_lt _ _ ⟨0, 0, none⟩ hlt]; exact hg
  have htl : t.block < w.heap.size := by
    rcases Nat.lt_or_ge t.block w.heap.size with h | h
    · exact h
    · simp [World.cell?, Array.getElem?_eq_none h] at ht0
  have el := AsZ.elemV27 ⟨w.heap.size, 0, none⟩ t (((w.alloc (.cells #[.pointer (some t)] 201)).alloc (.cells #[.pointer (some ⟨2, 201, none⟩), .pointer (some ⟨w.heap.size, 0, none⟩), .int .u64 150] 207)).alloc (.cells #[.pointer (some ⟨2, 201, none⟩), .pointer (some ⟨w.heap.size, 0, none⟩), .int .u64 150] 207)) (by rw [World.cell?_alloc_lt _ _ ⟨w.heap.size, 0, none⟩ (by simp; omega)]; simp)
  have st := AsZ.set25 t ⟨w.heap.size + 1 + 1 + 1, 0, none⟩ e old ((((w.alloc (.cells #[.pointer (some t)] 201)).alloc (.cells #[.pointer (some ⟨2, 201, none⟩), .pointer (some ⟨w.heap.size, 0, none⟩), .int .u64 150] 207)).alloc (.cells #[.pointer (some ⟨2, 201, none⟩), .pointer (some ⟨w.heap.size, 0, none⟩), .int .u64 150] 207)).alloc (.cells #[.pointer (some e)] 200))
    (by rw [World.cell?_alloc_at _ _ _ _ (by simp)]; rfl)
    (by rw [World.cell?_alloc_lt _ _ t (by simp; omega), World.cell?_alloc_lt _ _ t (by simp; omega), World.cell?_alloc_lt _ _ t (by simp; omega), World.cell?_alloc_lt _ _ t htl]; exact ht0)
    (by rw [World.frozen?_alloc_old _ _ t (by simp; omega), World.frozen?_alloc_old _ _ t (by simp; omega), World.frozen?_alloc_old _ _ t (by simp; omega), World.frozen?_alloc_old _ _ t (Nat.ne_of_lt htl)]; exact hf0)
  go_enter Tryz.func102, Tryz.ntmps102
  go_wp2
  refine wp_loop_rounds 1 ?_
  rw [rounds_succ]
  go_wp2
  go_ret
  exact ⟨rfl, rfl⟩

end Go.Proofs.YtlgciddnpinpbaaGreatDoor

namespace Go.Proofs.YtlgciddnpinpbaaGreatDoor
open Go.RowKit
set_option linter.unusedSimpArgs false
set_option linter.unusedVariables false
set_option maxRecDepth 4000

/-- The variable that errors.As reads. -/
def errA : Asrt where
  own _ := False
  rd k := k = 0
  prop W := 0 < W.heap.size ∧ W.cell? ⟨0, 0, none⟩ = some (.iface 253 (.agg #[.pointer (some ⟨2, 114, none⟩)]))
  stable W W' h hp := by
    have hb := h 0 (.inr rfl)
    refine ⟨?_, (World.cell?_of_block (w := W) (a := ⟨0, 0, none⟩) hb).trans hp.2⟩
    rw [Array.getElem?_eq_getElem hp.1] at hb
    exact (Array.getElem?_eq_some_iff.1 hb).1
  bound W hp k hk := by
    rcases hk with hk | rfl
    · exact hk.elim
    · exact hp.1

def faultV (g : Nat) : Value := .iface 200 (.pointer (some ⟨g, 0, none⟩))
def faultO (c : Int) (inner : Value) : Obj := .cells #[.int .i64 c, inner] 203 (0, 0)

theorem zero_faultS : (Tryz.prog.info? 203).bind (·.zero) = some (.agg #[.int .i64 0, .nilIface]) := by kernel_rfl

theorem bad_no (c : Int) (hc : (c == 0) = false) (w : World) : Calls Tryz.prog 134 #[.int .i64 c] w fun e w' => ∃ ge, e = .returned (faultV ge) ∧ w.heap.size ≤ ge ∧ w'.heap[ge]? = some (faultO c .nilIface) ∧ Below w.heap.size w w' := by
  have H := St.nil NoBlk NoBlk w
  have hc2 : ¬ c = 0 := beq_eq_false_iff_ne.1 hc
  go_enter Tryz.func134, Tryz.ntmps134
  go_wp2_with (first
    | (refine wpList_alloc_st H rfl 203 rfl _ zero_faultS ?_; clear H; intro W ge H; simp only [List.nil_append] at H)
    | (refine wpList_store1_st H 0 rfl 31 _ _ rfl _ _ (.int .i64 c) rfl rfl rfl _ _ rfl rfl (by simp [Value.cells]) ?_; clear H; intro W H; simp only [List.set_cons_zero] at H)
    | (refine wpList_box_st H rfl 203 _ rfl (.agg #[.int .i64 c, .nilIface]) rfl ?_; clear H; intro W ge H; simp only [List.nil_append] at H))
  go_ret
  exact ⟨ge, rfl, by rcases H.mine 0 _ rfl ge rfl with h | h; exact h; exact h.elim, H.at 0 rfl, H.fix.below⟩

/-- errors.As of a fault, into a variable of ours. -/
theorem as_fault {M0 R0 : Nat → Prop} {w0 W : World} {L : List Asrt} (H : St M0 R0 w0 W L) (i : Nat) {gt : Nat} {old : Value} (hi : L[i]? = some (blk gt (.cells #[old] 200 (0, 0)))) (hg : errA.prop W) (ge : Nat) :
    Calls Tryz.prog 102 #[faultV ge, .iface 201 (.pointer (some ⟨gt, 0, none⟩))] W fun ev w' => ev = .returned (.bool true) ∧ St M0 R0 w0 w' (L.set i (blk gt (.cells #[.pointer (some ⟨ge, 0, none⟩)] 200 (0, 0)))) := by
  have hb : W.heap[gt]? = some (.cells #[old] 200 (0, 0)) := H.at i hi
  have hc : W.cell? ⟨gt, 0, none⟩ = some old := by rw [cell_of_row W gt 0 _ _ _ hb]; rfl
  have hf : W.frozen? ⟨gt, 0, none⟩ = false := frozen_of_row W gt 0 _ _ hb
  refine (as_hit ⟨ge, 0, none⟩ ⟨gt, 0, none⟩ old W hg.2 hc hf).mono ?_
  rintro ev w' ⟨rfl, rfl⟩
  refine ⟨rfl, ?_⟩
  have H1 := (((H.stay (Fix.alloc NoBlk _ (.cells #[.pointer (some ⟨gt, 0, none⟩)] 201))).stay (Fix.alloc NoBlk _ (.cells #[.pointer (some ⟨2, 201, none⟩), .pointer (some ⟨W.heap.size, 0, none⟩), .int .u64 150] 207))).stay (Fix.alloc NoBlk _ (.cells #[.pointer (some ⟨2, 201, none⟩), .pointer (some ⟨W.heap.size, 0, none⟩), .int .u64 150] 207))).stay (Fix.alloc NoBlk _ (.cells #[.pointer (some ⟨ge, 0, none⟩)] 200))
  exact H1.setCell i hi 0 _

theorem code_fault (ge : Nat) (c : Int) (inner : Value) (w : World) (hg : errA.prop w) (he : w.heap[ge]? = some (faultO c inner)) :
    Calls Tryz.prog 101 #[faultV ge] w fun e w' => e = .returned (.int .i64 c) ∧ Below w.heap.size w w' := by
  have H : St NoBlk (fun _ => True) w w [errA, imm ge (faultO c inner)] := St.reads_only [errA, imm ge (faultO c inner)] (by
    intro B hB
    simp only [List.mem_cons, List.not_mem_nil, or_false] at hB
    rcases hB with rfl | rfl
    · exact ⟨hg, fun _ h => h⟩
    · exact ⟨he, fun _ h => h⟩)
  clear hg he
  unfold faultV
  go_enter Tryz.func101, Tryz.ntmps101
  go_wp2_with (first
    | (refine wpList_alloc_st H rfl 200 rfl _ zero_fault ?_; clear H; intro W gf H; simp only [List.cons_append, List.nil_append] at H)
    | (go_at_call 102; go_loud ((refine (as_fault H 2 rfl (H.at 0 rfl) ge).mono ?_); rintro e W' ⟨rfl, H1⟩; clear H; have H := H1; clear H1; simp only [List.set_cons_zero, List.set_cons_succ] at H))
    | (refine wpList_load1_st rfl 200 _ rfl _ _ rfl _ _ _ (H.at 2 rfl) _ Tryz.underlying200 rfl _ rfl ?_)
    | (refine wpList_load1_st rfl 31 _ rfl _ _ rfl _ _ _ (H.at 1 rfl : _ = some (faultO c inner)) _ Tryz.underlying31 rfl _ rfl ?_))
  go_ret
  exact ⟨rfl, H.fix.below⟩

theorem within_fault (ge : Nat) (c : Int) (inner : Value) (w : World) (hg : errA.prop w) (he : w.heap[ge]? = some (faultO c inner)) :
    Calls Tryz.prog 131 #[faultV ge] w fun e w' => ∃ ge', e = .returned (faultV ge') ∧ w.heap.size ≤ ge' ∧ w'.heap[ge']? = some (faultO c (faultV ge)) ∧ Below w.heap.size w w' := by
  have HC := Lib.hid (code_fault ge c inner w hg he)
  have H := St.nil NoBlk NoBlk w
  clear hg he
  unfold faultV at HC ⊢
  go_enter Tryz.func131, Tryz.ntmps131
  go_wp2_with (first
    | (go_at_call 101; go_loud ((refine (HC.out).mono ?_); rintro e W ⟨rfl, hb⟩; replace H := H.stay (Fix.of_below hb _); clear hb))
    | (refine wpList_alloc_st H rfl 203 rfl _ zero_faultS ?_; clear H; intro W g2 H; simp only [List.nil_append] at H)
    | (refine wpList_store1_st H 0 rfl 31 _ _ rfl _ _ (.int .i64 c) rfl rfl rfl _ _ rfl rfl (by simp [Value.cells]) ?_; clear H; intro W H; simp only [List.set_cons_zero] at H)
    | (refine wpList_store1_st H 0 rfl 114 _ _ rfl _ _ _ rfl rfl rfl _ _ rfl rfl (by simp [Value.cells]) ?_; clear H; intro W H; simp only [List.set_cons_zero] at H))
  go_ret
  have H2 := H.alloc (faultO c (.iface 200 (.pointer (some ⟨ge, 0, none⟩))))
  exact ⟨W.heap.size, rfl, H.fix.size, H2.at 0 rfl, H2.fix.below⟩

end Go.Proofs.YtlgciddnpinpbaaGreatDoor
