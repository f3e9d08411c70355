/- A disk in memory: its struct, its row of sectors, its map of what waits, the sectors' bytes. -/
import Derived.Test.YtajlhloapglafaaGreatDoorRows
import Derived.Test.YtajlhloapglafaaGreatDoorOp
import Derived.Maps.RangeWalk
import Derived.Maps.OwnSet
import Derived.Maps.OwnOps
import Derived.Maps.Ext
namespace Go.Proofs.YtajlhloapglafaaGreatDoor
open Go.RowKit
set_option linter.unusedVariables false

/-- Bytes behind a slice's value, in blocks of rd. -/
def ByS (W : World) (rd : Nat → Prop) (v : Value) (l : List UInt8) : Prop :=
  (l = [] ∧ v = .slice none 0 0) ∨ ∃ g off cap, v = .slice (some ⟨g, off, none⟩) l.length cap ∧ l.length ≤ cap ∧ (l = [] ∨ rd g) ∧ BytesAt W g off l

theorem BytesAt.same {W W' : World} {g off : Nat} {l : List UInt8} (h : BytesAt W g off l) (hb : l = [] ∨ W'.heap[g]? = W.heap[g]?) : BytesAt W' g off l := by
  intro i hi
  rcases hb with rfl | hb
  · simp at hi
  · have := World.cell?_of_block (w := W) (w' := W') (a := ⟨g, off + i, none⟩) hb
    rw [this]; exact h i hi

theorem ByS.same {W W' : World} {rd rd' : Nat → Prop} {v : Value} {l : List UInt8} (h : ByS W rd v l) (hb : ∀ k, rd k → W'.heap[k]? = W.heap[k]? ∧ rd' k) : ByS W' rd' v l := by
  rcases h with h | ⟨g, off, cap, h1, h2, h3, h4⟩
  · exact .inl h
  · refine .inr ⟨g, off, cap, h1, h2, ?_, h4.same ?_⟩
    · rcases h3 with h3 | h3
      · exact .inl h3
      · exact .inr (hb g h3).2
    · rcases h3 with h3 | h3
      · exact .inl h3
      · exact .inr (hb g h3).1

/-- How a map's element reads here: as itself. -/
def RV (v : Value) : Option (DataW Value × List MemPlace) := some (.held v, [])
theorem keyedInt : Go.Maps.Keyed Tryz.prog 3 := Go.Maps.int_keyed Tryz.underlying3

/-- A map of slices of bytes, in block g. -/
def mapA (g n : Nat) (D : DataW Value) : Asrt where
  own k := k = g
  rd _ := False
  prop W := W.ownsMap Tryz.prog 3 RV g n D
  stable W W' h hp := by
    obtain ⟨es, clock, hb, F, hs, hD⟩ := hp
    exact ⟨es, clock, (h g (.inl rfl)).trans hb, F, hs, hD⟩
  bound W hp k hk := by
    rcases hk with rfl | hk
    · exact hp.lt
    · exact hk.elim

/-- A disk, in plain words. -/
structure DS where
  last : List (List UInt8)
  wait : Nat → Option (List UInt8)
  dead : Bool
  armed : Bool
  n : Int
  part : Int
  way : Int
  torn : List UInt8
  writes : Int
  lives : Int

/-- The struct's cells. -/
def dRow (sl mv : Value) (dead armed : Bool) (n part way : Int) (torn : Value) (writes lives : Int) : List Value :=
  [sl, mv, .bool dead, .bool armed, .int .i64 n, .int .i64 part, .int .i64 way, torn, .int .i64 writes, .int .i64 lives]

theorem dRow0 (x0 x1 : Value) (x2 x3 : Bool) (x4 x5 x6 : Int) (x7 : Value) (x8 x9 : Int) : (dRow x0 x1 x2 x3 x4 x5 x6 x7 x8 x9).toArray[0]? = some (x0) := rfl
theorem dRow1 (x0 x1 : Value) (x2 x3 : Bool) (x4 x5 x6 : Int) (x7 : Value) (x8 x9 : Int) : (dRow x0 x1 x2 x3 x4 x5 x6 x7 x8 x9).toArray[1]? = some (x1) := rfl
theorem dRow2 (x0 x1 : Value) (x2 x3 : Bool) (x4 x5 x6 : Int) (x7 : Value) (x8 x9 : Int) : (dRow x0 x1 x2 x3 x4 x5 x6 x7 x8 x9).toArray[2]? = some (.bool x2) := rfl
theorem dRow3 (x0 x1 : Value) (x2 x3 : Bool) (x4 x5 x6 : Int) (x7 : Value) (x8 x9 : Int) : (dRow x0 x1 x2 x3 x4 x5 x6 x7 x8 x9).toArray[3]? = some (.bool x3) := rfl
theorem dRow4 (x0 x1 : Value) (x2 x3 : Bool) (x4 x5 x6 : Int) (x7 : Value) (x8 x9 : Int) : (dRow x0 x1 x2 x3 x4 x5 x6 x7 x8 x9).toArray[4]? = some (.int .i64 x4) := rfl
theorem dRow5 (x0 x1 : Value) (x2 x3 : Bool) (x4 x5 x6 : Int) (x7 : Value) (x8 x9 : Int) : (dRow x0 x1 x2 x3 x4 x5 x6 x7 x8 x9).toArray[5]? = some (.int .i64 x5) := rfl
theorem dRow6 (x0 x1 : Value) (x2 x3 : Bool) (x4 x5 x6 : Int) (x7 : Value) (x8 x9 : Int) : (dRow x0 x1 x2 x3 x4 x5 x6 x7 x8 x9).toArray[6]? = some (.int .i64 x6) := rfl
theorem dRow7 (x0 x1 : Value) (x2 x3 : Bool) (x4 x5 x6 : Int) (x7 : Value) (x8 x9 : Int) : (dRow x0 x1 x2 x3 x4 x5 x6 x7 x8 x9).toArray[7]? = some (x7) := rfl
theorem dRow8 (x0 x1 : Value) (x2 x3 : Bool) (x4 x5 x6 : Int) (x7 : Value) (x8 x9 : Int) : (dRow x0 x1 x2 x3 x4 x5 x6 x7 x8 x9).toArray[8]? = some (.int .i64 x8) := rfl
theorem dRow9 (x0 x1 : Value) (x2 x3 : Bool) (x4 x5 x6 : Int) (x7 : Value) (x8 x9 : Int) : (dRow x0 x1 x2 x3 x4 x5 x6 x7 x8 x9).toArray[9]? = some (.int .i64 x9) := rfl

theorem dSet1 (x0 x1 : Value) (x2 x3 : Bool) (x4 x5 x6 : Int) (x7 : Value) (x8 x9 : Int) (y : Value) : (dRow x0 x1 x2 x3 x4 x5 x6 x7 x8 x9).toArray.setIfInBounds 1 (y) = (dRow x0 y x2 x3 x4 x5 x6 x7 x8 x9).toArray := rfl
theorem dSet2 (x0 x1 : Value) (x2 x3 : Bool) (x4 x5 x6 : Int) (x7 : Value) (x8 x9 : Int) (y : Bool) : (dRow x0 x1 x2 x3 x4 x5 x6 x7 x8 x9).toArray.setIfInBounds 2 (.bool y) = (dRow x0 x1 y x3 x4 x5 x6 x7 x8 x9).toArray := rfl
theorem dSet3 (x0 x1 : Value) (x2 x3 : Bool) (x4 x5 x6 : Int) (x7 : Value) (x8 x9 : Int) (y : Bool) : (dRow x0 x1 x2 x3 x4 x5 x6 x7 x8 x9).toArray.setIfInBounds 3 (.bool y) = (dRow x0 x1 x2 y x4 x5 x6 x7 x8 x9).toArray := rfl
theorem dSet4 (x0 x1 : Value) (x2 x3 : Bool) (x4 x5 x6 : Int) (x7 : Value) (x8 x9 : Int) (y : Int) : (dRow x0 x1 x2 x3 x4 x5 x6 x7 x8 x9).toArray.setIfInBounds 4 (.int .i64 y) = (dRow x0 x1 x2 x3 y x5 x6 x7 x8 x9).toArray := rfl
theorem dSet5 (x0 x1 : Value) (x2 x3 : Bool) (x4 x5 x6 : Int) (x7 : Value) (x8 x9 : Int) (y : Int) : (dRow x0 x1 x2 x3 x4 x5 x6 x7 x8 x9).toArray.setIfInBounds 5 (.int .i64 y) = (dRow x0 x1 x2 x3 x4 y x6 x7 x8 x9).toArray := rfl
theorem dSet6 (x0 x1 : Value) (x2 x3 : Bool) (x4 x5 x6 : Int) (x7 : Value) (x8 x9 : Int) (y : Int) : (dRow x0 x1 x2 x3 x4 x5 x6 x7 x8 x9).toArray.setIfInBounds 6 (.int .i64 y) = (dRow x0 x1 x2 x3 x4 x5 y x7 x8 x9).toArray := rfl
theorem dSet7 (x0 x1 : Value) (x2 x3 : Bool) (x4 x5 x6 : Int) (x7 : Value) (x8 x9 : Int) (y : Value) : (dRow x0 x1 x2 x3 x4 x5 x6 x7 x8 x9).toArray.setIfInBounds 7 (y) = (dRow x0 x1 x2 x3 x4 x5 x6 y x8 x9).toArray := rfl
theorem dSet8 (x0 x1 : Value) (x2 x3 : Bool) (x4 x5 x6 : Int) (x7 : Value) (x8 x9 : Int) (y : Int) : (dRow x0 x1 x2 x3 x4 x5 x6 x7 x8 x9).toArray.setIfInBounds 8 (.int .i64 y) = (dRow x0 x1 x2 x3 x4 x5 x6 x7 y x9).toArray := rfl
theorem dSet9 (x0 x1 : Value) (x2 x3 : Bool) (x4 x5 x6 : Int) (x7 : Value) (x8 x9 : Int) (y : Int) : (dRow x0 x1 x2 x3 x4 x5 x6 x7 x8 x9).toArray.setIfInBounds 9 (.int .i64 y) = (dRow x0 x1 x2 x3 x4 x5 x6 x7 x8 y).toArray := rfl

def keyI (k : Nat) : Lit := .int .i64 (k : Int)

/-- The bytes that a disk's parts name. -/
structure PayIs (W : World) (rd : Nat → Prop) (rows : List Value) (last : List (List UInt8)) (D : DataW Value) (wait : Nat → Option (List UInt8)) (tv : Value) (torn : List UInt8) : Prop where
  sect : ∀ (i : Nat) (h : i < last.length), ByS W rd (rows.getD i undef) last[i]
  keys : ∀ kl, Go.Maps.has D kl = true → ∃ k : Nat, k < last.length ∧ kl = keyI k
  waits : ∀ k, (Go.Maps.has D (keyI k) = false ∧ wait k = none) ∨ ∃ v l, Go.Maps.has D (keyI k) = true ∧ D.atKey (keyI k) (.held (.slice none 0 0)) = .held v ∧ wait k = some l ∧ l.length = 256 ∧ ByS W rd v l
  torn : ByS W rd tv torn
  lt : ∀ k, rd k → k < W.heap.size

theorem PayIs.same {W W' : World} {rd rd' : Nat → Prop} {rows : List Value} {last : List (List UInt8)} {D : DataW Value} {wait : Nat → Option (List UInt8)} {tv : Value} {torn : List UInt8}
    (h : PayIs W rd rows last D wait tv torn) (hb : ∀ k, rd k → W'.heap[k]? = W.heap[k]? ∧ rd' k) (hl : ∀ k, rd' k → k < W'.heap.size) : PayIs W' rd' rows last D wait tv torn :=
  ⟨fun i hi => (h.sect i hi).same hb, h.keys, fun k => by
    rcases h.waits k with h1 | ⟨v, l, h1, h2, h3, h4, h5⟩
    · exact .inl h1
    · exact .inr ⟨v, l, h1, h2, h3, h4, h5.same hb⟩, h.torn.same hb, hl⟩

def payA (rd : Nat → Prop) (rows : List Value) (last : List (List UInt8)) (D : DataW Value) (wait : Nat → Option (List UInt8)) (tv : Value) (torn : List UInt8) : Asrt where
  own _ := False
  rd := rd
  prop W := PayIs W rd rows last D wait tv torn
  stable W W' h hp := by
    refine hp.same (fun k hk => ⟨h k (.inr hk), hk⟩) (fun k hk => ?_)
    have h1 := hp.lt k hk
    have h2 := h k (.inr hk)
    rw [Array.getElem?_eq_getElem h1] at h2
    exact (Array.getElem?_eq_some_iff.1 h2).1
  bound W hp k hk := by
    rcases hk with hk | hk
    · exact hk.elim
    · exact hp.lt k hk

/-- What a disk may be. -/
structure DS.Fine (D : DS) : Prop where
  n1 : 32 ≤ D.last.length
  n2 : D.last.length ≤ 1900
  len : ∀ l ∈ D.last, l.length = 256
  part : 0 ≤ D.part ∧ D.part ≤ 256
  way : -1 ≤ D.way ∧ D.way < D.last.length
  torn : D.torn.length ≤ 256
  nlo : -9223372036854775808 ≤ D.n
  nhi : D.n ≤ 9223372036854775807

/-- In world W the disk at block g is D: it owns own, and reads rd. -/
structure DiskIs (W : World) (g : Nat) (D : DS) (own rd : Nat → Prop) : Prop where
  fine : D.Fine
  parts : ∃ gl gm cap rows junk M tv, W.heap[g]? = some (.cells (dRow (.slice (some ⟨gl, 0, none⟩) D.last.length cap) (.map (some gm)) D.dead D.armed D.n D.part D.way tv D.writes D.lives).toArray 77 (0, 0)) ∧
    W.heap[gl]? = some (.cells (rows ++ junk).toArray 22 (0, 0)) ∧ rows.length = D.last.length ∧ (rows ++ junk).length = cap ∧
    W.ownsMap Tryz.prog 3 RV gm (Go.Maps.size M) M ∧ PayIs W rd rows D.last M D.wait tv D.torn ∧
    (∀ k, own k ↔ k = g ∨ k = gl ∨ k = gm) ∧ g ≠ gl ∧ g ≠ gm ∧ gl ≠ gm ∧ (∀ k, own k → ¬ rd k)

theorem DiskIs.lt {W : World} {g : Nat} {D : DS} {own rd : Nat → Prop} (h : DiskIs W g D own rd) : ∀ k, own k ∨ rd k → k < W.heap.size := by
  obtain ⟨_, gl, gm, cap, rows, junk, M, tv, h1, h2, _, _, h3, h4, h5, _⟩ := h
  intro k hk
  rcases hk with hk | hk
  · rcases (h5 k).1 hk with rfl | rfl | rfl
    · exact (Array.getElem?_eq_some_iff.1 h1).1
    · exact (Array.getElem?_eq_some_iff.1 h2).1
    · exact h3.lt
  · exact h4.lt k hk

/-- The disk, as an assertion. -/
def dA (g : Nat) (D : DS) (own rd : Nat → Prop) : Asrt where
  own := own
  rd := rd
  prop W := DiskIs W g D own rd
  stable W W' h hp := by
    have hlt := hp.lt
    obtain ⟨hf, gl, gm, cap, rows, junk, M, tv, h1, h2, h3, h4, h5, h6, h7, h8⟩ := hp
    have hg := h g (.inl ((h7 g).2 (.inl rfl)))
    have hgl := h gl (.inl ((h7 gl).2 (.inr (.inl rfl))))
    have hgm := h gm (.inl ((h7 gm).2 (.inr (.inr rfl))))
    refine ⟨hf, gl, gm, cap, rows, junk, M, tv, hg.trans h1, hgl.trans h2, h3, h4, ?_, (payA rd rows D.last M D.wait tv D.torn).stable W W' (fun k hk => h k (.inr (hk.resolve_left id))) h6, h7, h8⟩
    exact (mapA gm _ M).stable W W' (fun k hk => by
      rcases hk with rfl | hk
      · exact hgm
      · exact hk.elim) h5
  bound W hp k hk := hp.lt k hk

/-- A call on a disk begins with its parts. -/
theorem DiskIs.open_ {W : World} {g : Nat} {D : DS} {own rd : Nat → Prop} (h : DiskIs W g D own rd) :
    ∃ gl gm cap rows junk M tv, D.Fine ∧ rows.length = D.last.length ∧ (rows ++ junk).length = cap ∧
      St own rd W W [blk g (.cells (dRow (.slice (some ⟨gl, 0, none⟩) D.last.length cap) (.map (some gm)) D.dead D.armed D.n D.part D.way tv D.writes D.lives).toArray 77 (0, 0)),
        blk gl (.cells (rows ++ junk).toArray 22 (0, 0)), mapA gm (Go.Maps.size M) M, payA rd rows D.last M D.wait tv D.torn] := by
  obtain ⟨hf, gl, gm, cap, rows, junk, M, tv, h1, h2, h3, h4, h5, h6, h7, n1, n2, n3, h8⟩ := h
  refine ⟨gl, gm, cap, rows, junk, M, tv, hf, h3, h4, Fix.refl _ _, ?_, ?_, ?_, ?_⟩
  · intro i A hi
    rcases i with _ | _ | _ | _ | i <;> simp at hi
    · subst hi; exact h1
    · subst hi; exact h2
    · subst hi; exact h5
    · subst hi; exact h6
  · have hg := (h7 g).2 (.inl rfl)
    have hgl := (h7 gl).2 (.inr (.inl rfl))
    have hgm := (h7 gm).2 (.inr (.inr rfl))
    intro i j A B hi hj hne
    rcases i with _ | _ | _ | _ | i <;> rcases j with _ | _ | _ | _ | j <;> simp at hi hj <;> first | omega | skip
    all_goals
      subst hi hj
      refine ⟨?_, ?_, ?_⟩ <;> intro k hk hk' <;> simp only [blk, mapA, payA] at hk hk' <;> first | exact hk.elim | exact hk'.elim | omega | skip
    all_goals
      first
        | (subst hk; exact h8 _ hg hk')
        | (subst hk; exact h8 _ hgl hk')
        | (subst hk; exact h8 _ hgm hk')
  · intro i A hi k hk
    right
    rcases i with _ | _ | _ | _ | i <;> simp at hi
    · subst hi; exact (h7 k).2 (.inl hk)
    · subst hi; exact (h7 k).2 (.inr (.inl hk))
    · subst hi; exact (h7 k).2 (.inr (.inr hk))
    · subst hi; exact hk.elim
  · intro i A hi k hk
    right; right
    rcases i with _ | _ | _ | _ | i <;> simp at hi
    · subst hi; exact hk.elim
    · subst hi; exact hk.elim
    · subst hi; exact hk.elim
    · subst hi; exact hk

/-- What a call on a disk leaves. -/
def DiskTo (W : World) (g : Nat) (own rd : Nat → Prop) (D' : DS) (W' : World) : Prop :=
  ∃ own' rd', DiskIs W' g D' own' rd' ∧ Fix own W W' ∧ (∀ k, own' k → own k ∨ W.heap.size ≤ k) ∧ (∀ k, rd' k → own k ∨ rd k ∨ W.heap.size ≤ k)

/-- A call on a disk ends with its parts. -/
theorem St.disk {W W' : World} {own rd : Nat → Prop} {L : List Asrt} (H : St own rd W W' L) {g : Nat} {D' : DS} (hf : D'.Fine) (gl gm cap : Nat) (rows junk : List Value) (M : DataW Value) (tv : Value) (rd' : Nat → Prop) (h3 : rows.length = D'.last.length) (h4 : (rows ++ junk).length = cap)
    (i0 i1 i2 i3 : Nat) (e0 : L[i0]? = some (blk g (.cells (dRow (.slice (some ⟨gl, 0, none⟩) D'.last.length cap) (.map (some gm)) D'.dead D'.armed D'.n D'.part D'.way tv D'.writes D'.lives).toArray 77 (0, 0))))
    (e1 : L[i1]? = some (blk gl (.cells (rows ++ junk).toArray 22 (0, 0)))) (e2 : L[i2]? = some (mapA gm (Go.Maps.size M) M)) (e3 : L[i3]? = some (payA rd' rows D'.last M D'.wait tv D'.torn))
    (n01 : i0 ≠ i1) (n02 : i0 ≠ i2) (n03 : i0 ≠ i3) (n12 : i1 ≠ i2) (n13 : i1 ≠ i3) (n23 : i2 ≠ i3) : DiskTo W g own rd D' W' := by
  have a01 := H.apart _ _ _ _ e0 e1 n01
  have a02 := H.apart _ _ _ _ e0 e2 n02
  have a03 := H.apart _ _ _ _ e0 e3 n03
  have a12 := H.apart _ _ _ _ e1 e2 n12
  have a13 := H.apart _ _ _ _ e1 e3 n13
  have a23 := H.apart _ _ _ _ e2 e3 n23
  refine ⟨fun k => k = g ∨ k = gl ∨ k = gm, rd', ⟨hf, gl, gm, cap, rows, junk, M, tv, H.at i0 e0, H.at i1 e1, h3, h4, H.at i2 e2, H.at i3 e3, fun _ => Iff.rfl, fun e => a01.1 g rfl e, fun e => a02.1 g rfl e, fun e => a12.1 gl rfl e, ?_⟩, H.fix, ?_, ?_⟩
  · rintro k (rfl | rfl | rfl) hk
    · exact a03.2.1 _ rfl hk
    · exact a13.2.1 _ rfl hk
    · exact a23.2.1 _ rfl hk
  · rintro k (rfl | rfl | rfl)
    · exact (H.mine i0 _ e0 _ rfl).symm
    · exact (H.mine i1 _ e1 _ rfl).symm
    · exact (H.mine i2 _ e2 _ rfl).symm
  · intro k hk
    rcases H.reads i3 _ e3 k hk with h | h | h
    · exact .inr (.inr h)
    · exact .inl h
    · exact .inr (.inl h)

end Go.Proofs.YtajlhloapglafaaGreatDoor
