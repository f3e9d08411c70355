/- The disk's contracts as its callers want them. -/
import Derived.Test.YtajlhloapglafaaGreatDoorDkG
namespace Go.Proofs.YtajlhloapglafaaGreatDoor
open Go.RowKit
set_option linter.unusedSimpArgs false
set_option linter.unusedVariables false
set_option maxRecDepth 4000

theorem new_at (z : Int) (n : Nat) (hz : (n : Int) = z) (h1 : 32 ≤ n) (h2 : n ≤ 1900) (w : World) :
    Calls Tryz.prog 11 #[.int .i64 z] w fun e w' => ∃ g own rd, e = .returned (.pointer (some ⟨g, 0, none⟩)) ∧ DiskIs w' g (DS.new n) own rd ∧ Below w.heap.size w w' ∧ ∀ k, own k ∨ rd k → w.heap.size ≤ k := by
  subst hz; exact new_calls n h1 h2 w

theorem write_at {w : World} {g : Nat} {D : DS} {own rd : Nat → Prop} (hd : DiskIs w g D own rd) (z : Int) (k : Nat) (hz : (k : Int) = z) (hk : k < D.last.length) (hdd : D.dead = false) (v : Value) (l : List UInt8) (hv : ArgB w own v l) (hl : l.length = 256) (hfl : D.failsB = false) (hw : 0 ≤ D.writes ∧ D.writes < 1000000)
    {D' : DS} (hD : { D.failsD with wait := fun j => if j = k then some l else D.failsD.wait j, writes := D.failsD.writes + 1 } = D') :
    Calls Tryz.prog 20 #[.pointer (some ⟨g, 0, none⟩), .int .i64 z, v] w fun e w' => e = .returned (.int .i64 0) ∧ DiskTo w g own rd D' w' := by
  subst hz hD; exact write_ok hd k hk hdd v l hv hl hfl hw

theorem read_at {w : World} {g : Nat} {D : DS} {own rd : Nat → Prop} (hd : DiskIs w g D own rd) (z : Int) (k : Nat) (hz : (k : Int) = z) (hk : k < D.last.length) (hdd : D.dead = false) {l : List UInt8} (hl : D.sect k = l) :
    Calls Tryz.prog 75 #[.pointer (some ⟨g, 0, none⟩), .int .i64 z] w fun e w' => ∃ gc cap junk, e = .returned (.tuple #[.slice (some ⟨gc, 0, none⟩) 256 cap, .int .i64 0]) ∧ l.length = 256 ∧ 256 ≤ cap ∧ w.heap.size ≤ gc ∧ w'.heap[gc]? = some (.cells (byteV l ++ junk).toArray 5 (0, 0)) ∧ Below w.heap.size w w' := by
  subst hz hl
  refine (read_calls hd k hk hdd).mono ?_
  rintro e w' ⟨v, rfl, ⟨gc, cap, junk, rfl, h1, h2, h3, h4⟩, h5, h6⟩
  rw [h5] at h1 ⊢
  exact ⟨gc, cap, junk, rfl, rfl, h1, h3, h4, h6⟩

theorem flush_at {w : World} {g : Nat} {D : DS} {own rd : Nat → Prop} (hd : DiskIs w g D own rd) (hdd : D.dead = false) (hfl : D.failsB = false) {D' : DS} (hD : { D.failsD with last := D.failsD.all, wait := fun _ => none } = D') :
    Calls Tryz.prog 21 #[.pointer (some ⟨g, 0, none⟩)] w fun e w' => e = .returned (.int .i64 0) ∧ DiskTo w g own rd D' w' := by
  subst hD; exact flush_ok hd hdd hfl

theorem lives_at {w : World} {g : Nat} {D : DS} {own rd : Nat → Prop} (hd : DiskIs w g D own rd) {z : Int} (h : D.lives = z) :
    Calls Tryz.prog 46 #[.pointer (some ⟨g, 0, none⟩)] w fun e w' => e = .returned (.int .i64 z) ∧ w = w' := by subst h; exact lives_calls hd

/-- The disk of begun, behind its one write. -/
theorem DiskTo.step {M0 R0 : Nat → Prop} {w0 W W' : World} {L : List Asrt} (H : St M0 R0 w0 W L) (i : Nat) {g : Nat} {D D' : DS} {own rd : Nat → Prop} (hi : L[i]? = some (dA g D own rd)) (h : DiskTo W g own rd D' W') :
    ∃ own' rd', St M0 R0 w0 W' (L.set i (dA g D' own' rd')) := by
  obtain ⟨own', rd', h1, h2, h3, h4⟩ := h
  exact ⟨own', rd', H.step i hi h2 h1 ⟨h3, h4⟩⟩

theorem St.notown {M0 R0 : Nat → Prop} {w0 W : World} {L : List Asrt} (H : St M0 R0 w0 W L) (i j : Nat) {g gd : Nat} {x : Obj} {D : DS} {own rd : Nat → Prop} (hi : L[i]? = some (blk g x)) (hj : L[j]? = some (dA gd D own rd)) (hne : i ≠ j) : ¬ own g :=
  fun hk => (H.apart i j _ _ hi hj hne).1 g rfl hk

theorem argB_own {w : World} {own : Nat → Prop} {g : Nat} {l : List UInt8} {t : TypeId} {n : Nat} (hl : l.length = n) (hn : n ≤ 1048576) (hg : w.heap[g]? = some (.cells (byteV l).toArray t (0, 0))) (hno : ¬ own g) : ArgB w own (.slice (some ⟨g, 0, none⟩) n n) l :=
  ⟨⟨g, 0, n, by rw [hl], by omega, BytesAt.front (junk := []) (by rw [List.append_nil]; exact hg), .inr ⟨(Array.getElem?_eq_some_iff.1 hg).1, hno⟩⟩, by omega⟩

/-- A calm disk: what the laws' loops keep. -/
structure Calm (D : DS) (n : Nat) (w : Nat) : Prop where
  len : D.last.length = n
  dead : D.dead = false
  armed : D.armed = false
  writes : D.writes = (w : Int)

theorem St.one' {A : Asrt} {w : World} (h : A.prop w) (hn : ∀ k, ¬ A.own k) : St NoBlk A.rd w w [A] := by
  have H := St.one h
  exact ⟨Fix.refl _ _, H.all, H.apart, fun i B hi k hk => by
    rcases H.mine i B hi k hk with h | h
    · exact .inl h
    · exact absurd h (hn k), fun i B hi k hk => by
    rcases H.reads i B hi k hk with h | h | h
    · exact .inl h
    · exact absurd h (hn k)
    · exact .inr (.inr h)⟩

theorem wpList_build0 {P : Program} {ops : Array Oper} {rest : List Oper} {o : Oper} {a : Act} {Q : Exit → Act → World → Prop} {W : World} (hwt : Region.wanted o (yielded ops a.tmps) = true) (T : TypeId) (ho : o.op = .build T #[]) (cs : Array Value) (hb : P.built T [] = some cs)
    (h : wpList P ops Q rest (a.put o.dst (.agg cs)) W) : wpList P ops Q (o :: rest) a W := by
  refine wpList_want hwt fun K hK => ?_
  have e : ((#[] : Array (Nat × Operand)).map fun (i, x) => (i, a.eval x)).toList = [] := by simp
  exact wp_build (P := P) (o := o) (a := a) (w := W) (K := K) (Q := Q) T #[] ho (by rw [e, hb]; rfl) (by rw [e, hb]; exact hK _ _ h)

theorem failsD_calm {D : DS} {n w : Nat} (h : Calm D n w) : D.failsD = D := by simp [DS.failsD, h.armed]

theorem failsB_calm {D : DS} {n w : Nat} (h : Calm D n w) : D.failsB = false := by simp [DS.failsB, h.armed]

def DS.put (D : DS) (s : Nat) (l : List UInt8) : DS := { D with wait := fun j => if j = s then some l else D.wait j, writes := D.writes + 1 }

def DS.flushed (D : DS) : DS := { D with last := D.all, wait := fun _ => none }

theorem Calm.put {D : DS} {n w : Nat} (h : Calm D n w) (s : Nat) (l : List UInt8) : Calm (D.put s l) n (w + 1) := ⟨h.len, h.dead, h.armed, by show D.writes + 1 = _; rw [h.writes]; omega⟩

theorem DS.all_len (D : DS) : D.all.length = D.last.length := by simp [DS.all]

theorem Calm.flushed {D : DS} {n w : Nat} (h : Calm D n w) : Calm D.flushed n w := ⟨(DS.all_len D).trans h.len, h.dead, h.armed, h.writes⟩

theorem write_calm {w : World} {g : Nat} {D : DS} {own rd : Nat → Prop} (hd : DiskIs w g D own rd) {n u : Nat} (hc : Calm D n u) (hu : u < 1000000) (z : Int) (k : Nat) (hz : (k : Int) = z) (hk : k < n) (v : Value) (l : List UInt8) (hv : ArgB w own v l) (hl : l.length = 256) :
    Calls Tryz.prog 20 #[.pointer (some ⟨g, 0, none⟩), .int .i64 z, v] w fun e w' => e = .returned (.int .i64 0) ∧ DiskTo w g own rd (D.put k l) w' :=
  write_at hd z k hz (by rw [hc.len]; exact hk) hc.dead v l hv hl (failsB_calm hc) (by rw [hc.writes]; omega) (by rw [failsD_calm hc]; rfl)

theorem flush_calm {w : World} {g : Nat} {D : DS} {own rd : Nat → Prop} (hd : DiskIs w g D own rd) {n u : Nat} (hc : Calm D n u) :
    Calls Tryz.prog 21 #[.pointer (some ⟨g, 0, none⟩)] w fun e w' => e = .returned (.int .i64 0) ∧ DiskTo w g own rd D.flushed w' :=
  flush_at hd hc.dead (failsB_calm hc) (by rw [failsD_calm hc]; rfl)

theorem BytesAt.whole {W : World} {g : Nat} {l : List UInt8} {t : TypeId} {fr : Nat × Nat} (hg : W.heap[g]? = some (.cells (byteV l).toArray t fr)) : BytesAt W g 0 l :=
  BytesAt.front (junk := []) (by rw [List.append_nil]; exact hg)

end Go.Proofs.YtajlhloapglafaaGreatDoor
