/- A map of slices of bytes and what they bear; the log in memory. -/
import Derived.Test.YtajlhloapglafaaGreatDoorOcB
import Derived.Test.YtajlhloapglafaaGreatDoorBun
namespace Go.Proofs.YtajlhloapglafaaGreatDoor
open Go.RowKit
set_option linter.unusedSimpArgs false
set_option linter.unusedVariables false
set_option maxRecDepth 4000

/-- The bytes that a map's slices name: n keys, len bytes each. -/
structure MapIs (W : World) (rd : Nat → Prop) (M : DataW Value) (f : Nat → Option (List UInt8)) (n len : Nat) : Prop where
  keys : ∀ kl, Go.Maps.has M kl = true → ∃ k : Nat, k < n ∧ kl = keyI k
  waits : ∀ k, (Go.Maps.has M (keyI k) = false ∧ f k = none) ∨ ∃ v l, Go.Maps.has M (keyI k) = true ∧ M.atKey (keyI k) (.held (.slice none 0 0)) = .held v ∧ f k = some l ∧ l.length = len ∧ ByS W rd v l
  lt : ∀ k, rd k → k < W.heap.size

theorem MapIs.same {W W' : World} {rd rd' : Nat → Prop} {M : DataW Value} {f : Nat → Option (List UInt8)} {n len : Nat} (h : MapIs W rd M f n len) (hb : ∀ k, rd k → W'.heap[k]? = W.heap[k]? ∧ rd' k) (hl : ∀ k, rd' k → k < W'.heap.size) : MapIs W' rd' M f n len :=
  ⟨h.keys, fun k => by
    rcases h.waits k with h1 | ⟨v, l, h1, h2, h3, h4, h5⟩
    · exact .inl h1
    · exact .inr ⟨v, l, h1, h2, h3, h4, h5.same hb⟩, hl⟩

def mapIsA (rd : Nat → Prop) (M : DataW Value) (f : Nat → Option (List UInt8)) (n len : Nat) : Asrt where
  own _ := False
  rd := rd
  prop W := MapIs W rd M f n len
  stable W W' h hp := by
    refine hp.same (fun k hk => ⟨h k (.inr hk), hk⟩) (fun k hk => ?_)
    have h1 := hp.lt k hk
    have h2 := h k (.inr hk)
    rw [Array.getElem?_eq_getElem h1] at h2
    exact (Array.getElem?_eq_some_iff.1 h2).1
  bound W hp k hk := by
    rcases hk with hk | hk
    · exact hk.elim
    · exact hp.lt k hk

theorem MapIs.empty (W : World) (n len : Nat) : MapIs W NoBlk (.map []) (fun _ => none) n len :=
  ⟨fun kl h => by simp [Go.Maps.has] at h, fun k => .inl ⟨rfl, rfl⟩, fun k hk => hk.elim⟩

theorem MapIs.look_no {W : World} {rd : Nat → Prop} {M : DataW Value} {f : Nat → Option (List UInt8)} {b len : Nat} (h : MapIs W rd M f b len) {gm n : Nat}
    (hm : W.ownsMap Tryz.prog 3 RV gm n M) (k : Nat) (hk : k < 1048576) (hw : f k = none) :
    (Instr.lookup 74 (.map (some gm)) (.int .i64 (k : Int)) true).run Tryz.prog W = .ok (.tuple #[.slice none 0 0, .bool false]) W := by
  rcases h.waits k with ⟨h1, _⟩ | ⟨v, l, _, _, h3, _⟩
  · obtain ⟨v, ps, hrun, hv⟩ := hm.look_ok keyedInt Tryz.underlying74 (zero_bytes W) (zd := .held (.slice none 0 0)) (zp := []) rfl (keyI_is hk)
    rw [Go.Maps.atKey_of_not_has h1] at hv
    simp [RV] at hv
    rw [hrun, hv.1, h1]
  · rw [hw] at h3; cases h3

theorem MapIs.look_yes {W : World} {rd : Nat → Prop} {M : DataW Value} {f : Nat → Option (List UInt8)} {b len : Nat} (h : MapIs W rd M f b len) {gm n : Nat}
    (hm : W.ownsMap Tryz.prog 3 RV gm n M) (k : Nat) (hk : k < 1048576) {l : List UInt8} (hw : f k = some l) :
    ∃ v, (Instr.lookup 74 (.map (some gm)) (.int .i64 (k : Int)) true).run Tryz.prog W = .ok (.tuple #[v, .bool true]) W ∧
      (Instr.lookup 74 (.map (some gm)) (.int .i64 (k : Int)) false).run Tryz.prog W = .ok v W ∧ l.length = len ∧ ByS W rd v l := by
  rcases h.waits k with ⟨_, h1⟩ | ⟨v, l', h1, h2, h3, h4, h5⟩
  · rw [hw] at h1; cases h1
  · rw [hw] at h3
    cases h3
    obtain ⟨v1, ps, hrun, hv⟩ := hm.look_ok keyedInt Tryz.underlying74 (zero_bytes W) (zd := .held (.slice none 0 0)) (zp := []) rfl (keyI_is hk)
    obtain ⟨v2, ps2, hrun2, hv2⟩ := hm.lookup keyedInt Tryz.underlying74 (zero_bytes W) (zd := .held (.slice none 0 0)) (zp := []) rfl (keyI_is hk)
    rw [h2] at hv hv2
    simp [RV] at hv hv2
    refine ⟨v, ?_, ?_, h4, h5⟩
    · rw [hrun, hv.1, h1]
    · rw [hrun2, hv2.1]

theorem MapIs.size_le {W : World} {rd : Nat → Prop} {M : DataW Value} {f : Nat → Option (List UInt8)} {b len : Nat} (h : MapIs W rd M f b len) {gm n : Nat}
    (hm : W.ownsMap Tryz.prog 3 RV gm n M) : Go.Maps.size M ≤ b := by
  have h' : PayIs W rd (List.replicate b (.slice none 0 0)) (List.replicate b []) M (fun k => if Go.Maps.has M (keyI k) then some (List.replicate 256 0) else none) (.slice none 0 0) [] → Go.Maps.size M ≤ b := fun hp => by simpa using hp.size_le hm
  obtain ⟨es, rfl, hp⟩ := hm.tidy keyedInt
  have hk := h.keys
  have hn : (es.map Prod.fst).Nodup := by
    rw [List.nodup_iff_pairwise_ne, List.pairwise_map]
    exact hp
  have key : ∀ x ∈ es.map Prod.fst, ∃ k : Nat, k < b ∧ x = keyI k := by
    intro x hx
    obtain ⟨p, hp1, rfl⟩ := List.mem_map.1 hx
    have hkey : WideAt.IsKeyLit p.1 := by
      obtain ⟨es', e1, _, h3⟩ := hm.canon keyedInt
      cases e1
      exact h3 p hp1
    refine hk p.1 ?_
    rw [Go.Maps.has_eq, List.any_eq_true]
    exact ⟨p, hp1, WideAt.sameKey_self hkey⟩
  have := nodup_le (((es.map Prod.fst).map fun x => match x with | .int _ k => k | _ => 0)) ((List.range b).map (fun k : Nat => (k : Int))) (by
    rw [List.nodup_iff_pairwise_ne, List.pairwise_map]
    refine List.Pairwise.imp_of_mem ?_ hn
    intro a c ha hc hne e
    obtain ⟨i, _, rfl⟩ := key a ha
    obtain ⟨j, _, rfl⟩ := key c hc
    simp only [keyI] at e
    have : i = j := by omega
    exact hne (by rw [this])) (by
    intro x hx
    obtain ⟨p, hp1, rfl⟩ := List.mem_map.1 hx
    obtain ⟨i, hi, rfl⟩ := key p hp1
    simp only [keyI, List.mem_map, List.mem_range]
    exact ⟨i, hi, rfl⟩)
  simpa [Go.Maps.size] using this

/-- One more. -/
theorem MapIs.put {W : World} {rd : Nat → Prop} {M : DataW Value} {f : Nat → Option (List UInt8)} {n len : Nat} (h : MapIs W rd M f n len) (hM : Go.Maps.IsMap M) {v : Value} {l : List UInt8} {rd' : Nat → Prop} (hrd : ∀ k, rd k → rd' k)
    (hlt : ∀ k, rd' k → k < W.heap.size) (hl : l.length = len) (hv : ByS W rd' v l) (k : Nat) (hk : k < n) : MapIs W rd' (M.put (keyI k) (.held v)) (fun j => if j = k then some l else f j) n len := by
  have h' := h.same (W' := W) (rd' := rd') (fun k hk => ⟨rfl, hrd k hk⟩) hlt
  refine ⟨fun kl hkl => ?_, fun j => ?_, h'.lt⟩
  · by_cases e : kl = keyI k
    · exact ⟨k, hk, e⟩
    · rw [Go.Maps.has_put_other e] at hkl
      exact h.keys kl hkl
  · by_cases e : j = k
    · subst e
      exact .inr ⟨_, l, Go.Maps.has_put_same hM (show WideAt.IsKeyLit (keyI j) from trivial) _, Go.Maps.atKey_put_same hM (show WideAt.IsKeyLit (keyI j) from trivial) _ _, by simp, hl, hv⟩
    · have e' : keyI j ≠ keyI k := fun x => e (keyI_inj x)
      rw [Go.Maps.has_put_other e', Go.Maps.atKey_put_other e']
      simp only [if_neg e]
      exact h'.waits j

/-- The log, in plain words (its disk aside). -/
structure LS where
  lives : Int
  s : Nat
  turn : Nat
  place : Nat
  ring : Nat
  free : Int
  m : Nat → Option (List UInt8)

/-- The struct's cells. -/
def lRow (dv : Value) (lives : Int) (done : Bool) (s turn place ring free : Int) (mv : Value) : List Value :=
  [dv, .int .i64 lives, .bool done, .int .u64 s, .int .u64 turn, .int .i64 place, .int .i64 ring, .int .i64 free, mv]

theorem lRow0 (x0 : Value) (x1 : Int) (x2 : Bool) (x3 x4 x5 x6 x7 : Int) (x8 : Value) : (lRow x0 x1 x2 x3 x4 x5 x6 x7 x8).toArray[0]? = some x0 := rfl
theorem lRow1 (x0 : Value) (x1 : Int) (x2 : Bool) (x3 x4 x5 x6 x7 : Int) (x8 : Value) : (lRow x0 x1 x2 x3 x4 x5 x6 x7 x8).toArray[1]? = some (.int .i64 x1) := rfl
theorem lRow2 (x0 : Value) (x1 : Int) (x2 : Bool) (x3 x4 x5 x6 x7 : Int) (x8 : Value) : (lRow x0 x1 x2 x3 x4 x5 x6 x7 x8).toArray[2]? = some (.bool x2) := rfl
theorem lRow3 (x0 : Value) (x1 : Int) (x2 : Bool) (x3 x4 x5 x6 x7 : Int) (x8 : Value) : (lRow x0 x1 x2 x3 x4 x5 x6 x7 x8).toArray[3]? = some (.int .u64 x3) := rfl
theorem lRow4 (x0 : Value) (x1 : Int) (x2 : Bool) (x3 x4 x5 x6 x7 : Int) (x8 : Value) : (lRow x0 x1 x2 x3 x4 x5 x6 x7 x8).toArray[4]? = some (.int .u64 x4) := rfl
theorem lRow5 (x0 : Value) (x1 : Int) (x2 : Bool) (x3 x4 x5 x6 x7 : Int) (x8 : Value) : (lRow x0 x1 x2 x3 x4 x5 x6 x7 x8).toArray[5]? = some (.int .i64 x5) := rfl
theorem lRow6 (x0 : Value) (x1 : Int) (x2 : Bool) (x3 x4 x5 x6 x7 : Int) (x8 : Value) : (lRow x0 x1 x2 x3 x4 x5 x6 x7 x8).toArray[6]? = some (.int .i64 x6) := rfl
theorem lRow7 (x0 : Value) (x1 : Int) (x2 : Bool) (x3 x4 x5 x6 x7 : Int) (x8 : Value) : (lRow x0 x1 x2 x3 x4 x5 x6 x7 x8).toArray[7]? = some (.int .i64 x7) := rfl
theorem lRow8 (x0 : Value) (x1 : Int) (x2 : Bool) (x3 x4 x5 x6 x7 : Int) (x8 : Value) : (lRow x0 x1 x2 x3 x4 x5 x6 x7 x8).toArray[8]? = some x8 := rfl
theorem lSet2 (x0 : Value) (x1 : Int) (x2 : Bool) (x3 x4 x5 x6 x7 : Int) (x8 : Value) (y : Bool) : (lRow x0 x1 x2 x3 x4 x5 x6 x7 x8).toArray.setIfInBounds 2 (.bool y) = (lRow x0 x1 y x3 x4 x5 x6 x7 x8).toArray := rfl
theorem lSet3 (x0 : Value) (x1 : Int) (x2 : Bool) (x3 x4 x5 x6 x7 : Int) (x8 : Value) (y : Int) : (lRow x0 x1 x2 x3 x4 x5 x6 x7 x8).toArray.setIfInBounds 3 (.int .u64 y) = (lRow x0 x1 x2 y x4 x5 x6 x7 x8).toArray := rfl
theorem lSet4 (x0 : Value) (x1 : Int) (x2 : Bool) (x3 x4 x5 x6 x7 : Int) (x8 : Value) (y : Int) : (lRow x0 x1 x2 x3 x4 x5 x6 x7 x8).toArray.setIfInBounds 4 (.int .u64 y) = (lRow x0 x1 x2 x3 y x5 x6 x7 x8).toArray := rfl
theorem lSet5 (x0 : Value) (x1 : Int) (x2 : Bool) (x3 x4 x5 x6 x7 : Int) (x8 : Value) (y : Int) : (lRow x0 x1 x2 x3 x4 x5 x6 x7 x8).toArray.setIfInBounds 5 (.int .i64 y) = (lRow x0 x1 x2 x3 x4 y x6 x7 x8).toArray := rfl
theorem lSet6 (x0 : Value) (x1 : Int) (x2 : Bool) (x3 x4 x5 x6 x7 : Int) (x8 : Value) (y : Int) : (lRow x0 x1 x2 x3 x4 x5 x6 x7 x8).toArray.setIfInBounds 6 (.int .i64 y) = (lRow x0 x1 x2 x3 x4 x5 y x7 x8).toArray := rfl
theorem lSet7 (x0 : Value) (x1 : Int) (x2 : Bool) (x3 x4 x5 x6 x7 : Int) (x8 : Value) (y : Int) : (lRow x0 x1 x2 x3 x4 x5 x6 x7 x8).toArray.setIfInBounds 7 (.int .i64 y) = (lRow x0 x1 x2 x3 x4 x5 x6 y x8).toArray := rfl
theorem lSet8 (x0 : Value) (x1 : Int) (x2 : Bool) (x3 x4 x5 x6 x7 : Int) (x8 y : Value) : (lRow x0 x1 x2 x3 x4 x5 x6 x7 x8).toArray.setIfInBounds 8 y = (lRow x0 x1 x2 x3 x4 x5 x6 x7 y).toArray := rfl

/-- A log and its disk, in memory: the struct, the map, what its slices name, the disk. -/
def logL (g gd gm : Nat) (X : LS) (M : DataW Value) (rm : Nat → Prop) (n : Nat) (D : DS) (own rd : Nat → Prop) : List Asrt :=
  [blk g (.cells (lRow (.pointer (some ⟨gd, 0, none⟩)) X.lives false X.s X.turn X.place X.ring X.free (.map (some gm))).toArray 84 (0, 0)), mapA gm (Go.Maps.size M) M, mapIsA rm M X.m n 248, dA gd D own rd]

end Go.Proofs.YtajlhloapglafaaGreatDoor
