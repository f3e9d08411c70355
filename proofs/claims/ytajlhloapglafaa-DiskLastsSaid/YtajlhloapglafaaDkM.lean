/- DiskLasts' plain words: what a disk that was flushed, armed, written and powered has. -/
import Derived.Test.YtajlhloapglafaaDkL
namespace Go.Proofs.Ytajlhloapglafaa
open Go.RowKit
set_option linter.unusedSimpArgs false
set_option linter.unusedVariables false

/-- Sector k is full of byte bs[k]. -/
structure Fulls (D : DS) (bs : List UInt8) : Prop where
  len : bs.length = 40
  at_ : ∀ k, k < 40 → D.sect k = fullB (bs.getD k 0)

def no40 : List UInt8 := List.replicate 40 0

theorem Fulls.new : Fulls (DS.new 40) no40 := by
  refine ⟨List.length_replicate, fun k hk => ?_⟩
  have h : (DS.new 40).last.getD k [] = noSect := by
    show (List.replicate 40 noSect).getD k [] = noSect
    rw [List.getD_eq_getElem?_getD, List.getElem?_replicate, if_pos hk]; rfl
  have h2 : no40.getD k 0 = 0 := by rw [no40, List.getD_eq_getElem?_getD, List.getElem?_replicate, if_pos hk]; rfl
  show ((none : Option (List UInt8))).getD ((DS.new 40).last.getD k []) = _
  rw [h, h2]; rfl

theorem getD_set (l : List UInt8) (s k : Nat) (b : UInt8) (hs : s < l.length) : (l.set s b).getD k 0 = if k = s then b else l.getD k 0 := by
  rw [List.getD_eq_getElem?_getD, List.getElem?_set]
  by_cases e : s = k
  · subst e; simp [hs]
  · have : ¬ k = s := fun x => e x.symm
    simp [e, this]

theorem Fulls.put {D : DS} {bs : List UInt8} (h : Fulls D bs) (s : Nat) (hs : s < 40) (b : UInt8) : Fulls (D.put s (fullB b)) (bs.set s b) := by
  refine ⟨by rw [List.length_set]; exact h.len, fun k hk => ?_⟩
  rw [getD_set bs s k b (by rw [h.len]; exact hs)]
  show (if k = s then some (fullB b) else D.wait k).getD (D.last.getD k []) = _
  by_cases e : k = s
  · rw [if_pos e, if_pos e]; rfl
  · rw [if_neg e, if_neg e]; exact h.at_ k hk

theorem all_getD (D : DS) (k : Nat) (hk : k < D.last.length) : D.all.getD k [] = D.sect k := by
  rw [DS.all, List.getD_eq_getElem?_getD, List.getElem?_map, List.getElem?_range hk]; rfl

theorem Fulls.flushed {D : DS} {bs : List UInt8} (h : Fulls D bs) (hl : D.last.length = 40) : Fulls D.flushed bs :=
  ⟨h.len, fun k hk => (all_getD D k (by rw [hl]; exact hk)).trans (h.at_ k hk)⟩

/-- No power has failed yet. -/
structure Still (D : DS) : Prop where
  way : D.way = -1
  lives : D.lives = 0
  torn : D.torn = []
theorem Still.new : Still (DS.new 40) := ⟨rfl, rfl, rfl⟩
theorem Still.put {D : DS} (h : Still D) (s : Nat) (l : List UInt8) : Still (D.put s l) := ⟨h.way, h.lives, h.torn⟩
theorem Still.flushed {D : DS} (h : Still D) : Still D.flushed := ⟨h.way, h.lives, h.torn⟩

/-- An armed disk's run: what it had, what was written since; the sector on its way. -/
structure Run (D : DS) (was now : List UInt8) (torn : Int) (u : Nat) : Prop where
  len : D.last.length = 40
  wl : was.length = 40
  nl : now.length = 40
  old : ∀ k, k < 40 → D.last.getD k [] = fullB (was.getD k 0)
  new : ∀ k, k < 40 → D.sect k = fullB (now.getD k 0)
  writes : 0 ≤ D.writes ∧ D.writes ≤ (u : Int)
  lives : D.lives = 0
  way : D.way = torn
  lo : -1 ≤ torn ∧ torn < 40
  dead : D.dead = decide (0 ≤ torn)
  part : 0 ≤ D.part ∧ D.part < 256
  tl : D.torn.length < 256

theorem Run.start {D : DS} {bs : List UInt8} {u : Nat} (hc : Calm D 40 u) (hf : Fulls D bs) (hs : Still D) (m p : Int) (hp : 0 ≤ p ∧ p < 256) : Run (D.flushed.arm m p) bs bs (-1) u := by
  have h2 := hf.flushed hc.len
  refine ⟨(hc.flushed).len, hf.len, hf.len, fun k hk => h2.at_ k hk, fun k hk => h2.at_ k hk, ?_, hs.lives, hs.way, by decide, ?_, ?_, ?_⟩
  · show 0 ≤ D.writes ∧ D.writes ≤ (u : Int)
    rw [hc.writes]; omega
  · exact hc.dead
  · show 0 ≤ min (max p 0) 256 ∧ min (max p 0) 256 < 256
    omega
  · show D.torn.length < 256
    rw [hs.torn]; decide

theorem Run.more {D : DS} {was now : List UInt8} {torn : Int} {u v : Nat} (h : Run D was now torn u) (hv : u ≤ v) : Run D was now torn v := ⟨h.len, h.wl, h.nl, h.old, h.new, ⟨h.writes.1, by have := h.writes.2; omega⟩, h.lives, h.way, h.lo, h.dead, h.part, h.tl⟩

theorem failsD_last (D : DS) : D.failsD.last = D.last := by unfold DS.failsD; split <;> (try split) <;> rfl
theorem failsD_wait (D : DS) : D.failsD.wait = D.wait := by unfold DS.failsD; split <;> (try split) <;> rfl
theorem failsD_writes (D : DS) : D.failsD.writes = D.writes := by unfold DS.failsD; split <;> (try split) <;> rfl
theorem failsD_lives (D : DS) : D.failsD.lives = D.lives := by unfold DS.failsD; split <;> (try split) <;> rfl
theorem failsD_way (D : DS) : D.failsD.way = D.way := by unfold DS.failsD; split <;> (try split) <;> rfl
theorem failsD_part (D : DS) : D.failsD.part = D.part := by unfold DS.failsD; split <;> (try split) <;> rfl
theorem failsD_torn (D : DS) : D.failsD.torn = D.torn := by unfold DS.failsD; split <;> (try split) <;> rfl
theorem failsD_dead (D : DS) : D.failsD.dead = (D.dead || D.failsB) := by
  unfold DS.failsD DS.failsB
  split
  · rename_i h
    split
    · rename_i h2; simp [h, h2]
    · rename_i h2; simp [h, h2]
  · rename_i h; simp [h]

/-- What Write makes of a disk whose operation goes, or fails. -/
def DS.wrote (D : DS) (s : Nat) (l : List UInt8) : DS := { D.failsD with wait := fun j => if j = s then some l else D.failsD.wait j, writes := D.failsD.writes + 1 }
def DS.broke (D : DS) (s : Nat) (l : List UInt8) : DS := { D.failsD with way := ((s : Nat) : Int), torn := l.take D.part.toNat }

theorem Run.ok {D : DS} {was now : List UInt8} {u : Nat} (h : Run D was now (-1) u) (hb : D.failsB = false) (s : Nat) (hs : s < 40) (x : UInt8) : Run (D.wrote s (fullB x)) was (now.set s x) (-1) (u + 1) := by
  refine ⟨?_, h.wl, by rw [List.length_set]; exact h.nl, ?_, ?_, ?_, (failsD_lives D).trans h.lives, (failsD_way D).trans h.way, by decide, ?_, ?_, ?_⟩
  · exact (congrArg List.length (failsD_last D)).trans h.len
  · intro k hk
    show D.failsD.last.getD k [] = _
    rw [failsD_last]; exact h.old k hk
  · intro k hk
    rw [getD_set now s k x (by rw [h.nl]; exact hs)]
    show (if k = s then some (fullB x) else D.failsD.wait k).getD (D.failsD.last.getD k []) = _
    rw [failsD_last, failsD_wait]
    by_cases e : k = s
    · rw [if_pos e, if_pos e]; rfl
    · rw [if_neg e, if_neg e]; exact h.new k hk
  · show 0 ≤ D.failsD.writes + 1 ∧ D.failsD.writes + 1 ≤ ((u + 1 : Nat) : Int)
    rw [failsD_writes]
    have := h.writes
    omega
  · show D.failsD.dead = _
    rw [failsD_dead, hb, h.dead]; rfl
  · show 0 ≤ D.failsD.part ∧ D.failsD.part < 256
    rw [failsD_part]; exact h.part
  · show D.failsD.torn.length < 256
    rw [failsD_torn]; exact h.tl

theorem Run.fail {D : DS} {was now : List UInt8} {u : Nat} (h : Run D was now (-1) u) (hb : D.failsB = true) (s : Nat) (hs : s < 40) (x : UInt8) : Run (D.broke s (fullB x)) was now (s : Int) u := by
  refine ⟨?_, h.wl, h.nl, ?_, ?_, ?_, (failsD_lives D).trans h.lives, rfl, by omega, ?_, ?_, ?_⟩
  · exact (congrArg List.length (failsD_last D)).trans h.len
  · intro k hk
    show D.failsD.last.getD k [] = _
    rw [failsD_last]; exact h.old k hk
  · intro k hk
    show (D.failsD.wait k).getD (D.failsD.last.getD k []) = _
    rw [failsD_last, failsD_wait]; exact h.new k hk
  · show 0 ≤ D.failsD.writes ∧ D.failsD.writes ≤ (u : Int)
    rw [failsD_writes]; exact h.writes
  · show D.failsD.dead = _
    rw [failsD_dead, hb, Bool.or_true]
    exact (decide_eq_true (by omega)).symm
  · show 0 ≤ D.failsD.part ∧ D.failsD.part < 256
    rw [failsD_part]; exact h.part
  · show ((fullB x).take D.part.toNat).length < 256
    rw [List.length_take]
    have := h.part
    omega

theorem pow_getD (D : DS) (keep : List Bool) (k : Nat) : ∀ j, (D.pow keep j).getD k [] = D.last.getD k [] ∨ (D.pow keep j).getD k [] = D.sect k
  | 0 => .inl rfl
  | j + 1 => by
    rw [DS.pow_succ]
    split
    · obtain ⟨y, hy⟩ : ∃ y, D.waiting.getD j 0 = y := ⟨_, rfl⟩
      rw [hy, List.getD_eq_getElem?_getD, List.getElem?_set]
      by_cases e : y = k
      · subst e
        rw [if_pos rfl]
        split
        · exact .inr rfl
        · rename_i hl
          have h0 : (D.pow keep j).getD y [] = [] := by rw [List.getD_eq_getElem?_getD, List.getElem?_eq_none (by omega)]; rfl
          have := pow_getD D keep y j
          rw [h0] at this
          exact this
      · rw [if_neg e, ← List.getD_eq_getElem?_getD]
        exact pow_getD D keep k j
    · exact pow_getD D keep k j

/-- What lasts behind the failure. -/
structure Left (D : DS) (was now : List UInt8) (torn : Int) : Prop where
  len : D.last.length = 40
  dead : D.dead = false
  wl : was.length = 40
  nl : now.length = 40
  lo : -1 ≤ torn ∧ torn < 40
  whole : ∀ k : Nat, k < 40 → (k : Int) ≠ torn → D.sect k = fullB (was.getD k 0) ∨ D.sect k = fullB (now.getD k 0)
  cut : ∀ k : Nat, k < 40 → (k : Int) = torn → (D.sect k)[255]? = some (was.getD k 0) ∨ (D.sect k)[255]? = some (now.getD k 0)

theorem full_255 (x : UInt8) : (fullB x)[255]? = some x := by rw [fullB, List.getElem?_replicate]; rfl

theorem Run.power {D : DS} {was now : List UInt8} {torn : Int} {u : Nat} (h : Run D was now torn u) (keep : List Bool) : Left (D.power keep) was now torn := by
  have hpl : ∀ j, (D.pow keep j).length = 40 := fun j => (DS.pow_length D keep j).trans h.len
  have hpk : ∀ j k, k < 40 → (D.pow keep j).getD k [] = fullB (was.getD k 0) ∨ (D.pow keep j).getD k [] = fullB (now.getD k 0) := by
    intro j k hk
    rcases pow_getD D keep k j with e | e
    · exact .inl (e.trans (h.old k hk))
    · exact .inr (e.trans (h.new k hk))
  have hs : ∀ k, (D.power keep).sect k = (D.powLast keep).getD k [] := fun k => rfl
  refine ⟨?_, rfl, h.wl, h.nl, h.lo, ?_, ?_⟩
  · show (D.powLast keep).length = 40
    unfold DS.powLast
    split
    · rw [List.length_set]; exact hpl _
    · exact hpl _
  · intro k hk hne
    rw [hs]
    unfold DS.powLast
    split
    · rename_i hw
      rw [List.getD_eq_getElem?_getD, List.getElem?_set, if_neg (by rw [h.way] at hw ⊢; omega), ← List.getD_eq_getElem?_getD]
      exact hpk _ k hk
    · exact hpk _ k hk
  · intro k hk he
    rw [hs]
    unfold DS.powLast
    have hw : 0 ≤ D.way := by rw [h.way]; omega
    have hk2 : D.way.toNat = k := by rw [h.way]; omega
    rw [if_pos hw, hk2]
    obtain ⟨o, ho⟩ : ∃ o, (D.pow keep D.waiting.length).getD k [] = o := ⟨_, rfl⟩
    rw [List.getD_eq_getElem?_getD, List.getElem?_set, if_pos rfl, if_pos (by rw [hpl]; exact hk)]
    rw [ho]
    have h3 := hpk D.waiting.length k hk
    rw [ho] at h3
    have h4 : (D.torn ++ o.drop D.torn.length)[255]? = o[255]? := by
      have := h.tl
      rw [List.getElem?_append_right (by omega), List.getElem?_drop]
      congr 1
      omega
    show (D.torn ++ o.drop D.torn.length)[255]? = _ ∨ (D.torn ++ o.drop D.torn.length)[255]? = _
    rw [h4]
    rcases h3 with e | e <;> rw [e, full_255]
    · exact .inl rfl
    · exact .inr rfl

end Go.Proofs.Ytajlhloapglafaa
