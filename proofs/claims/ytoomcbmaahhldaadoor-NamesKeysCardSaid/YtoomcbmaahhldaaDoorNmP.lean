/- The plain law of layer 3 (names): texts stand in a line; a key is of one pair of names alone; keys stand as their names do. No walk. -/
import Derived.Test.YtoomcbmaahhldaaDoorNmU
namespace Go.Proofs.YtoomcbmaahhldaaDoor
open Go.RowKit

theorem lessB_irrefl : ∀ a : List UInt8, lessB a a = false
  | [] => rfl
  | x :: r => by simp only [lessB, if_true]; exact lessB_irrefl r

theorem lessB_total : ∀ a b : List UInt8, lessB a b = false → lessB b a = false → a = b
  | [], [], _, _ => rfl
  | [], _ :: _, h, _ => by simp [lessB] at h
  | _ :: _, [], _, h => by simp [lessB] at h
  | x :: r, y :: q, h1, h2 => by
    by_cases e : x = y
    · subst e
      simp only [lessB, if_true] at h1 h2
      rw [lessB_total r q h1 h2]
    · have e' : ¬ y = x := fun h => e h.symm
      simp only [lessB, if_neg e, if_neg e', decide_eq_false_iff_not] at h1 h2
      exact absurd (UInt8.toNat_inj.1 (by omega)) e

theorem lessB_trans : ∀ a b c : List UInt8, lessB a b = true → lessB b c = true → lessB a c = true
  | [], [], _, h, _ => by simp [lessB] at h
  | _ :: _, [], _, h, _ => by simp [lessB] at h
  | _, _ :: _, [], _, h => by simp [lessB] at h
  | [], _ :: _, _ :: _, _, _ => by simp [lessB]
  | x :: r, y :: q, z :: s, h1, h2 => by
    by_cases e : x = y
    · subst e
      by_cases e2 : x = z
      · subst e2
        simp only [lessB, if_true] at h1 h2 ⊢
        exact lessB_trans r q s h1 h2
      · simp only [lessB, if_neg e2] at h2 ⊢
        exact h2
    · by_cases e2 : y = z
      · subst e2
        simp only [lessB, if_neg e] at h1 ⊢
        exact h1
      · simp only [lessB, if_neg e, if_neg e2, decide_eq_true_eq] at h1 h2
        have e3 : ¬ x = z := fun h => by subst h; omega
        simp only [lessB, if_neg e3, decide_eq_true_eq]; omega

theorem lessB_asymm (a b : List UInt8) (h : lessB a b = true) : lessB b a = false := by
  cases h2 : lessB b a with
  | false => rfl
  | true => have := lessB_trans a b a h h2; rw [lessB_irrefl] at this; cases this

theorem lessB_snoc : ∀ (a : List UInt8) (x : UInt8), lessB (a ++ [x]) a = false
  | [], _ => rfl
  | y :: r, x => by simp only [List.cons_append, lessB, if_true]; exact lessB_snoc r x

/-- No sign is a nought. -/
theorem signB_pos (c : UInt8) (f : Bool) (h : signB c f = true) : c ≠ 0 := by
  intro e; subst e
  cases f <;> simp [signB] at h
theorem signB_tail (c : UInt8) (h : signB c true = true) : signB c false = true := by
  unfold signB at *
  split at h
  · rename_i h1; rw [if_pos h1]
  · split at h
    · cases h
    · cases h
theorem mayB_pos {l : List UInt8} (h : mayB l = true) : ∀ x ∈ l, x ≠ 0 := by
  cases l with
  | nil => simp [mayB] at h
  | cons c r =>
    simp only [mayB, Bool.and_eq_true] at h
    intro x hx
    rcases List.mem_cons.1 hx with rfl | hx
    · exact signB_pos _ _ h.1.1
    · exact signB_pos _ _ (List.all_eq_true.1 h.1.2 x hx)

theorem keyS_ok {k : UInt8} {a b l : List UInt8} (h : keyS k a b = (l, 0)) : k ≠ 0 ∧ mayB a = true ∧ (b = [] ∨ mayB b = true) ∧ l = keyB k a b := by
  unfold keyS at h
  split at h
  · cases h
  · rename_i hk
    split at h
    · cases h
    · rename_i hn
      refine ⟨hk, ?_, ?_, (congrArg Prod.fst h).symm⟩
      · cases hh : mayB a with
        | true => rfl
        | false => exact absurd (.inl hh) hn
      · by_cases e : b = []
        · exact .inl e
        · right
          cases hh : mayB b with
          | true => rfl
          | false => exact absurd (.inr ⟨e, hh⟩) hn

theorem keyS_mk {k : UInt8} {a b : List UInt8} (hk : k ≠ 0) (ha : mayB a = true) (hb : b = [] ∨ mayB b = true) : keyS k a b = (keyB k a b, 0) := by
  unfold keyS
  rw [if_neg hk, if_neg]
  rintro (h | ⟨h1, h2⟩)
  · rw [ha] at h; cases h
  · rcases hb with rfl | hb
    · exact h1 rfl
    · rw [hb] at h2; cases h2

theorem nameOr_pos {b : List UInt8} (hb : b = [] ∨ mayB b = true) : ∀ x ∈ b, x ≠ 0 := by
  rcases hb with rfl | hb
  · simp
  · exact mayB_pos hb
theorem nameOr_le {b : List UInt8} (hb : b = [] ∨ mayB b = true) : b.length ≤ 14 := by
  rcases hb with rfl | hb
  · simp
  · exact (mayB_le hb).1

theorem upto0_pad (a : List UInt8) (n : Nat) (h : ∀ x ∈ a, x ≠ 0) : upto0 (a ++ List.replicate n 0) = a := by
  unfold upto0
  rw [List.takeWhile_append_of_pos (by intro x hx; simpa using h x hx)]
  cases n with
  | zero => simp
  | succ n => simp [List.replicate_succ]

theorem trim_pad (a : List UInt8) (n : Nat) (h : ∀ x ∈ a, x ≠ 0) : Lib.trimRightB (a ++ List.replicate n 0) 0 = a := by
  unfold Lib.trimRightB
  rw [List.reverse_append, List.reverse_replicate, List.dropWhile_append_of_pos (by intro x hx; simp [List.eq_of_mem_replicate hx])]
  have : a.reverse.dropWhile (· == 0) = a.reverse := by
    cases hr : a.reverse with
    | nil => rfl
    | cons y r =>
      have hy : y ≠ 0 := h y (List.mem_reverse.1 (by rw [hr]; simp))
      rw [List.dropWhile_cons_of_neg (by simpa using hy)]
  rw [this, List.reverse_reverse]

theorem keyB_drop2 (k : UInt8) (a b : List UInt8) (ha : a.length ≤ 14) (hb : b.length ≤ 14) :
    ((keyB k a b).drop 2).take 15 = a ++ List.replicate (15 - a.length) 0 ∧ ((keyB k a b).drop 2).take 14 = a ++ List.replicate (14 - a.length) 0 ∧
    ((keyB k a b).drop 17).take 15 = b ++ List.replicate (15 - b.length) 0 ∧ ((keyB k a b).drop 17).take 14 = b ++ List.replicate (14 - b.length) 0 := by
  have e2 : (keyB k a b).drop 2 = a ++ List.replicate (15 - a.length) 0 ++ (b ++ List.replicate (15 - b.length) 0) := by
    simp [keyB]
  have h15 : (a ++ List.replicate (15 - a.length) (0 : UInt8)).length = 15 := by simp; omega
  have e17 : (keyB k a b).drop 17 = b ++ List.replicate (15 - b.length) 0 := by
    rw [show 17 = 2 + 15 from rfl, ← List.drop_drop, e2, List.drop_append_of_le_length (by omega), List.drop_of_length_le (by omega)]; rfl
  have h15b : (b ++ List.replicate (15 - b.length) (0 : UInt8)).length = 15 := by simp; omega
  have hone : ∀ c : List UInt8, c.length ≤ 14 → (c ++ List.replicate (15 - c.length) (0 : UInt8)).take 14 = c ++ List.replicate (14 - c.length) 0 := by
    intro c hc
    rw [List.take_append, List.take_of_length_le hc, List.take_replicate]
    congr 2; omega
  refine ⟨?_, ?_, ?_, ?_⟩
  · rw [e2, List.take_append_of_le_length (by omega), List.take_of_length_le (by omega)]
  · rw [e2, List.take_append_of_le_length (by omega), hone a ha]
  · rw [e17, List.take_of_length_le (by omega)]
  · rw [e17, hone b hb]

/-- What a key bears is read back, by both roads. -/
theorem key_reads {k : UInt8} {a b l : List UInt8} (h : keyS k a b = (l, 0)) :
    l.getD 0 0 = k ∧ upto0 ((l.drop 2).take 15) = a ∧ upto0 ((l.drop 17).take 15) = b ∧ Lib.trimRightB ((l.drop 2).take 14) 0 = a ∧ Lib.trimRightB ((l.drop 17).take 14) 0 = b := by
  obtain ⟨_, ha, hb, rfl⟩ := keyS_ok h
  have pa := mayB_pos ha
  have pb := nameOr_pos hb
  obtain ⟨h1, h2, h3, h4⟩ := keyB_drop2 k a b (mayB_le ha).1 (nameOr_le hb)
  refine ⟨rfl, ?_, ?_, ?_, ?_⟩
  · rw [h1, upto0_pad a _ pa]
  · rw [h3, upto0_pad b _ pb]
  · rw [h2, trim_pad a _ pa]
  · rw [h4, trim_pad b _ pb]

theorem takeN_key {k : UInt8} {a b l : List UInt8} (h : keyS k a b = (l, 0)) : takeN l = (k, a, b, 0) := by
  obtain ⟨h1, _, _, h4, h5⟩ := key_reads h
  unfold takeN
  rw [h1, h4, h5, if_pos h]
theorem takeR_key {k : UInt8} {a b l : List UInt8} (h : keyS k a b = (l, 0)) : takeR l = (k, a, b, 0) := by
  obtain ⟨h1, h2, h3, _, _⟩ := key_reads h
  unfold takeR
  rw [h1, h2, h3, if_pos h]
theorem takeN_cases (l : List UInt8) : (∃ k a b, keyS k a b = (l, 0) ∧ takeN l = (k, a, b, 0)) ∨ ((∀ k a b, keyS k a b ≠ (l, 0)) ∧ takeN l = (0, [], [], 3)) := by
  by_cases h : ∃ k a b, keyS k a b = (l, 0)
  · obtain ⟨k, a, b, h⟩ := h
    exact .inl ⟨k, a, b, h, takeN_key h⟩
  · refine .inr ⟨fun k a b e => h ⟨k, a, b, e⟩, ?_⟩
    unfold takeN
    rw [if_neg (fun e => h ⟨_, _, _, e⟩)]
/-- The program's TakeKey is the document's. -/
theorem take_same (l : List UInt8) : takeN l = takeR l := by
  rcases takeN_cases l with ⟨k, a, b, h, e⟩ | ⟨h, e⟩
  · rw [e, takeR_key h]
  · rw [e]
    unfold takeR
    rw [if_neg (h _ _ _)]

/-- Padded texts stand as the texts do. -/
theorem lessB_pad : ∀ (a c x y : List UInt8) (n m : Nat), (∀ z ∈ a, z ≠ 0) → (∀ z ∈ c, z ≠ 0) → a.length + n = c.length + m → a.length < a.length + n → c.length < c.length + m →
    lessB (a ++ List.replicate n 0 ++ x) (c ++ List.replicate m 0 ++ y) = (lessB a c || (a == c && lessB x y))
  | [], [], x, y, n, m, _, _, hl, _, _ => by
    have : n = m := by simpa using hl
    subst this
    clear hl
    simp only [List.nil_append, lessB, BEq.rfl, Bool.true_and, Bool.false_or]
    rename_i h1 h2
    clear h1 h2
    induction n with
    | zero => rfl
    | succ n ih => simp only [List.replicate_succ, List.cons_append, lessB, if_true]; exact ih
  | [], z :: q, x, y, n, m, _, hc, hl, h1, _ => by
    obtain ⟨n, rfl⟩ : ∃ j, n = j + 1 := ⟨n - 1, by simp at h1; omega⟩
    have hz : z ≠ 0 := hc z (by simp)
    have h0 : ¬ (0 : UInt8) = z := fun e => hz e.symm
    have hp : 0 < z.toNat := by
      rcases Nat.eq_zero_or_pos z.toNat with h | h
      · exact absurd (UInt8.toNat_inj.1 (by rw [h]; rfl)) hz
      · exact h
    simp [List.replicate_succ, lessB, h0, hp]
  | z :: q, [], x, y, n, m, ha, _, hl, _, h2 => by
    obtain ⟨m, rfl⟩ : ∃ j, m = j + 1 := ⟨m - 1, by simp at h2; omega⟩
    have hz : z ≠ 0 := ha z (by simp)
    simp [List.replicate_succ, lessB, hz]
  | z :: q, t :: s, x, y, n, m, ha, hc, hl, h1, h2 => by
    simp only [List.cons_append, lessB]
    by_cases e : z = t
    · subst e
      rw [if_pos rfl, if_pos rfl, lessB_pad q s x y n m (fun u hu => ha u (by simp [hu])) (fun u hu => hc u (by simp [hu])) (by simp at hl; omega) (by simp at h1; omega) (by simp at h2; omega)]
      simp [List.cons_beq_cons]
    · rw [if_neg e, if_neg e]
      have : (z :: q == t :: s) = false := by simp [e]
      rw [this]; simp

/-- Keys of one kind stand as their names do. -/
theorem keys_order {k : UInt8} {a b c d x y : List UInt8} (h1 : keyS k a b = (x, 0)) (h2 : keyS k c d = (y, 0)) :
    lessB x y = (lessB a c || (a == c && lessB b d)) ∧ (x == y) = (a == c && b == d) := by
  have hx := key_reads h1
  have hy := key_reads h2
  obtain ⟨_, ha, hb, rfl⟩ := keyS_ok h1
  obtain ⟨_, hc, hd, rfl⟩ := keyS_ok h2
  have la := (mayB_le ha).1
  have lc := (mayB_le hc).1
  have lb := nameOr_le hb
  have ld := nameOr_le hd
  constructor
  · have := lessB_pad b d [] [] (15 - b.length) (15 - d.length) (nameOr_pos hb) (nameOr_pos hd) (by omega) (by omega) (by omega)
    simp only [List.append_nil, lessB_irrefl, Bool.and_false, Bool.or_false] at this
    have h := lessB_pad a c (b ++ List.replicate (15 - b.length) 0) (d ++ List.replicate (15 - d.length) 0) (15 - a.length) (15 - c.length) (mayB_pos ha) (mayB_pos hc) (by omega) (by omega) (by omega)
    rw [this] at h
    rw [← h]
    simp only [keyB, lessB, if_true, List.append_assoc]
  · rw [Bool.eq_iff_iff]
    simp only [beq_iff_eq, Bool.and_eq_true]
    constructor
    · intro e
      rw [e] at hx
      exact ⟨hx.2.1.symm.trans hy.2.1, hx.2.2.1.symm.trans hy.2.2.1⟩
    · rintro ⟨rfl, rfl⟩; rfl

/-- One sign more. -/
theorem mayB_snoc (a : List UInt8) (x : UInt8) (ha : mayB a = true) : mayB (a ++ [x]) = (signB x false && decide (a.length < 14)) := by
  cases a with
  | nil => simp [mayB] at ha
  | cons c r =>
    simp only [mayB, Bool.and_eq_true, decide_eq_true_eq] at ha
    simp only [List.cons_append, mayB, ha.1.1, Bool.true_and, tailB, List.all_append, List.all_cons, List.all_nil, Bool.and_true, List.length_append, List.length_cons, List.length_nil]
    have : r.all (fun c => signB c false) = true := ha.1.2
    rw [this, Bool.true_and]
    congr 1
    rw [Bool.eq_iff_iff]; simp; omega
theorem mayB_one (x : UInt8) : mayB [x] = signB x true := by simp [mayB, tailB]
theorem mayB_cons (a : List UInt8) (x : UInt8) (ha : mayB a = true) : mayB (x :: a) = (signB x true && decide (a.length < 14)) := by
  cases a with
  | nil => simp [mayB] at ha
  | cons c r =>
    simp only [mayB, Bool.and_eq_true, decide_eq_true_eq] at ha
    have h1 := signB_tail c ha.1.1
    have h2 : r.all (fun c => signB c false) = true := ha.1.2
    simp only [mayB, tailB, List.all_cons, h1, h2, Bool.and_true, List.length_cons]
    congr 1
    rw [Bool.eq_iff_iff]; simp; omega

end Go.Proofs.YtoomcbmaahhldaaDoor
