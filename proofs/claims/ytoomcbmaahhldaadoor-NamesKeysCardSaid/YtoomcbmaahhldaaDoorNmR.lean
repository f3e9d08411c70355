/- The walks of layer 3 (names), part 3: Key whole, Less, the document's Name, Less, Key. -/
import Derived.Test.YtoomcbmaahhldaaDoorNmK
namespace Go.Proofs.YtoomcbmaahhldaaDoor
open Go.RowKit
set_option linter.unusedSimpArgs false
set_option linter.unusedVariables false

/-- What Key answers. -/
def keyS (k : UInt8) (a b : List UInt8) : List UInt8 × Int :=
  if k = 0 then (noKey, 1) else if mayB a = false ∨ (b ≠ [] ∧ mayB b = false) then (noKey, 14) else (keyB k a b, 0)

theorem mayB_le {l : List UInt8} (h : mayB l = true) : l.length ≤ 14 ∧ l ≠ [] := by
  refine ⟨?_, fun e => by subst e; simp [mayB] at h⟩
  rcases Nat.lt_or_ge 14 l.length with h' | h'
  · rw [mayB_long l h'] at h; cases h
  · exact h'

theorem data_nil {b : ByteArray} (h : b.data.toList = []) : b = ⟨#[]⟩ := by
  obtain ⟨⟨l⟩⟩ := b
  simp only at h
  subst h; rfl

theorem key_calls (k : UInt8) (a b : ByteArray) (w : World) :
    Calls Tryd.prog 10 #[.int .u8 k.toNat, .string a, .string b] w fun e w' =>
      e = .returned (.tuple #[arrV (keyS k a.data.toList b.data.toList).1, .int .i64 (keyS k a.data.toList b.data.toList).2]) ∧ Below w.heap.size w w' := by
  unfold keyS
  by_cases hk : k = 0
  · subst hk
    rw [if_pos rfl]
    exact key_zero a b w
  · rw [if_neg hk]
    have hk' : ((k.toNat : Int) == 0) = false := by
      rw [beq_eq_false_iff_ne]
      intro e
      exact hk (UInt8.toNat_inj.1 (by rw [show k.toNat = 0 by omega]; rfl))
    cases ha : mayB a.data.toList with
    | false => rw [if_pos (.inl rfl)]; exact key_nameA k a b w hk' ha
    | true =>
      have hla := (mayB_le ha).1
      have hza : a.size ≤ 14 := by simpa using hla
      by_cases hb : b.data.toList = []
      · rw [if_neg (by rintro (h | h); cases h; exact h.1 hb)]
        obtain rfl := data_nil hb
        exact key_okE k a w hk' ha hza
      · have hb2 : (!b.toList.isEmpty) = true := by rw [Go.Lib.toList_data]; simpa using hb
        cases hmb : mayB b.data.toList with
        | false =>
          rw [if_pos (.inr ⟨hb, rfl⟩)]
          exact key_nameB k a b w hk' (fun e => hb (by rw [← Go.Lib.toList_data]; exact e)) hb2 ha hmb
        | true =>
          rw [if_neg (by rintro (h | h); cases h; cases h.2)]
          have hzb : b.size ≤ 14 := by simpa using (mayB_le hmb).1
          exact key_okB k a b w hk' hb2 ha hmb hza hzb

/-- names.Less -/
theorem less_calls (a b : ByteArray) (w : World) :
    Calls Tryd.prog 14 #[.string a, .string b] w fun e w' => e = .returned (.bool (decide (Lib.compareBytes a.data.toList b.data.toList < 0))) ∧ w' = w := by
  have HC := Tryd.strings_Compare a b
  generalize Lib.compareBytes a.data.toList b.data.toList = c at *
  have HH := Lib.hid HC; clear HC
  go_enter Tryd.func14, Tryd.ntmps14
  go_wp2_with (go_at_call 21; refine (HH.out _).mono ?_; rintro e w' ⟨rfl, rfl⟩)
  go_ret
  exact ⟨rfl, rfl⟩

/-- The classes of bytes that Name's tests tell apart. -/
theorem cls (c : UInt8) :
    ((97 ≤ (c.toNat : Int) ∧ (c.toNat : Int) ≤ 122) ∧ ∀ f, signB c f = true) ∨
    ((97 ≤ (c.toNat : Int) ∧ decide ((c.toNat : Int) ≤ 122) = false ∧ 48 ≤ (c.toNat : Int) ∧ decide ((c.toNat : Int) ≤ 57) = false ∧ ((c.toNat : Int) == 45) = false ∧ ((c.toNat : Int) == 46) = false) ∧ ∀ f, signB c f = false) ∨
    ((48 ≤ (c.toNat : Int) ∧ (c.toNat : Int) ≤ 57) ∧ ∀ f, signB c f = !f) ∨
    (((c.toNat : Int) < 48 ∧ ((c.toNat : Int) == 45) = true) ∧ ∀ f, signB c f = !f) ∨
    (((c.toNat : Int) < 48 ∧ ((c.toNat : Int) == 45) = false ∧ ((c.toNat : Int) == 46) = true) ∧ ∀ f, signB c f = !f) ∨
    (((c.toNat : Int) < 48 ∧ ((c.toNat : Int) == 45) = false ∧ ((c.toNat : Int) == 46) = false) ∧ ∀ f, signB c f = false) ∨
    ((48 ≤ (c.toNat : Int) ∧ decide ((c.toNat : Int) ≤ 57) = false ∧ (c.toNat : Int) < 97 ∧ ((c.toNat : Int) == 45) = false ∧ ((c.toNat : Int) == 46) = false) ∧ ∀ f, signB c f = false) := by
  unfold signB
  generalize c.toNat = n
  simp only [beq_iff_eq, beq_eq_false_iff_ne, ne_eq, decide_eq_false_iff_not]
  by_cases h1 : 97 ≤ n ∧ n ≤ 122
  · exact .inl ⟨by omega, fun f => by rw [if_pos h1]⟩
  · by_cases h2 : 122 < n
    · exact .inr (.inl ⟨by omega, fun f => by rw [if_neg h1, if_neg (by omega)]⟩)
    · by_cases h3 : 48 ≤ n ∧ n ≤ 57
      · exact .inr (.inr (.inl ⟨by omega, fun f => by rw [if_neg h1, if_pos (.inl h3)]⟩))
      · by_cases h4 : n = 45
        · exact .inr (.inr (.inr (.inl ⟨by omega, fun f => by rw [if_neg h1, if_pos (.inr (.inl h4))]⟩)))
        · by_cases h5 : n = 46
          · exact .inr (.inr (.inr (.inr (.inl ⟨by omega, fun f => by rw [if_neg h1, if_pos (.inr (.inr h5))]⟩))))
          · by_cases h6 : n < 48
            · exact .inr (.inr (.inr (.inr (.inr (.inl ⟨by omega, fun f => by rw [if_neg h1, if_neg (by omega)]⟩)))))
            · exact .inr (.inr (.inr (.inr (.inr (.inr ⟨by omega, fun f => by rw [if_neg h1, if_neg (by omega)]⟩)))))

set_option maxHeartbeats 1000000 in
theorem refName_mid (s : ByteArray) (w : World) (h1 : 1 ≤ (s.size : Int)) (h2 : (s.size : Int) ≤ 14) :
    Calls Tryd.prog 13 #[.string s] w fun e w' => e = .returned (.bool (mayB s.data.toList)) ∧ w' = w := by
  go_enter Tryd.func13, Tryd.ntmps13
  go_wp2_with fail
  go_loop [3] (fun i => ∃ k : Nat, k ≤ s.size ∧ i = .int .i64 k ∧ headB s.data.toList k = true) (fun i => s.size - (intOf i).toNat)
  case atStart => exact ⟨0, Nat.zero_le _, rfl, rfl⟩
  case round =>
    obtain ⟨k, hk, rfl, hh⟩ := hrel
    have HH := Lib.hid hh; clear hh
    by_cases hlt : k < s.size
    · have hn := headB_succ s.data.toList k (by simpa using hlt)
      rw [HH.out, Bool.true_and] at hn
      have hs : s.data.toList[k]'(by simpa using hlt) = s[k] := rfl
      rw [hs] at hn
      have HN := Lib.hid hn; clear hn hs
      by_cases hk0 : k = 0
      · subst hk0
        rcases cls s[0] with ⟨hc, hs⟩ | ⟨hc, hs⟩ | ⟨hc, hs⟩ | ⟨hc, hs⟩ | ⟨hc, hs⟩ | ⟨hc, hs⟩ | ⟨hc, hs⟩
        all_goals
          have hq := hs true
          try simp only [Bool.not_true] at hq
          have HQ := Lib.hid (HN.out.trans hq); clear hq hs HN
          first
            | obtain ⟨c1, c2, c3, c4, c5, c6⟩ := hc
            | obtain ⟨c1, c2, c3, c4, c5⟩ := hc
            | obtain ⟨c1, c2, c3⟩ := hc
            | obtain ⟨c1, c2⟩ := hc
          go_wp2
        · go_round
          case rel => exact ⟨1, by omega, by go_num, HQ.out⟩
          case measure => simp [intOf]; omega
        all_goals
          go_ret
          exact ⟨by rw [headB_no _ 0 (by simpa using hlt) HQ.out]; rfl, rfl⟩
      · have hk1 : ((k : Int) == 0) = false := by rw [beq_eq_false_iff_ne]; omega
        have hk2 : (k == 0) = false := by rw [beq_eq_false_iff_ne]; omega
        rw [hk2] at HN
        clear hk2 hk0
        rcases cls s[k] with ⟨hc, hs⟩ | ⟨hc, hs⟩ | ⟨hc, hs⟩ | ⟨hc, hs⟩ | ⟨hc, hs⟩ | ⟨hc, hs⟩ | ⟨hc, hs⟩
        all_goals
          have hq := hs false
          try simp only [Bool.not_false] at hq
          have HQ := Lib.hid (HN.out.trans hq); clear hq hs HN
          first
            | obtain ⟨c1, c2, c3, c4, c5, c6⟩ := hc
            | obtain ⟨c1, c2, c3, c4, c5⟩ := hc
            | obtain ⟨c1, c2, c3⟩ := hc
            | obtain ⟨c1, c2⟩ := hc
          go_wp2
        all_goals first
          | (go_round
             case rel => exact ⟨k + 1, by omega, by go_num, HQ.out⟩
             case measure => simp [intOf]; omega)
          | (go_ret
             exact ⟨by rw [headB_no _ k (by simpa using hlt) HQ.out]; rfl, rfl⟩)
    · go_wp2
      go_ret
      have hkk : k = s.data.toList.length := by simp; omega
      refine ⟨?_, rfl⟩
      have hne : s.data.toList ≠ [] := by
        intro e
        have h0 : s.size = 0 := by
          have : s.data.toList.length = 0 := by rw [e]; rfl
          simpa using this
        omega
      rw [← headB_all _ hne (by simp; omega), ← hkk, HH.out]; rfl

theorem refName_short (s : ByteArray) (w : World) (h : (s.size : Int) < 1) :
    Calls Tryd.prog 13 #[.string s] w fun e w' => e = .returned (.bool false) ∧ w' = w := by
  go_enter Tryd.func13, Tryd.ntmps13
  go_wp2
  go_ret
  exact ⟨rfl, rfl⟩
theorem refName_long (s : ByteArray) (w : World) (h : 14 < (s.size : Int)) :
    Calls Tryd.prog 13 #[.string s] w fun e w' => e = .returned (.bool false) ∧ w' = w := by
  go_enter Tryd.func13, Tryd.ntmps13
  go_wp2
  go_ret
  exact ⟨rfl, rfl⟩

theorem refName_calls (s : ByteArray) (w : World) :
    Calls Tryd.prog 13 #[.string s] w fun e w' => e = .returned (.bool (mayB s.data.toList)) ∧ w' = w := by
  by_cases h1 : 1 ≤ s.size
  · by_cases h2 : s.size ≤ 14
    · exact refName_mid s w (by omega) (by omega)
    · rw [mayB_long _ (by simpa using h2)]; exact refName_long s w (by omega)
  · have : s.data.toList = [] := List.eq_nil_of_length_eq_zero (by have e : s.data.toList.length = s.size := (by simp); omega)
    rw [this]; exact refName_short s w (by omega)

end Go.Proofs.YtoomcbmaahhldaaDoor
