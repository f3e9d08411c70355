/- The walks of layer 3 (names), part 1: sign, May. -/
import Derived.Test.YtoomcbmaahhldaaDoorRows
import Derived.Test.YtoomcbmaahhldaaDoorNmS
import Derived.WalkKit
import Derived.WalkSpells
import Derived.WalkLawsBesides
import Derived.Lib.Hide
import Derived.Lib.ConvBytes
import Derived.Lib.Strings
import Derived.BigQuiet
import Derived.Deep.QuietTactic
namespace Go.Proofs.YtoomcbmaahhldaaDoor
open Go.RowKit

set_option maxHeartbeats 400000 in
theorem sign_calls (c : UInt8) (f : Bool) (w : World) :
    Calls Tryd.prog 20 #[.int .u8 c.toNat, .bool f] w fun e w' => e = .returned (.bool (signB c f)) ∧ w = w' := by
  have hfin : signB c f = (if 97 ≤ (c.toNat : Int) ∧ (c.toNat : Int) ≤ 122 then true
    else if (48 ≤ (c.toNat : Int) ∧ (c.toNat : Int) ≤ 57) ∨ (c.toNat : Int) = 45 ∨ (c.toNat : Int) = 46 then !f else false) := by
    unfold signB
    have e1 : (97 ≤ c.toNat ∧ c.toNat ≤ 122) = (97 ≤ (c.toNat : Int) ∧ (c.toNat : Int) ≤ 122) := by simp; omega
    have e2 : ((48 ≤ c.toNat ∧ c.toNat ≤ 57) ∨ c.toNat = 45 ∨ c.toNat = 46) = ((48 ≤ (c.toNat : Int) ∧ (c.toNat : Int) ≤ 57) ∨ (c.toNat : Int) = 45 ∨ (c.toNat : Int) = 46) := by simp; omega
    simp only [e1, e2]
  have H := Lib.hid hfin; clear hfin
  have hb : (c.toNat : Int) < 256 := by have := c.toNat_lt; omega
  have hb0 : 0 ≤ (c.toNat : Int) := by omega
  generalize (c.toNat : Int) = x at *
  go_enter Tryd.func20, Tryd.ntmps20
  go_wp2
  all_goals
    go_ret
    refine ⟨?_, rfl⟩
    rw [H.out]
    refine congrArg (fun b => Ending.returned (Value.bool b)) ?_
    try simp only [beq_iff_eq, beq_eq_false_iff_ne, ne_eq] at *
    first
      | (rw [if_pos (by omega)]; simp only [decide_eq_true_eq]; omega)
      | (rw [if_pos (by omega)]; done)
      | (rw [if_neg (by omega), if_pos (by omega)]; done)
      | (rw [if_neg (by omega), if_neg (by omega)]; done)


theorem bytes_below (w : World) (e : TypeId) (s : ByteArray) : Below w.heap.size w (Lib.bytesWorld w e s) := by
  refine ⟨?_, ?_, ?_, by rw [Lib.bytesWorld_size]; omega, fun k hk => Lib.bytesWorld_at_old w e s k hk⟩ <;>
  simp [Lib.bytesWorld, World.freeze, World.alloc, World.drew, -World.alloc_eq, -World.drew_eq]

theorem may_empty (w : World) : Calls Tryd.prog 12 #[.string ⟨#[]⟩] w fun e w' => e = .returned (.bool false) ∧ w = w' := by
  go_enter Tryd.func12, Tryd.ntmps12
  go_wp2
  go_ret
  exact ⟨rfl, rfl⟩

theorem may_long (s : ByteArray) (w : World) (h : 14 < (s.size : Int)) (he : s.toList.isEmpty = false) : Calls Tryd.prog 12 #[.string s] w fun e w' => e = .returned (.bool false) ∧ w = w' := by
  go_enter Tryd.func12, Tryd.ntmps12
  go_wp2
  go_ret
  exact ⟨rfl, rfl⟩

set_option maxHeartbeats 400000 in
theorem may_mid (s : ByteArray) (w : World) (he : s.toList.isEmpty = false) (h2 : (s.size : Int) ≤ 14) :
    Calls Tryd.prog 12 #[.string s] w fun e w' => e = .returned (.bool (mayB s.data.toList)) ∧ Below w.heap.size w w' := by
  have hconv := Lib.run_convert_string_bytes (P := Tryd.prog) w 9 38 5 s Tryd.underlying9 Tryd.underlying38 Tryd.underlying5
  have hcell := fun j hj => Lib.bytesWorld_cell w 5 s j hj
  have hbel := bytes_below w 5 s
  generalize Lib.bytesWorld w 5 s = W at *
  generalize grownCap w s.size 0 5 = cap at *
  have HB := Lib.hid hbel; clear hbel
  have HC := Lib.hid hcell; clear hcell
  go_enter Tryd.func12, Tryd.ntmps12
  go_wp2_with fail
  go_loop [15] (fun i => ∃ k : Nat, k ≤ s.size ∧ i = .int .i64 k ∧ headB s.data.toList k = true) (fun i => s.size - (intOf i).toNat)
  case atStart => exact ⟨0, Nat.zero_le _, rfl, rfl⟩
  case round =>
    obtain ⟨k, hk, rfl, hh⟩ := hrel
    have HH := Lib.hid hh; clear hh
    by_cases hlt : k < s.size
    · have hc := HC.out k hlt
      have hs : s.data.toList.getD k 0 = s.data.toList[k]'(by simpa using hlt) := by
        rw [List.getD_eq_getElem?_getD, List.getElem?_eq_getElem (by simpa using hlt)]; rfl
      have hn := headB_succ s.data.toList k (by simpa using hlt)
      rw [← hs, HH.out, Bool.true_and] at hn
      have hkz : (k == 0) = ((k : Int) == 0) := by
        rw [Bool.eq_iff_iff, beq_iff_eq, beq_iff_eq]; omega
      rw [hkz] at hn
      clear hs hkz
      generalize s.data.toList.getD k 0 = c at *
      cases hb : signB c ((k : Int) == 0) with
      | true =>
        rw [hb] at hn
        have HN := Lib.hid hn; clear hn
        go_wp2_with (go_at_call 20; refine (sign_calls _ _ _).mono ?_; rintro e w' ⟨rfl, rfl⟩)
        go_round
        case rel => exact ⟨k + 1, by omega, by go_num, HN.out⟩
        case measure => simp [intOf]; omega
      | false =>
        rw [hb] at hn
        have HN := Lib.hid hn; clear hn
        go_wp2_with (go_at_call 20; refine (sign_calls _ _ _).mono ?_; rintro e w' ⟨rfl, rfl⟩)
        go_ret
        exact ⟨by rw [headB_no _ k (by simpa using hlt) HN.out]; rfl, HB.out⟩
    · go_wp2
      go_ret
      have hkk : k = s.data.toList.length := by simp; omega
      refine ⟨?_, HB.out⟩
      have hne : s.data.toList ≠ [] := by
        intro e
        have h0 : s.size = 0 := by
          have : s.data.toList.length = 0 := by rw [e]; rfl
          simpa using this
        rw [Go.Lib.toList_data, e] at he; simp at he
      rw [← headB_all _ hne (by simp; omega), ← hkk, HH.out]; rfl

/-- names.May tells whether a text is a name. -/
theorem may_calls (s : ByteArray) (w : World) :
    Calls Tryd.prog 12 #[.string s] w fun e w' => e = .returned (.bool (mayB s.data.toList)) ∧ Below w.heap.size w w' := by
  by_cases he : s.data.toList = []
  · obtain ⟨⟨l⟩⟩ := s
    simp only at he
    subst he
    exact (may_empty w).mono fun _ _ ⟨h1, h2⟩ => ⟨h1, h2 ▸ Below.refl _ _⟩
  · have he' : s.toList.isEmpty = false := by rw [Go.Lib.toList_data]; simpa using he
    by_cases hl : 14 < s.size
    · refine (may_long s w (by omega) he').mono fun _ _ ⟨h1, h2⟩ => ⟨?_, h2 ▸ Below.refl _ _⟩
      rw [h1, mayB_long _ (by simpa using hl)]
    · exact may_mid s w he' (by omega)

end Go.Proofs.YtoomcbmaahhldaaDoor
