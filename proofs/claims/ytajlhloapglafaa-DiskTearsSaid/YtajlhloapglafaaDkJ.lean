/- DiskTears: the disks, in plain words. -/
import Derived.Test.YtajlhloapglafaaDkI
namespace Go.Proofs.Ytajlhloapglafaa
open Go.RowKit
set_option linter.unusedSimpArgs false
set_option linter.unusedVariables false
set_option maxRecDepth 4000

def tD1 (was : UInt8) : DS := (DS.new 40).put 5 (fullB was)
def tD2 (was : UInt8) : DS := (tD1 was).flushed
def tD3 (was now : UInt8) : DS := (tD2 was).put 6 (fullB now)
def tD4 (was now : UInt8) (p : Int) : DS := (tD3 was now).arm 0 p
def tD5 (was now : UInt8) (p : Int) : DS := { (tD4 was now p).failsD with way := ((5 : Nat) : Int), torn := (fullB now).take (tD4 was now p).part.toNat }
def tD6 (was now : UInt8) (p : Int) (keep : Bool) : DS := (tD5 was now p).power [keep]
def tearB (was now : UInt8) (n : Nat) : List UInt8 := List.replicate n now ++ List.replicate (256 - n) was

theorem tD2_last (was : UInt8) : (tD2 was).last = (List.range 40).map (tD1 was).sect := rfl
theorem tD2_len (was : UInt8) : (tD2 was).last.length = 40 := by rw [tD2_last, List.length_map, List.length_range]
theorem tD2_at (was : UInt8) (k : Nat) (hk : k < 40) : (tD2 was).last.getD k [] = if k = 5 then fullB was else noSect := by
  rw [tD2_last, List.getD_eq_getElem?_getD, List.getElem?_map, List.getElem?_range hk]
  simp only [Option.map_some, Option.getD_some, DS.sect, tD1, DS.put, DS.new]
  by_cases e : k = 5
  · simp [e]
  · simp only [if_neg e, Option.getD_none]
    rw [List.getD_eq_getElem?_getD, List.getElem?_replicate, if_pos hk]; rfl
theorem tD5_waiting (was now : UInt8) (p : Int) : (tD5 was now p).waiting = [6] := by kernel_rfl
theorem tD5_last (was now : UInt8) (p : Int) : (tD5 was now p).last = (tD2 was).last := rfl
theorem tD5_pow (was now : UInt8) (p : Int) (keep : Bool) : (tD5 was now p).pow [keep] 1 = if keep then (tD2 was).last.set 6 (fullB now) else (tD2 was).last := by
  rw [DS.pow_succ, tD5_waiting]
  cases keep <;> rfl
theorem tD6_last (was now : UInt8) (p : Int) (keep : Bool) : (tD6 was now p keep).last =
    (if keep then (tD2 was).last.set 6 (fullB now) else (tD2 was).last).set 5 ((tD5 was now p).torn ++ ((if keep then (tD2 was).last.set 6 (fullB now) else (tD2 was).last).getD 5 []).drop (tD5 was now p).torn.length) := by
  show (tD5 was now p).powLast [keep] = _
  have hw : (tD5 was now p).way = 5 := rfl
  rw [DS.powLast, tD5_waiting, hw, if_pos (by decide)]
  show List.set ((tD5 was now p).pow [keep] 1) 5 _ = _
  rw [show ([6] : List Nat).length = 1 from rfl, tD5_pow]
  rfl
theorem power_sect (D : DS) (keep : List Bool) (k : Nat) : (D.power keep).sect k = (D.power keep).last.getD k [] := rfl
theorem tD6_five (was now : UInt8) (p : Int) (keep : Bool) (n : Nat) (hn : (tD4 was now p).part.toNat = n) (hn2 : n ≤ 256) : (tD6 was now p keep).sect 5 = tearB was now n := by
  have h0 : (tD6 was now p keep).sect 5 = (tD6 was now p keep).last.getD 5 [] := power_sect _ _ _
  have ht : (tD5 was now p).torn = List.replicate n now := by
    show (fullB now).take _ = _
    rw [hn, fullB, List.take_replicate, Nat.min_eq_left hn2]
  have h5 : (if keep then (tD2 was).last.set 6 (fullB now) else (tD2 was).last).getD 5 [] = fullB was := by
    have := tD2_at was 5 (by omega)
    cases keep
    · simpa using this
    · simp only [if_true]
      rw [List.getD_eq_getElem?_getD, List.getElem?_set_ne (by omega), ← List.getD_eq_getElem?_getD]
      simpa using this
  have hl : 5 < (if keep then (tD2 was).last.set 6 (fullB now) else (tD2 was).last).length := by
    have := tD2_len was
    cases keep <;> simp [this]
  rw [h0, tD6_last, List.getD_eq_getElem?_getD, List.getElem?_set_self hl, Option.getD_some, h5, ht, List.length_replicate, fullB, List.drop_replicate]
  rfl
theorem tD6_six (was now : UInt8) (p : Int) (keep : Bool) : (tD6 was now p keep).sect 6 = if keep then fullB now else noSect := by
  have h0 : (tD6 was now p keep).sect 6 = (tD6 was now p keep).last.getD 6 [] := power_sect _ _ _
  rw [h0, tD6_last, List.getD_eq_getElem?_getD, List.getElem?_set_ne (by omega)]
  cases keep
  · have := tD2_at was 6 (by omega)
    simpa [List.getD_eq_getElem?_getD] using this
  · have := tD2_len was
    simp only [if_true]
    rw [List.getElem?_set_self (by omega)]; rfl
theorem tD6_len (was now : UInt8) (p : Int) (keep : Bool) : (tD6 was now p keep).last.length = 40 := by
  rw [tD6_last, List.length_set]
  have := tD2_len was
  cases keep <;> simp [this]

theorem tear_at (was now : UInt8) (n : Nat) (junk : List Value) (i : Nat) (hi : i < 256) (hn : n ≤ 256) : (byteV (tearB was now n) ++ junk).toArray[i]? = some (.int .u8 ((if i < n then now else was).toNat : Int)) := by
  have hl : i < (byteV (tearB was now n)).length := by rw [byteV_length, tearB, List.length_append, List.length_replicate, List.length_replicate]; omega
  rw [List.getElem?_toArray, List.getElem?_append_left hl, byteV_get, tearB]
  by_cases e : i < n
  · rw [List.getElem?_append_left (by rw [List.length_replicate]; exact e), List.getElem?_replicate, if_pos e, if_pos e]; rfl
  · rw [List.getElem?_append_right (by rw [List.length_replicate]; omega), List.length_replicate, List.getElem?_replicate, if_pos (by omega), if_neg e]; rfl

end Go.Proofs.Ytajlhloapglafaa
