/- What no disk answers. -/
import Derived.Test.YtajlhloapglafaaDkI
namespace Go.Proofs.Ytajlhloapglafaa
open Go.RowKit
set_option linter.unusedSimpArgs false
set_option linter.unusedVariables false
set_option maxRecDepth 4000

theorem writes_nil (w : World) : Calls Try.prog 18 #[.pointer none] w fun e w' => e = .returned (.int .i64 0) ∧ w = w' := by
  go_enter Try.func18, Try.ntmps18
  go_wp2
  go_ret
  exact ⟨rfl, rfl⟩

theorem lives_nil (w : World) : Calls Try.prog 17 #[.pointer none] w fun e w' => e = .returned (.int .i64 0) ∧ w = w' := by
  go_enter Try.func17, Try.ntmps17
  go_wp2
  go_ret
  exact ⟨rfl, rfl⟩

theorem dead_nil (w : World) : Calls Try.prog 14 #[.pointer none] w fun e w' => e = .returned (.bool true) ∧ w = w' := by
  have HL := Lib.hid (len_nil w)
  go_enter Try.func14, Try.ntmps14
  go_wp2_with (first | (go_at_call 32; (with_reducible refine (HL.out).mono ?_); rintro e W' ⟨rfl, rfl⟩))
  go_ret
  exact ⟨rfl, rfl⟩

theorem read_nil (i : Int) (w : World) : Calls Try.prog 15 #[.pointer none, .int .i64 i] w fun e w' => e = .returned (.tuple #[.slice none 0 0, .int .i64 1]) ∧ w = w' := by
  have HL := Lib.hid (may_nil i w)
  go_enter Try.func15, Try.ntmps15
  go_wp2_with (first | (go_at_call 33; (with_reducible refine (HL.out).mono ?_); rintro e W' ⟨rfl, rfl⟩))
  refine bodyPost_ret (results_tmp2 rfl _ _ _) rfl ?_
  exact ⟨rfl, rfl⟩

theorem write_nil (i : Int) (v : Value) (w : World) : Calls Try.prog 9 #[.pointer none, .int .i64 i, v] w fun e w' => e = .returned (.int .i64 1) ∧ w = w' := by
  have HL := Lib.hid (may_nil i w)
  go_enter Try.func9, Try.ntmps9
  go_wp2_with (first | (go_at_call 33; (with_reducible refine (HL.out).mono ?_); rintro e W' ⟨rfl, rfl⟩))
  go_ret
  exact ⟨rfl, rfl⟩

theorem flush_nil (w : World) : Calls Try.prog 11 #[.pointer none] w fun e w' => e = .returned (.int .i64 1) ∧ w = w' := by
  have HL := Lib.hid (may_nil 0 w)
  go_enter Try.func11, Try.ntmps11
  go_wp2_with (first | (go_at_call 33; (with_reducible refine (HL.out).mono ?_); rintro e W' ⟨rfl, rfl⟩))
  go_ret
  exact ⟨rfl, rfl⟩

theorem arm_nil (i p : Int) (w : World) : Calls Try.prog 13 #[.pointer none, .int .i64 i, .int .i64 p] w fun e w' => e = .returned (.tuple #[]) ∧ w = w' := by
  have HL := Lib.hid (len_nil w)
  go_enter Try.func13, Try.ntmps13
  go_wp2_with (first | (go_at_call 32; (with_reducible refine (HL.out).mono ?_); rintro e W' ⟨rfl, rfl⟩))
  exact bodyPost_ret (results_none rfl) rfl ⟨rfl, rfl⟩

theorem power_nil (v : Value) (w : World) : Calls Try.prog 16 #[.pointer none, v] w fun e w' => e = .returned (.tuple #[]) ∧ w = w' := by
  have HL := Lib.hid (len_nil w)
  go_enter Try.func16, Try.ntmps16
  go_wp2_with (first | (go_at_call 32; (with_reducible refine (HL.out).mono ?_); rintro e W' ⟨rfl, rfl⟩))
  exact bodyPost_ret (results_none rfl) rfl ⟨rfl, rfl⟩

theorem copy_nil (w : World) : Calls Try.prog 30 #[.pointer none] w fun e w' => e = .returned (.pointer none) ∧ w = w' := by
  have HL := Lib.hid (len_nil w)
  go_enter Try.func30, Try.ntmps30
  go_wp2_with (first | (go_at_call 32; (with_reducible refine (HL.out).mono ?_); rintro e W' ⟨rfl, rfl⟩))
  go_ret
  exact ⟨rfl, rfl⟩

theorem arm_at {w : World} {g : Nat} {D : DS} {own rd : Nat → Prop} (hd : DiskIs w g D own rd) (i p : Int) (hi : -9223372036854775808 ≤ i ∧ i ≤ 9223372036854775807) (hp : -9223372036854775808 ≤ p ∧ p ≤ 9223372036854775807) {D' : DS} (hD : D.arm i p = D') :
    Calls Try.prog 13 #[.pointer (some ⟨g, 0, none⟩), .int .i64 i, .int .i64 p] w fun e w' => e = .returned (.tuple #[]) ∧ DiskTo w g own rd D' w' := by subst hD; exact arm_calls hd i p hi hp

theorem write_fail_at {w : World} {g : Nat} {D : DS} {own rd : Nat → Prop} (hd : DiskIs w g D own rd) (z : Int) (k : Nat) (hz : (k : Int) = z) (hk : k < D.last.length) (hdd : D.dead = false) (v : Value) (l : List UInt8) (hv : ArgB w own v l) (hl : l.length = 256) (hfl : D.failsB = true)
    {D' : DS} (hD : { D.failsD with way := ((k : Nat) : Int), torn := l.take D.part.toNat } = D') :
    Calls Try.prog 9 #[.pointer (some ⟨g, 0, none⟩), .int .i64 z, v] w fun e w' => e = .returned (.int .i64 12) ∧ DiskTo w g own rd D' w' := by
  subst hz hD; exact write_fail hd k hk hdd v l hv hl hfl

theorem read_dead {w : World} {g : Nat} {D : DS} {own rd : Nat → Prop} (hd : DiskIs w g D own rd) (i : Int) (hdd : D.dead = true) :
    Calls Try.prog 15 #[.pointer (some ⟨g, 0, none⟩), .int .i64 i] w fun e w' => e = .returned (.tuple #[.slice none 0 0, .int .i64 12]) ∧ w = w' :=
  read_no hd i 12 (by simp [DS.may, hdd]) (by decide)

theorem BytesAt.whole {W : World} {g : Nat} {l : List UInt8} {t : TypeId} {fr : Nat × Nat} (hg : W.heap[g]? = some (.cells (byteV l).toArray t fr)) : BytesAt W g 0 l :=
  BytesAt.front (junk := []) (by rw [List.append_nil]; exact hg)

end Go.Proofs.Ytajlhloapglafaa
