/- The log's small functions: num, tag, bad, does, read, write, flush, at, home, homes. -/
import Derived.Test.YtajlhloapglafaaGreatDoorLg0
namespace Go.Proofs.YtajlhloapglafaaGreatDoor
open Go.RowKit
set_option linter.unusedSimpArgs false
set_option linter.unusedVariables false
set_option maxRecDepth 4000

/-- The number of k bytes at a place. -/
def le (l : List UInt8) (at_ k : Nat) : Nat := Lib.leNat ((l.drop at_).take k)

theorem num8 (g off n cap : Nat) (l : List UInt8) (z : Int) (at_ : Nat) (hz : (at_ : Int) = z) (w : World) (hb : BytesAt w g off l) (hn : l.length = n) (hl : at_ + 8 ≤ n) (hc : n ≤ cap) (hm : n ≤ 1048576) :
    Calls Tryz.prog 114 #[.slice (some ⟨g, off, none⟩) n cap, .int .i64 z, .int .i64 8] w fun e w' => e = .returned (.int .u64 (le l at_ 8 : Int)) ∧ w = w' := by
  subst hz hn
  have HT := Lib.hid (take8 g off cap l at_ w hb hl hc hm)
  clear hb
  go_enter Tryz.func114, Tryz.ntmps114
  go_wp2_with (first | (go_at_call 122; (with_reducible refine (HT.out).mono ?_); rintro e W' ⟨rfl, rfl⟩))
  go_ret
  exact ⟨rfl, rfl⟩

theorem num4 (g off n cap : Nat) (l : List UInt8) (z : Int) (at_ : Nat) (hz : (at_ : Int) = z) (w : World) (hb : BytesAt w g off l) (hn : l.length = n) (hl : at_ + 4 ≤ n) (hc : n ≤ cap) (hm : n ≤ 1048576) :
    Calls Tryz.prog 114 #[.slice (some ⟨g, off, none⟩) n cap, .int .i64 z, .int .i64 4] w fun e w' => e = .returned (.int .u64 (le l at_ 4 : Int)) ∧ w = w' := by
  subst hz hn
  have HT := Lib.hid (take4 g off cap l at_ w hb hl hc hm)
  clear hb
  go_enter Tryz.func114, Tryz.ntmps114
  go_wp2_with (first | (go_at_call 122; (with_reducible refine (HT.out).mono ?_); rintro e W' ⟨rfl, rfl⟩))
  go_ret
  exact ⟨rfl, rfl⟩

theorem num2 (g off n cap : Nat) (l : List UInt8) (z : Int) (at_ : Nat) (hz : (at_ : Int) = z) (w : World) (hb : BytesAt w g off l) (hn : l.length = n) (hl : at_ + 2 ≤ n) (hc : n ≤ cap) (hm : n ≤ 1048576) :
    Calls Tryz.prog 114 #[.slice (some ⟨g, off, none⟩) n cap, .int .i64 z, .int .i64 2] w fun e w' => e = .returned (.int .u64 (le l at_ 2 : Int)) ∧ w = w' := by
  subst hz hn
  have HT := Lib.hid (take2 g off cap l at_ w hb hl hc hm)
  clear hb
  go_enter Tryz.func114, Tryz.ntmps114
  go_wp2_with (first | (go_at_call 122; (with_reducible refine (HT.out).mono ?_); rintro e W' ⟨rfl, rfl⟩))
  go_ret
  exact ⟨rfl, rfl⟩

theorem tag_calls (g off n cap : Nat) (l : List UInt8) (w : World) (hb : BytesAt w g off l) (hn : l.length = n) (hl : 8 ≤ n) (hc : n ≤ cap) (hm : n ≤ 1048576) :
    Calls Tryz.prog 113 #[.slice (some ⟨g, off, none⟩) n cap] w fun e w' => e = .returned (.int .u64 (le l 0 8 : Int)) ∧ w = w' := by
  have HT := Lib.hid (num8 g off n cap l 0 0 rfl w hb hn (by omega) hc hm)
  clear hb
  go_enter Tryz.func113, Tryz.ntmps113
  go_wp2_with (first | (go_at_call 114; (with_reducible refine (HT.out).mono ?_); rintro e W' ⟨rfl, rfl⟩))
  go_ret
  exact ⟨rfl, rfl⟩

theorem bad_ok (w : World) : Calls Tryz.prog 84 #[.int .i64 0] w fun e w' => e = .returned .nilIface ∧ w = w' := by
  go_enter Tryz.func84, Tryz.ntmps84
  go_wp2
  go_ret
  exact ⟨rfl, rfl⟩

theorem size_bool : (Tryz.prog.info? 4).map (·.size) = some 1 := by kernel_rfl

/-- does, of an operation that is done. -/
theorem does_ok {w : World} {g gd gm : Nat} {X : LS} {M : DataW Value} {rm : Nat → Prop} {n : Nat} {D : DS} {own rd : Nat → Prop} (hb : Bundle w (logL g gd gm X M rm n D own rd)) :
    Calls Tryz.prog 92 #[.pointer (some ⟨g, 0, none⟩), .int .i64 0] w fun e w' => e = .returned .nilIface ∧ BunTo w (ownL (logL g gd gm X M rm n D own rd)) (rdL (logL g gd gm X M rm n D own rd)) (logL g gd gm X M rm n D own rd) w' := by
  have H := hb.open_
  clear hb
  go_enter Tryz.func92, Tryz.ntmps92
  go_wp2_with (first
    | (refine wpList_load1_st rfl 4 _ rfl _ _ rfl _ _ _ (H.at 0 rfl) _ Tryz.underlying4 rfl _ (lRow2 _ _ _ _ _ _ _ _ _) ?_)
    | (refine wpList_store1_st H 0 rfl 4 _ _ rfl _ _ (.bool false) rfl rfl rfl _ _ rfl rfl (by simp [lRow]) ?_; clear H; intro W H; (try simp only [logL, List.set_cons_zero, List.set_cons_succ] at H); (try simp only [lSet2, lSet3, lSet4, lSet5, lSet6, lSet7, lSet8] at H))
    | (go_at_call 84; (with_reducible refine (bad_ok _).mono ?_); rintro e W' ⟨rfl, rfl⟩))
  go_ret
  exact ⟨rfl, H.bunTo⟩

theorem at_calls {w : World} {g gd gm : Nat} {X : LS} {M : DataW Value} {rm : Nat → Prop} {n : Nat} {D : DS} {own rd : Nat → Prop} (hb : Bundle w (logL g gd gm X M rm n D own rd)) (z : Int) (p : Nat) (hz : (p : Int) = z) (hr : 0 < X.ring) (hrm : X.ring ≤ 512) :
    Calls Tryz.prog 89 #[.pointer (some ⟨g, 0, none⟩), .int .i64 z] w fun e w' => e = .returned (.int .i64 ((2 + p % X.ring : Nat) : Int)) ∧ w = w' := by
  have H := hb.open_
  subst hz
  have h1 : ¬ ((X.ring : Int) = 0) := by omega
  have h2 : ((X.ring : Int) == 0) = false := beq_eq_false_iff_ne.2 h1
  have hlt : p % X.ring < X.ring := Nat.mod_lt _ hr
  have ht : ((p : Int)).tmod (X.ring : Int) = ((p % X.ring : Nat) : Int) := by rw [Int.tmod_eq_emod_of_nonneg (by omega)]; rfl
  obtain ⟨q, hq⟩ : ∃ q, p % X.ring = q := ⟨_, rfl⟩
  rw [hq] at ht hlt ⊢
  have hqi : (q : Int) < 512 := by omega
  have hq0 : 0 ≤ (q : Int) := by omega
  clear hb hq hlt
  go_enter Tryz.func89, Tryz.ntmps89
  go_wp2_with (first | (refine wpList_load1_st rfl 3 _ rfl _ _ rfl _ _ _ (H.at 0 rfl) _ Tryz.underlying3 rfl _ (lRow6 _ _ _ _ _ _ _ _ _) ?_))
  go_ret
  exact ⟨by rw [show ((2 + q : Nat) : Int) = 2 + (q : Int) by omega]; rfl, rfl⟩

theorem home_calls {w : World} {g gd gm : Nat} {X : LS} {M : DataW Value} {rm : Nat → Prop} {n : Nat} {D : DS} {own rd : Nat → Prop} (hb : Bundle w (logL g gd gm X M rm n D own rd)) (z : Int) (i : Nat) (hz : (i : Int) = z) (hi : i ≤ 1000000) (hrm : X.ring ≤ 512) :
    Calls Tryz.prog 56 #[.pointer (some ⟨g, 0, none⟩), .int .i64 z] w fun e w' => e = .returned (.int .i64 ((2 + X.ring + i : Nat) : Int)) ∧ w = w' := by
  have H := hb.open_
  subst hz
  have h1 : (X.ring : Int) ≤ 512 := by omega
  have h0 : 0 ≤ (X.ring : Int) := by omega
  have h2 : (i : Int) ≤ 1000000 := by omega
  have h3 : 0 ≤ (i : Int) := by omega
  clear hb
  go_enter Tryz.func56, Tryz.ntmps56
  go_wp2_with (first | (refine wpList_load1_st rfl 3 _ rfl _ _ rfl _ _ _ (H.at 0 rfl) _ Tryz.underlying3 rfl _ (lRow6 _ _ _ _ _ _ _ _ _) ?_))
  go_ret
  exact ⟨by rw [show ((2 + X.ring + i : Nat) : Int) = 2 + (X.ring : Int) + (i : Int) by omega]; rfl, rfl⟩

/-- read, on a disk that does not fail. -/
theorem lread_ok {w : World} {g gd gm : Nat} {X : LS} {M : DataW Value} {rm : Nat → Prop} {n : Nat} {D : DS} {own rd : Nat → Prop} (hb : Bundle w (logL g gd gm X M rm n D own rd)) (hdd : D.dead = false) (z : Int) (k : Nat) (hz : (k : Int) = z) (hk : k < D.last.length) :
    Calls Tryz.prog 55 #[.pointer (some ⟨g, 0, none⟩), .int .i64 z] w fun e w' => ∃ gc cap junk, e = .returned (.tuple #[.slice (some ⟨gc, 0, none⟩) 256 cap, .nilIface]) ∧ (D.sect k).length = 256 ∧ 256 ≤ cap ∧ w.heap.size ≤ gc ∧
      BunTo w (ownL (logL g gd gm X M rm n D own rd)) (rdL (logL g gd gm X M rm n D own rd)) (logL g gd gm X M rm n D own rd ++ [blk gc (.cells (byteV (D.sect k) ++ junk).toArray 5 (0, 0))]) w' := by
  have H := hb.open_
  obtain ⟨l, hl⟩ : ∃ l, D.sect k = l := ⟨_, rfl⟩
  have HS := Lib.hid hl
  have HK := Lib.hid hk
  have HD := Lib.hid hdd
  have HZ := Lib.hid hz
  clear hb hk hdd hl hz
  go_enter Tryz.func55, Tryz.ntmps55
  go_wp2_with (first
    | (refine wpList_load1_st rfl 25 _ rfl _ _ rfl _ _ _ (H.at 0 rfl) _ Tryz.underlying25 rfl _ (lRow0 _ _ _ _ _ _ _ _ _) ?_)
    | (go_at_call 75; go_loud ((with_reducible refine (read_at (H.at 3 rfl) _ k HZ.out HK.out HD.out HS.out).mono ?_); rintro e W ⟨gc, cap, junk, rfl, hl2, ha2, hag, hac, hbl⟩; replace H := H.add (Fix.of_below hbl _) (blk gc _) hac (fun k hk => by rw [show k = gc from hk]; exact hag) (fun k hk => hk.elim); clear hac hbl; simp only [logL, List.nil_append, List.cons_append] at H))
    | (go_at_call 92; go_loud ((with_reducible refine (does_ok (g := g) (gd := gd) (gm := gm) (X := X) (M := M) (rm := rm) (n := n) (D := D) (own := own) (rd := rd) ((H.take 4).bundle)).mono ?_); rintro e W' ⟨rfl, hto⟩; replace H := hto.front (R := [blk gc _]) H; clear hto; simp only [logL, List.nil_append, List.cons_append] at H)))
  refine bodyPost_ret (results_tmp2 rfl _ _ _) rfl ?_
  rw [HS.out]
  exact ⟨gc, cap, junk, rfl, hl2, ha2, hag, H.bunTo⟩

end Go.Proofs.YtajlhloapglafaaGreatDoor
