/- The laws' own functions on the disk: full, begun. -/
import Derived.Test.YtajlhloapglafaaDkG
namespace Go.Proofs.Ytajlhloapglafaa
open Go.RowKit
set_option linter.unusedSimpArgs false
set_option linter.unusedVariables false
set_option maxRecDepth 4000

/-- Full of one byte. -/
def fullB (x : UInt8) : List UInt8 := List.replicate 256 x
theorem fullB_len (x : UInt8) : (fullB x).length = 256 := List.length_replicate

theorem fill_step (x : UInt8) (j : Nat) (hj : j < 256) : (List.replicate j x ++ List.replicate (256 - j) (0 : UInt8)).set j x = List.replicate (j + 1) x ++ List.replicate (256 - (j + 1)) 0 := by
  rw [List.set_append_right _ _ (by simp), List.length_replicate, Nat.sub_self, List.replicate_succ', List.append_assoc]
  congr 1
  rw [show 256 - j = (256 - (j + 1)) + 1 by omega, List.replicate_succ]
  rfl

theorem full_calls (x : UInt8) (w : World) :
    Calls Try.prog 10 #[.int .u8 (x.toNat : Int)] w fun e w' => ∃ g, e = .returned (.slice (some ⟨g, 0, none⟩) 256 256) ∧ w.heap.size ≤ g ∧ w'.heap[g]? = some (.cells (byteV (fullB x)).toArray 5 (0, 0)) ∧ Below w.heap.size w w' := by
  have H := St.nil NoBlk NoBlk w
  go_enter Try.func10, Try.ntmps10
  go_wp2_with (first
    | (refine wpList_make_st H rfl 22 _ _ rfl _ Try.underlying22 _ _ info_u8 rfl 256 rfl rfl (by omega) (by simp [maxLen]) ?_; clear H; intro W g H; rw [byteV_noSect] at H; simp only [List.nil_append] at H))
  try go_frame
  go_loopw [4] (fun u wr => ∃ j : Nat, u = .int .i64 (j : Int) ∧ j ≤ 256 ∧ St NoBlk NoBlk w wr [blk g (.cells (byteV (List.replicate j x ++ List.replicate (256 - j) (0 : UInt8))).toArray 5 (0, 0))]) (fun u _ => 256 - (intOf u).toNat)
  case atStart => exact ⟨0, rfl, by omega, H⟩
  case round =>
    obtain ⟨j, rfl, hj, H⟩ := hrel
    rcases Nat.lt_or_ge j 256 with hlt | hge
    · have hji : (j : Int) < 256 := by omega
      have hj0 : 0 ≤ (j : Int) := by omega
      have hst := fill_step x j hlt
      have HST := Lib.hid hst
      have hoff : j < (byteV (List.replicate j x ++ List.replicate (256 - j) (0 : UInt8))).toArray.size := by simp; omega
      have HO := Lib.hid hoff
      clear hst hoff
      go_wp2_with (first
        | (refine wpList_store1_st H 0 rfl 5 _ _ rfl _ _ (.int .u8 ((UInt8.toNat _ : Nat) : Int)) rfl rfl rfl _ _ rfl size_u8 HO.out ?_; clear H; intro W H; (try simp only [cells_arrV, List.nil_append, List.cons_append, List.set_cons_zero, List.set_cons_succ] at H); simp only [byteV_set] at H; rw [HST.out] at H))
      go_roundw
      case rel => exact ⟨j + 1, congrArg _ (by omega), by omega, H⟩
      case measure => simp [intOf]; omega
    · obtain rfl : j = 256 := by omega
      go_wp2
      go_ret
      refine ⟨g, rfl, ?_, ?_, H.fix.below⟩
      · rcases H.mine 0 _ rfl g rfl with h | h
        · exact h
        · exact h.elim
      · have h256 : List.replicate 256 x ++ List.replicate (256 - 256) (0 : UInt8) = fullB x := by rw [Nat.sub_self, List.replicate_zero, List.append_nil]; rfl
        rw [h256] at H
        exact H.at 0 rfl

theorem new_at (z : Int) (n : Nat) (hz : (n : Int) = z) (h1 : 32 ≤ n) (h2 : n ≤ 1900) (w : World) :
    Calls Try.prog 8 #[.int .i64 z] w fun e w' => ∃ g own rd, e = .returned (.pointer (some ⟨g, 0, none⟩)) ∧ DiskIs w' g (DS.new n) own rd ∧ Below w.heap.size w w' ∧ ∀ k, own k ∨ rd k → w.heap.size ≤ k := by
  subst hz; exact new_calls n h1 h2 w

theorem write_at {w : World} {g : Nat} {D : DS} {own rd : Nat → Prop} (hd : DiskIs w g D own rd) (z : Int) (k : Nat) (hz : (k : Int) = z) (hk : k < D.last.length) (hdd : D.dead = false) (v : Value) (l : List UInt8) (hv : ArgB w own v l) (hl : l.length = 256) (hfl : D.failsB = false) (hw : 0 ≤ D.writes ∧ D.writes < 1000000)
    {D' : DS} (hD : { D.failsD with wait := fun j => if j = k then some l else D.failsD.wait j, writes := D.failsD.writes + 1 } = D') :
    Calls Try.prog 9 #[.pointer (some ⟨g, 0, none⟩), .int .i64 z, v] w fun e w' => e = .returned (.int .i64 0) ∧ DiskTo w g own rd D' w' := by
  subst hz hD; exact write_ok hd k hk hdd v l hv hl hfl hw

theorem read_at {w : World} {g : Nat} {D : DS} {own rd : Nat → Prop} (hd : DiskIs w g D own rd) (z : Int) (k : Nat) (hz : (k : Int) = z) (hk : k < D.last.length) (hdd : D.dead = false) {l : List UInt8} (hl : D.sect k = l) :
    Calls Try.prog 15 #[.pointer (some ⟨g, 0, none⟩), .int .i64 z] w fun e w' => ∃ gc cap junk, e = .returned (.tuple #[.slice (some ⟨gc, 0, none⟩) 256 cap, .int .i64 0]) ∧ l.length = 256 ∧ 256 ≤ cap ∧ w.heap.size ≤ gc ∧ w'.heap[gc]? = some (.cells (byteV l ++ junk).toArray 5 (0, 0)) ∧ Below w.heap.size w w' := by
  subst hz hl
  refine (read_calls hd k hk hdd).mono ?_
  rintro e w' ⟨v, rfl, ⟨gc, cap, junk, rfl, h1, h2, h3, h4⟩, h5, h6⟩
  rw [h5] at h1 ⊢
  exact ⟨gc, cap, junk, rfl, rfl, h1, h3, h4, h6⟩

theorem power_at {w : World} {g : Nat} {D : DS} {own rd : Nat → Prop} (hd : DiskIs w g D own rd) (v : Value) (keep : List Bool) (hv : ArgL w own v (keep.map Value.bool)) (hlv : 0 ≤ D.lives ∧ D.lives < 1000000) {D' : DS} (hD : D.power keep = D') :
    Calls Try.prog 16 #[.pointer (some ⟨g, 0, none⟩), v] w fun e w' => e = .returned (.tuple #[]) ∧ DiskTo w g own rd D' w' := by
  subst hD; exact power_calls hd v keep hv hlv

theorem flush_at {w : World} {g : Nat} {D : DS} {own rd : Nat → Prop} (hd : DiskIs w g D own rd) (hdd : D.dead = false) (hfl : D.failsB = false) {D' : DS} (hD : { D.failsD with last := D.failsD.all, wait := fun _ => none } = D') :
    Calls Try.prog 11 #[.pointer (some ⟨g, 0, none⟩)] w fun e w' => e = .returned (.int .i64 0) ∧ DiskTo w g own rd D' w' := by
  subst hD; exact flush_ok hd hdd hfl

theorem lives_at {w : World} {g : Nat} {D : DS} {own rd : Nat → Prop} (hd : DiskIs w g D own rd) {z : Int} (h : D.lives = z) :
    Calls Try.prog 17 #[.pointer (some ⟨g, 0, none⟩)] w fun e w' => e = .returned (.int .i64 z) ∧ w = w' := by subst h; exact lives_calls hd
theorem writes_at {w : World} {g : Nat} {D : DS} {own rd : Nat → Prop} (hd : DiskIs w g D own rd) {z : Int} (h : D.writes = z) :
    Calls Try.prog 18 #[.pointer (some ⟨g, 0, none⟩)] w fun e w' => e = .returned (.int .i64 z) ∧ w = w' := by subst h; exact writes_calls hd
theorem dead_at {w : World} {g : Nat} {D : DS} {own rd : Nat → Prop} (hd : DiskIs w g D own rd) {b : Bool} (h : D.dead = b) :
    Calls Try.prog 14 #[.pointer (some ⟨g, 0, none⟩)] w fun e w' => e = .returned (.bool b) ∧ w = w' := by subst h; exact dead_calls hd

theorem argL_nil (w : World) (own : Nat → Prop) : ArgL w own (.slice none 0 0) (([] : List Bool).map Value.bool) :=
  ⟨⟨none, 0, rfl, .inl rfl, fun k hk => absurd rfl hk.1⟩⟩

/-- The disk of begun, behind its one write. -/
theorem DiskTo.step {M0 R0 : Nat → Prop} {w0 W W' : World} {L : List Asrt} (H : St M0 R0 w0 W L) (i : Nat) {g : Nat} {D D' : DS} {own rd : Nat → Prop} (hi : L[i]? = some (dA g D own rd)) (h : DiskTo W g own rd D' W') :
    ∃ own' rd', St M0 R0 w0 W' (L.set i (dA g D' own' rd')) := by
  obtain ⟨own', rd', h1, h2, h3, h4⟩ := h
  exact ⟨own', rd', H.step i hi h2 h1 ⟨h3, h4⟩⟩

theorem St.notown {M0 R0 : Nat → Prop} {w0 W : World} {L : List Asrt} (H : St M0 R0 w0 W L) (i j : Nat) {g gd : Nat} {x : Obj} {D : DS} {own rd : Nat → Prop} (hi : L[i]? = some (blk g x)) (hj : L[j]? = some (dA gd D own rd)) (hne : i ≠ j) : ¬ own g :=
  fun hk => (H.apart i j _ _ hi hj hne).1 g rfl hk

theorem new_may {n : Nat} {i : Nat} (h : i < n) : (DS.new n).may (i : Int) = 0 := by
  simp [DS.may, DS.new]; omega

def sevB : List UInt8 := noSect.set 0 7
theorem sevB_len : sevB.length = 256 := by rw [sevB, List.length_set]; exact noSect_len

def bD1 : DS := { (DS.new 32).failsD with wait := fun j => if j = 3 then some sevB else (DS.new 32).failsD.wait j, writes := (DS.new 32).failsD.writes + 1 }

theorem argB_own {w : World} {own : Nat → Prop} {g : Nat} {l : List UInt8} {t : TypeId} {n : Nat} (hl : l.length = n) (hn : n ≤ 1048576) (hg : w.heap[g]? = some (.cells (byteV l).toArray t (0, 0))) (hno : ¬ own g) : ArgB w own (.slice (some ⟨g, 0, none⟩) n n) l :=
  ⟨⟨g, 0, n, by rw [hl], by omega, BytesAt.front (junk := []) (by rw [List.append_nil]; exact hg), .inr ⟨(Array.getElem?_eq_some_iff.1 hg).1, hno⟩⟩, by omega⟩

def bD2 : DS := { bD1 with last := bD1.all, wait := fun _ => none }
def bD3 : DS := bD2.power []

theorem bD1_wait : bD1.waiting = [3] := by kernel_rfl
theorem bD1_len : bD1.last.length = 32 := List.length_replicate
theorem bD2_len : bD2.last.length = 32 := by show bD1.all.length = 32; rw [DS.all, List.length_map, List.length_range, bD1_len]
theorem bD3_last : bD3.last = bD2.last := by kernel_rfl
theorem bD3_sect : bD3.sect 3 = sevB := by
  show (bD3.last.getD 3 []) = sevB
  rw [bD3_last]
  show bD1.all.getD 3 [] = sevB
  rw [List.getD_eq_getElem?_getD, DS.all, List.getElem?_map, List.getElem?_range (by rw [bD1_len]; omega)]
  rfl

theorem begun_calls (w : World) :
    Calls Try.prog 7 #[] w fun e w' => e = .returned (.bool true) ∧ Below w.heap.size w w' := by
  have H := St.nil NoBlk NoBlk w
  go_enter Try.func7, Try.ntmps7
  go_wp2_with (first
    | (go_at_call 8; go_loud ((with_reducible refine (new_at 32 32 (by decide) (by omega) (by omega) _).mono ?_); rintro e W ⟨gd, own, rd, rfl, hd, hb, hn⟩; replace H := H.add (Fix.of_below hb NoBlk) (dA gd (DS.new 32) own rd) hd (fun k hk => hn k (.inl hk)) (fun k hk => .inl (hn k (.inr hk))); clear hd hb hn; simp only [List.nil_append, List.cons_append] at H))
    | (refine wpList_make_st H rfl 22 _ _ rfl _ Try.underlying22 _ _ info_u8 rfl 256 rfl rfl (by omega) (by simp [maxLen]) ?_; clear H; intro W gb H; rw [byteV_noSect] at H; simp only [List.nil_append, List.cons_append] at H)
    | (refine wpList_store1_st H 1 rfl 5 _ _ rfl _ _ (.int .u8 (((7 : UInt8).toNat : Nat) : Int)) rfl rfl rfl _ _ rfl size_u8 (by simp [noSect_len]) ?_; clear H; intro W H; rw [byteV_set] at H; simp only [List.set_cons_zero, List.set_cons_succ] at H)
    | (go_at_call 9; go_loud ((with_reducible refine (write_at (H.at 0 rfl) 3 3 (by decide) (by decide) rfl _ sevB (argB_own sevB_len (by omega) (H.at 1 rfl) (H.notown 1 0 rfl rfl (by decide))) sevB_len rfl (by decide) (D' := bD1) rfl).mono ?_); rintro e W ⟨rfl, hto⟩; obtain ⟨own1, rd1, H⟩ := DiskTo.step H 0 rfl hto; clear hto; simp only [List.set_cons_zero, List.set_cons_succ] at H))
    | (go_at_call 12; go_loud ((with_reducible refine (waiting_calls (H.at 0 rfl)).mono ?_); rintro e W ⟨vw, rfl, hrow, hb⟩; rw [bD1_wait] at hrow; obtain ⟨pw, capw, rfl, hw1, hw2⟩ := ownsRow_rd hrow; replace H := H.stay (Fix.of_below hb NoBlk); clear hrow hb hw1 hw2))
    | (go_at_call 11; go_loud ((with_reducible refine (flush_at (H.at 0 rfl) rfl rfl (D' := bD2) rfl).mono ?_); rintro e W ⟨rfl, hto⟩; obtain ⟨own1, rd1, H⟩ := DiskTo.step H 0 rfl hto; clear hto; simp only [List.set_cons_zero, List.set_cons_succ] at H))
    | (go_at_call 16; go_loud ((with_reducible refine (power_at (H.at 0 rfl) _ [] (argL_nil _ _) (by decide) (D' := bD3) rfl).mono ?_); rintro e W ⟨rfl, hto⟩; obtain ⟨own1, rd1, H⟩ := DiskTo.step H 0 rfl hto; clear hto; simp only [List.set_cons_zero, List.set_cons_succ] at H))
    | (go_at_call 15; go_loud ((with_reducible refine (read_at (H.at 0 rfl) 3 3 (by decide) (by rw [bD3_last, bD2_len]; omega) rfl bD3_sect).mono ?_); rintro e W ⟨gc, capc, junkc, rfl, _, hc2, hcg, hcc, hbl⟩; replace H := H.add (Fix.of_below hbl NoBlk) (blk gc _) hcc (fun k hk => by rw [show k = gc from hk]; exact hcg) (fun k hk => hk.elim); clear hcc hcg hbl; simp only [List.nil_append, List.cons_append] at H))
    | (go_at_call 17; go_loud ((with_reducible refine (lives_at (H.at 0 rfl) (z := 1) rfl).mono ?_); rintro e W' ⟨rfl, rfl⟩))
    | (go_at_call 18; go_loud ((with_reducible refine (writes_at (H.at 0 rfl) (z := 1) rfl).mono ?_); rintro e W' ⟨rfl, rfl⟩))
    | (go_at_call 14; go_loud ((with_reducible refine (dead_at (H.at 0 rfl) (b := false) rfl).mono ?_); rintro e W' ⟨rfl, rfl⟩))
    | (refine wpList_load1_st rfl 5 _ rfl _ _ rfl _ _ _ (H.at 2 rfl) _ Try.underlying5 rfl (.int .u8 7) rfl ?_))
  go_ret
  exact ⟨rfl, H.fix.below⟩

end Go.Proofs.Ytajlhloapglafaa
