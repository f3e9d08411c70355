/- DiskWaits, walked. -/
import Derived.Test.YtajlhloapglafaaDkH
namespace Go.Proofs.Ytajlhloapglafaa
open Go.RowKit
set_option linter.unusedSimpArgs false
set_option linter.unusedVariables false
set_option maxRecDepth 4000

def boolV (l : List Bool) : List Value := l.map Value.bool
theorem boolV_one (l : List Bool) : ∀ v ∈ boolV l, v.oneCell' = true := by
  intro v hv
  obtain ⟨_, _, rfl⟩ := List.mem_map.1 hv
  rfl
theorem boolV_all (l : List Bool) : (boolV l).toArray.all (·.oneCell') = true := all_oneCell_toArray (boolV_one l)
theorem boolV_set (l : List Bool) (i : Nat) (b : Bool) : (boolV l).toArray.setIfInBounds i (.bool b) = (boolV (l.set i b)).toArray := by
  simp [boolV]
theorem boolV_length (l : List Bool) : (boolV l).length = l.length := by simp [boolV]

def no60 : List Bool := List.replicate 60 false
theorem zero_60 : (Try.prog.info? 26).bind (·.zero) = some (.agg (boolV no60).toArray) := by kernel_rfl
theorem size_60 : (Try.prog.info? 26).map (·.size) = some 60 := by kernel_rfl
theorem built_60 : Try.prog.built 26 [] = some (boolV no60).toArray := by kernel_rfl
theorem size_bool : (Try.prog.info? 4).map (·.size) = some 1 := by kernel_rfl

/-- A calm disk: what the laws' loops keep. -/
structure Calm (D : DS) (n : Nat) (w : Nat) : Prop where
  len : D.last.length = n
  dead : D.dead = false
  armed : D.armed = false
  writes : D.writes = (w : Int)

theorem full_at (z : Int) (x : UInt8) (hz : (x.toNat : Int) = z) (w : World) :
    Calls Try.prog 10 #[.int .u8 z] w fun e w' => ∃ g, e = .returned (.slice (some ⟨g, 0, none⟩) 256 256) ∧ w.heap.size ≤ g ∧ w'.heap[g]? = some (.cells (byteV (fullB x)).toArray 5 (0, 0)) ∧ Below w.heap.size w w' := by
  subst hz; exact full_calls x w

theorem St.one' {A : Asrt} {w : World} (h : A.prop w) (hn : ∀ k, ¬ A.own k) : St NoBlk A.rd w w [A] := by
  have H := St.one h
  exact ⟨Fix.refl _ _, H.all, H.apart, fun i B hi k hk => by
    rcases H.mine i B hi k hk with h | h
    · exact .inl h
    · exact absurd h (hn k), fun i B hi k hk => by
    rcases H.reads i B hi k hk with h | h | h
    · exact .inl h
    · exact absurd h (hn k)
    · exact .inr (.inr h)⟩

theorem wpList_build0 {P : Program} {ops : Array Oper} {rest : List Oper} {o : Oper} {a : Act} {Q : Exit → Act → World → Prop} {W : World} (hwt : Region.wanted o (yielded ops a.tmps) = true) (T : TypeId) (ho : o.op = .build T #[]) (cs : Array Value) (hb : P.built T [] = some cs)
    (h : wpList P ops Q rest (a.put o.dst (.agg cs)) W) : wpList P ops Q (o :: rest) a W := by
  refine wpList_want hwt fun K hK => ?_
  have e : ((#[] : Array (Nat × Operand)).map fun (i, x) => (i, a.eval x)).toList = [] := by simp
  exact wp_build (P := P) (o := o) (a := a) (w := W) (K := K) (Q := Q) T #[] ho (by rw [e, hb]; rfl) (by rw [e, hb]; exact hK _ _ h)

theorem boolV_size (l : List Bool) (n : Nat) (h : l.length = n) : (boolV l).toArray.size = n := by simp [boolV, h]

theorem no60_size : (boolV no60).toArray.size = 60 := boolV_size _ 60 List.length_replicate

/-- The bits say which sectors wait. -/
structure Bits (D : DS) (bs : List Bool) : Prop where
  len : bs.length = 60
  at_ : ∀ k, k < 60 → bs[k]? = some (D.wait k).isSome

theorem failsD_calm {D : DS} {n w : Nat} (h : Calm D n w) : D.failsD = D := by simp [DS.failsD, h.armed]
theorem failsB_calm {D : DS} {n w : Nat} (h : Calm D n w) : D.failsB = false := by simp [DS.failsB, h.armed]

def DS.put (D : DS) (s : Nat) (l : List UInt8) : DS := { D with wait := fun j => if j = s then some l else D.wait j, writes := D.writes + 1 }
def DS.flushed (D : DS) : DS := { D with last := D.all, wait := fun _ => none }

theorem Calm.put {D : DS} {n w : Nat} (h : Calm D n w) (s : Nat) (l : List UInt8) : Calm (D.put s l) n (w + 1) := ⟨h.len, h.dead, h.armed, by show D.writes + 1 = _; rw [h.writes]; omega⟩
theorem DS.all_len (D : DS) : D.all.length = D.last.length := by simp [DS.all]
theorem Calm.flushed {D : DS} {n w : Nat} (h : Calm D n w) : Calm D.flushed n w := ⟨(DS.all_len D).trans h.len, h.dead, h.armed, h.writes⟩
theorem Bits.put {D : DS} {bs : List Bool} (h : Bits D bs) (s : Nat) (l : List UInt8) : Bits (D.put s l) (bs.set s true) := by
  refine ⟨by rw [List.length_set]; exact h.len, fun k hk => ?_⟩
  by_cases e : k = s
  · subst e
    rw [List.getElem?_set_self (by rw [h.len]; exact hk)]
    simp [DS.put]
  · rw [List.getElem?_set_ne (fun x => e x.symm), h.at_ k hk]
    simp [DS.put, e]
theorem Bits.none {D : DS} (h : ∀ k, D.wait k = none) : Bits D no60 := by
  refine ⟨List.length_replicate, fun k hk => ?_⟩
  rw [h k, no60, List.getElem?_replicate, if_pos hk]; rfl

theorem write_calm {w : World} {g : Nat} {D : DS} {own rd : Nat → Prop} (hd : DiskIs w g D own rd) {n u : Nat} (hc : Calm D n u) (hu : u < 1000000) (z : Int) (k : Nat) (hz : (k : Int) = z) (hk : k < n) (v : Value) (l : List UInt8) (hv : ArgB w own v l) (hl : l.length = 256) :
    Calls Try.prog 9 #[.pointer (some ⟨g, 0, none⟩), .int .i64 z, v] w fun e w' => e = .returned (.int .i64 0) ∧ DiskTo w g own rd (D.put k l) w' :=
  write_at hd z k hz (by rw [hc.len]; exact hk) hc.dead v l hv hl (failsB_calm hc) (by rw [hc.writes]; omega) (by rw [failsD_calm hc]; rfl)

theorem flush_calm {w : World} {g : Nat} {D : DS} {own rd : Nat → Prop} (hd : DiskIs w g D own rd) {n u : Nat} (hc : Calm D n u) :
    Calls Try.prog 11 #[.pointer (some ⟨g, 0, none⟩)] w fun e w' => e = .returned (.int .i64 0) ∧ DiskTo w g own rd D.flushed w' :=
  flush_at hd hc.dead (failsB_calm hc) (by rw [failsD_calm hc]; rfl)

/-- How many wait ahead of s. -/
def DS.cnt (D : DS) (s : Nat) : Nat := ((List.range s).filter fun k => (D.wait k).isSome).length
theorem DS.cnt_succ (D : DS) (s : Nat) : D.cnt (s + 1) = D.cnt s + (if (D.wait s).isSome then 1 else 0) := by
  unfold DS.cnt
  rw [List.range_succ, List.filter_append, List.length_append]
  cases h : (D.wait s).isSome <;> simp [h]
theorem DS.cnt_le (D : DS) (s : Nat) : D.cnt s ≤ s := by
  have := List.length_filter_le (fun k => (D.wait k).isSome) (List.range s)
  rw [List.length_range] at this
  exact this
theorem DS.waiting_cnt (D : DS) {n : Nat} (hn : D.last.length = n) (s : Nat) (hs : s < n) (h : (D.wait s).isSome = true) : D.waiting[D.cnt s]? = some s ∧ D.cnt s < D.waiting.length := by
  have e : List.range n = List.range s ++ (s :: (List.range (n - s - 1)).map fun x => s + (x + 1)) := by
    have : n = s + ((n - s - 1) + 1) := by omega
    conv => lhs; rw [this]
    rw [List.range_add, List.range_succ_eq_map, List.map_cons, List.map_map]
    rfl
  unfold DS.waiting DS.cnt
  rw [hn, e, List.filter_append, List.filter_cons_of_pos (by simpa using h)]
  constructor
  · rw [List.getElem?_append_right (Nat.le_refl _), Nat.sub_self]; rfl
  · simp
theorem DS.waiting_len (D : DS) {n : Nat} (hn : D.last.length = n) : D.waiting.length = D.cnt n := by unfold DS.waiting DS.cnt; rw [hn]

set_option maxHeartbeats 1000000 in
theorem diskWaits_short (p : Option Addr) (cap : Nat) (l : List UInt8) (f : UInt8) (w : World) (hl : l.length ≤ 60) (ha : (rdA p (byteV l)).prop w) :
    Calls Try.prog 3 #[.slice p l.length cap, .int .u8 (f.toNat : Int)] w fun e w' => e = .returned (.bool true) ∧ Below w.heap.size w w' := by
  have H := St.one' ha (fun _ h => h)
  have hli : (l.length : Int) ≤ 60 := by omega
  have hfb : (f.toNat : Int) < 256 := by have := f.toNat_lt; omega
  go_enter Try.func3, Try.ntmps3
  go_wp2_with (first
    | (go_at_call 7; (with_reducible refine (begun_calls _).mono ?_); rintro e W ⟨rfl, hb⟩; replace H := H.stay (Fix.of_below hb _); clear hb)
    | (go_at_call 8; go_loud ((with_reducible refine (new_at 60 60 (by decide) (by omega) (by omega) _).mono ?_); rintro e W ⟨gd, own, rd, rfl, hd, hb, hn⟩; replace H := H.add (Fix.of_below hb NoBlk) (dA gd (DS.new 60) own rd) hd (fun k hk => hn k (.inl hk)) (fun k hk => .inl (hn k (.inr hk))); clear hd hb hn; simp only [List.nil_append, List.cons_append] at H))
    | (refine wpList_alloc_st H rfl 26 rfl _ zero_60 ?_; clear H; intro W gw H; simp only [List.nil_append, List.cons_append] at H))
  try go_frame
  go_loopw [7, 8] (fun u _ wr => ∃ (i : Nat) (D : DS) (own rd : Nat → Prop) (bs : List Bool), u = .int .i64 (i : Int) ∧ i ≤ l.length ∧ Calm D 60 i ∧ Bits D bs ∧
      St NoBlk (rdA p (byteV l)).rd w wr [rdA p (byteV l), dA gd D own rd, blk gw (.cells (boolV bs).toArray 26 (0, 0))]) (fun u _ _ => l.length - (intOf u).toNat)
  case atStart => exact ⟨0, DS.new 60, own, rd, no60, rfl, Nat.zero_le _, ⟨List.length_replicate, rfl, rfl, rfl⟩, Bits.none (fun _ => rfl), H⟩
  case round =>
    obtain ⟨i, D, own, rd, bs, rfl, hi, hc, hbs, H⟩ := hrel
    have HC := Lib.hid hc
    have HB := Lib.hid hbs
    clear hc hbs
    rcases Nat.lt_or_ge i l.length with hlt | hge
    · obtain ⟨ga, offa, rfl, hcell⟩ := rdA_at (H.at 0 rfl) (i := i) (x := .int .u8 (l[i].toNat : Int)) (by simp [byteV, hlt])
      have hii : (i : Int) < (l.length : Int) := by omega
      have hi0 : 0 ≤ (i : Int) := by omega
      have hbl : (l[i].toNat : Int) < 256 := by have := l[i].toNat_lt; omega
      obtain ⟨s, hs⟩ : ∃ s : Nat, ((l[i].toNat : Int)).tmod 60 = (s : Int) ∧ s < 60 := ⟨l[i].toNat % 60, by rw [Int.tmod_eq_emod_of_nonneg (by omega)]; omega, by omega⟩
      obtain ⟨hs1, hs2⟩ := hs
      have hsi : (s : Int) < 60 := by omega
      have hs0 : 0 ≤ (s : Int) := by omega
      have hx : ((UInt8.ofNat i).toNat : Int) = (i : Int) := by rw [UInt8.toNat_ofNat_of_lt' (by show i < 256; omega)]
      have HX := Lib.hid hx
      have HO := Lib.hid (show s < (boolV bs).toArray.size by rw [boolV_size _ _ HB.out.len]; exact hs2)
      have HS := Lib.hid hs2
      have HZ := Lib.hid (show (boolV (bs.set s true)).toArray.size = (boolV no60).toArray.size by rw [boolV_size _ 60 (by rw [List.length_set]; exact HB.out.len), no60_size])
      clear hx hs2
      obtain ⟨q, hq⟩ : ∃ q, (f.toNat : Int).tmod 60 = q := ⟨_, rfl⟩
      by_cases e : (i : Int) = q
      · have be : ((i : Int) == q) = true := by simp [e]
        clear e
        go_wp2_with (first
          | (go_at_call 10; go_loud ((with_reducible refine (full_at _ (UInt8.ofNat i) HX.out _).mono ?_); rintro e W ⟨gf, rfl, hfg, hff, hb⟩; replace H := H.add (Fix.of_below hb NoBlk) (blk gf _) hff (fun k hk => by rw [show k = gf from hk]; exact hfg) (fun k hk => hk.elim); clear hfg hff hb; simp only [List.nil_append, List.cons_append] at H))
          | (go_at_call 9; go_loud ((with_reducible refine (write_calm (H.at 1 rfl) HC.out (by omega) _ s rfl HS.out _ (fullB (UInt8.ofNat i)) (argB_own (fullB_len _) (by omega) (H.at 3 rfl) (H.notown 3 1 rfl rfl (by decide))) (fullB_len _)).mono ?_); rintro e W ⟨rfl, hto⟩; obtain ⟨own1, rd1, H⟩ := DiskTo.step H 1 rfl hto; clear hto; simp only [List.set_cons_zero, List.set_cons_succ] at H))
          | (refine wpList_store1_st H 2 rfl 4 _ _ rfl _ _ (.bool true) rfl rfl rfl _ _ rfl size_bool HO.out ?_; clear H; intro W H; rw [boolV_set] at H; simp only [List.set_cons_zero, List.set_cons_succ] at H)
          | (go_at_call 11; go_loud ((with_reducible refine (flush_calm (H.at 1 rfl) (HC.out.put s _)).mono ?_); rintro e W ⟨rfl, hto⟩; obtain ⟨own2, rd2, H⟩ := DiskTo.step H 1 rfl hto; clear hto; simp only [List.set_cons_zero, List.set_cons_succ] at H))
          | (refine wpList_build0 rfl 26 rfl _ built_60 ?_)
          | (refine wpList_storerow_st H 2 rfl 26 _ _ rfl _ _ rfl rfl _ _ rfl (size_60.trans (congrArg some no60_size.symm)) HZ.out (boolV_all _) ?_; clear H; intro W H; simp only [List.set_cons_zero, List.set_cons_succ] at H))
        replace H := H.take 3
        simp only [List.take_succ_cons, List.take_zero] at H
        go_roundw
        case rel => exact ⟨i + 1, (D.put s (fullB (UInt8.ofNat i))).flushed, _, _, no60, congrArg _ (by omega), by omega, (HC.out.put s _).flushed, Bits.none (fun _ => rfl), H⟩
        case measure => simp [intOf]; omega
      · have be : ((i : Int) == q) = false := by simp [e]
        clear e
        go_wp2_with (first
          | (go_at_call 10; go_loud ((with_reducible refine (full_at _ (UInt8.ofNat i) HX.out _).mono ?_); rintro e W ⟨gf, rfl, hfg, hff, hb⟩; replace H := H.add (Fix.of_below hb NoBlk) (blk gf _) hff (fun k hk => by rw [show k = gf from hk]; exact hfg) (fun k hk => hk.elim); clear hfg hff hb; simp only [List.nil_append, List.cons_append] at H))
          | (go_at_call 9; go_loud ((with_reducible refine (write_calm (H.at 1 rfl) HC.out (by omega) _ s rfl HS.out _ (fullB (UInt8.ofNat i)) (argB_own (fullB_len _) (by omega) (H.at 3 rfl) (H.notown 3 1 rfl rfl (by decide))) (fullB_len _)).mono ?_); rintro e W ⟨rfl, hto⟩; obtain ⟨own1, rd1, H⟩ := DiskTo.step H 1 rfl hto; clear hto; simp only [List.set_cons_zero, List.set_cons_succ] at H))
          | (refine wpList_store1_st H 2 rfl 4 _ _ rfl _ _ (.bool true) rfl rfl rfl _ _ rfl size_bool HO.out ?_; clear H; intro W H; rw [boolV_set] at H; simp only [List.set_cons_zero, List.set_cons_succ] at H)
          | (go_at_call 11; go_loud ((with_reducible refine (flush_calm (H.at 1 rfl) (HC.out.put s _)).mono ?_); rintro e W ⟨rfl, hto⟩; obtain ⟨own2, rd2, H⟩ := DiskTo.step H 1 rfl hto; clear hto; simp only [List.set_cons_zero, List.set_cons_succ] at H))
          | (refine wpList_build0 rfl 26 rfl _ built_60 ?_)
          | (refine wpList_storerow_st H 2 rfl 26 _ _ rfl _ _ rfl rfl _ _ rfl (size_60.trans (congrArg some no60_size.symm)) HZ.out (boolV_all _) ?_; clear H; intro W H; simp only [List.set_cons_zero, List.set_cons_succ] at H))
        replace H := H.take 3
        simp only [List.take_succ_cons, List.take_zero] at H
        go_roundw
        case rel => exact ⟨i + 1, D.put s (fullB (UInt8.ofNat i)), _, _, bs.set s true, congrArg _ (by omega), by omega, HC.out.put s _, HB.out.put s _, H⟩
        case measure => simp [intOf]; omega
    · obtain rfl : i = l.length := by omega
      have hji : ¬ ((l.length : Int) < (l.length : Int)) := by omega
      go_wp2_with (first
        | (go_at_call 12; go_loud ((with_reducible refine (waiting_calls (H.at 1 rfl)).mono ?_); rintro e W ⟨vw, rfl, hrow, hb⟩; obtain ⟨pw, capw, rfl, hw1, hw2⟩ := ownsRow_rd hrow; replace H := H.add (Fix.of_below hb NoBlk) (rdA pw _) hw1 (fun k hk => hk.elim) (fun k hk => .inl (hw2 k hk)); clear hrow hb hw1 hw2; simp only [List.nil_append, List.cons_append] at H)))
      obtain ⟨m, hm⟩ : ∃ m, D.waiting.length = m := ⟨_, rfl⟩
      have HMl := Lib.hid hm
      rw [hm]
      clear hm
      go_loop [10, 11] (fun k u => ∃ s : Nat, u = .int .i64 (s : Int) ∧ s ≤ 60 ∧ k = .int .i64 (D.cnt s : Int)) (fun _ u => 60 - (intOf u).toNat)
      case atStart => exact ⟨0, rfl, by omega, rfl⟩
      case round =>
        obtain ⟨s, rfl, hs, rfl⟩ := hrel
        rcases Nat.lt_or_ge s 60 with hlt | hge
        · have hsi : (s : Int) < 60 := by omega
          have hs0 : 0 ≤ (s : Int) := by omega
          have hb := HB.out.at_ s hlt
          have hcs := D.cnt_succ s
          cases hw : (D.wait s).isSome with
          | false =>
            rw [hw] at hb hcs
            have HV := Lib.hid (show (boolV bs).toArray[s]? = some (.bool false) by simp [boolV, hb])
            have HCS := Lib.hid (show (D.cnt (s + 1) : Int) = (D.cnt s : Int) by rw [hcs]; simp)
            clear hb hcs hw
            go_wp2_with (first | (refine wpList_load1_st rfl 4 _ rfl _ _ rfl _ _ _ (H.at 2 rfl) _ Try.underlying4 rfl _ HV.out ?_))
            go_round
            case rel => exact ⟨s + 1, congrArg _ (by omega), by omega, by rw [HCS.out]⟩
            case measure => simp [intOf]; omega
          | true =>
            obtain ⟨hw1, hw2⟩ := D.waiting_cnt HC.out.len s hlt hw
            rw [hw] at hb hcs
            have HV := Lib.hid (show (boolV bs).toArray[s]? = some (.bool true) by simp [boolV, hb])
            have HCS := Lib.hid (show (D.cnt (s + 1) : Int) = (D.cnt s : Int) + 1 by rw [hcs]; simp)
            rw [HMl.out] at hw2
            obtain ⟨gg, offg, rfl, hcell⟩ := rdA_at (H.at 3 rfl) (i := D.cnt s) (x := .int .i64 (s : Int)) (by simp [hw1])
            clear hb hcs hw hw1
            have hk1 : (D.cnt s : Int) < (m : Int) := by omega
            have hk0 : 0 ≤ (D.cnt s : Int) := by omega
            have hcm : (D.cnt s : Int) ≤ 60 := by have h1 := D.cnt_le s; omega
            have bk : decide ((m : Int) ≤ (D.cnt s : Int)) = false := by simp; omega
            go_wp2_with (first | (refine wpList_load1_st rfl 4 _ rfl _ _ rfl _ _ _ (H.at 2 rfl) _ Try.underlying4 rfl _ HV.out ?_))
            go_round
            case rel => exact ⟨s + 1, congrArg _ (by omega), by omega, by rw [HCS.out]⟩
            case measure => simp [intOf]; omega
        · obtain rfl : s = 60 := by omega
          have hml : D.cnt 60 = m := by rw [← HMl.out, D.waiting_len HC.out.len]
          rw [hml]
          go_wp2
          go_ret
          exact ⟨rfl, H.fix.below⟩

theorem diskWaits_calls (p : Option Addr) (cap : Nat) (l : List UInt8) (f : UInt8) (w : World) (ha : (rdA p (byteV l)).prop w) :
    Calls Try.prog 3 #[.slice p l.length cap, .int .u8 (f.toNat : Int)] w fun e w' => e = .returned (.bool true) ∧ Below w.heap.size w w' := by
  rcases Nat.lt_or_ge 60 l.length with h | h
  · have H := St.nil NoBlk NoBlk w
    have hli : 60 < (l.length : Int) := by omega
    go_enter Try.func3, Try.ntmps3
    go_wp2_with (first | (go_at_call 7; (with_reducible refine (begun_calls _).mono ?_); rintro e W ⟨rfl, hb⟩; replace H := H.stay (Fix.of_below hb _); clear hb))
    go_ret
    exact ⟨rfl, H.fix.below⟩
  · exact diskWaits_short p cap l f w h ha

end Go.Proofs.Ytajlhloapglafaa
