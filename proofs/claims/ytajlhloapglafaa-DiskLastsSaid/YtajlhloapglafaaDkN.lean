/- DiskLasts, walked. -/
import Derived.Test.YtajlhloapglafaaDkM
import Derived.Test.YtajlhloapglafaaRg
import Derived.Deep.CutBlock
namespace Go.Proofs.Ytajlhloapglafaa
open Go.RowKit
set_option linter.unusedSimpArgs false
set_option linter.unusedVariables false
set_option maxRecDepth 4000

/-- A call that begins with what it reads. -/
theorem St.reads_only {w : World} (L : List Asrt) (h : ∀ B ∈ L, B.prop w ∧ ∀ k, ¬ B.own k) : St NoBlk (fun _ => True) w w L :=
  ⟨Fix.refl _ _, fun i A hi => (h A (List.mem_of_getElem? hi)).1, fun i j A B hi hj _ => ⟨fun k hk => absurd hk ((h A (List.mem_of_getElem? hi)).2 k), fun k hk => absurd hk ((h A (List.mem_of_getElem? hi)).2 k), fun k hk => absurd hk ((h B (List.mem_of_getElem? hj)).2 k)⟩,
    fun i A hi k hk => absurd hk ((h A (List.mem_of_getElem? hi)).2 k), fun _ _ _ _ _ => .inr (.inr trivial)⟩

theorem run_write_ok {w : World} {g : Nat} {D : DS} {own rd : Nat → Prop} (hd : DiskIs w g D own rd) {was now : List UInt8} {u : Nat} (h : Run D was now (-1) u) (hb : D.failsB = false) (hu : u < 1000) (z : Int) (s : Nat) (hz : (s : Int) = z) (hs : s < 40) (v : Value) (x : UInt8) (hv : ArgB w own v (fullB x)) :
    Calls Try.prog 9 #[.pointer (some ⟨g, 0, none⟩), .int .i64 z, v] w fun e w' => e = .returned (.int .i64 0) ∧ DiskTo w g own rd (D.wrote s (fullB x)) w' :=
  write_at hd z s hz (by rw [h.len]; exact hs) (by rw [h.dead]; rfl) v (fullB x) hv (fullB_len x) hb (by have := h.writes; omega) rfl

theorem run_write_fail {w : World} {g : Nat} {D : DS} {own rd : Nat → Prop} (hd : DiskIs w g D own rd) {was now : List UInt8} {u : Nat} (h : Run D was now (-1) u) (hb : D.failsB = true) (z : Int) (s : Nat) (hz : (s : Int) = z) (hs : s < 40) (v : Value) (x : UInt8) (hv : ArgB w own v (fullB x)) :
    Calls Try.prog 9 #[.pointer (some ⟨g, 0, none⟩), .int .i64 z, v] w fun e w' => e = .returned (.int .i64 12) ∧ DiskTo w g own rd (D.broke s (fullB x)) w' :=
  write_fail_at hd z s hz (by rw [h.len]; exact hs) (by rw [h.dead]; rfl) v (fullB x) hv (fullB_len x) hb rfl

theorem run_power {w : World} {g : Nat} {D : DS} {own rd : Nat → Prop} (hd : DiskIs w g D own rd) {was now : List UInt8} {torn : Int} {u : Nat} (h : Run D was now torn u) (v : Value) (keep : List Bool) (hv : ArgL w own v (keep.map Value.bool)) :
    Calls Try.prog 16 #[.pointer (some ⟨g, 0, none⟩), v] w fun e w' => e = .returned (.tuple #[]) ∧ DiskTo w g own rd (D.power keep) w' :=
  power_at hd v keep hv (by rw [h.lives]; decide) rfl

theorem zero_40 : (Try.prog.info? 54).bind (·.zero) = some (arrV no40) := by kernel_rfl
theorem size_40 : (Try.prog.info? 54).map (·.size) = some 40 := by kernel_rfl
theorem no40_len : no40.length = 40 := List.length_replicate

theorem byteV_at (l : List UInt8) (i : Nat) (x : UInt8) (h : l[i]? = some x) : (byteV l).toArray[i]? = some (.int .u8 (x.toNat : Int)) := by
  rw [List.getElem?_toArray, byteV_get, h]; rfl

theorem getD_at (l : List UInt8) (i : Nat) (h : i < l.length) : l[i]? = some (l.getD i 0) := by simp [h]

theorem argL_bools {M0 R0 : Nat → Prop} {w0 W : World} {L : List Asrt} (H : St M0 R0 w0 W L) (i j : Nat) {g : Nat} {D : DS} {own rd : Nat → Prop} {p : Option Addr} {xs : List Bool} (hi : L[i]? = some (dA g D own rd)) (hj : L[j]? = some (rdA p (xs.map Value.bool))) (hne : i ≠ j) (cap : Nat) : ArgL W own (.slice p xs.length cap) (xs.map Value.bool) :=
  ⟨⟨p, cap, by rw [List.length_map], H.at j hj, fun k hr ho => (H.apart i j _ _ hi hj hne).2.1 k ho hr⟩⟩

theorem front_at (l : List UInt8) (junk : List Value) (i : Nat) (x : UInt8) (h : l[i]? = some x) : (byteV l ++ junk).toArray[i]? = some (.int .u8 (x.toNat : Int)) := by
  have hi : i < (byteV l).length := by rw [byteV_length]; exact (List.getElem?_eq_some_iff.1 h).1
  rw [List.getElem?_toArray, List.getElem?_append_left hi, byteV_get, h]; rfl

theorem argL_of {M0 R0 : Nat → Prop} {w0 W : World} {L : List Asrt} (H : St M0 R0 w0 W L) (i j : Nat) {g : Nat} {D : DS} {own rd : Nat → Prop} {p : Option Addr} {xs : List Value} (hi : L[i]? = some (dA g D own rd)) (hj : L[j]? = some (rdA p xs)) (hne : i ≠ j) (cap : Nat) : ArgL W own (.slice p xs.length cap) xs :=
  ⟨⟨p, cap, rfl, H.at j hj, fun k hr ho => (H.apart i j _ _ hi hj hne).2.1 k ho hr⟩⟩

set_option maxHeartbeats 8000000 in
theorem diskLasts_short (p0 p1 p2 : Option Addr) (c0 c1 c2 : Nat) (ats aft : List UInt8) (keep : List Bool) (n part : UInt8) (w : World) (hl0 : ats.length ≤ 20) (hl1 : aft.length ≤ 20) (hl2 : keep.length ≤ 40)
    (ha0 : (rdA p0 (byteV ats)).prop w) (ha1 : (rdA p1 (byteV aft)).prop w) (ha2 : (rdA p2 (keep.map Value.bool)).prop w) :
    Calls Try.prog 6 #[.slice p0 ats.length c0, .slice p1 aft.length c1, .slice p2 keep.length c2, .int .u8 (n.toNat : Int), .int .u8 (part.toNat : Int)] w fun e w' => e = .returned (.bool true) ∧ Below w.heap.size w w' := by
  have H := St.reads_only (w := w) [rdA p0 (byteV ats), rdA p1 (byteV aft), rdA p2 (keep.map Value.bool)] (by
    intro B hB
    simp only [List.mem_cons, List.not_mem_nil, or_false] at hB
    rcases hB with rfl | rfl | rfl
    · exact ⟨ha0, fun _ h => h⟩
    · exact ⟨ha1, fun _ h => h⟩
    · exact ⟨ha2, fun _ h => h⟩)
  clear ha0 ha1 ha2
  have hli0 : (ats.length : Int) ≤ 20 := by omega
  have hli1 : (aft.length : Int) ≤ 20 := by omega
  have hli2 : (keep.length : Int) ≤ 40 := by omega
  have hpb : (part.toNat : Int) < 256 := by have := part.toNat_lt; omega
  have hpb0 : 0 ≤ (part.toNat : Int) := by omega
  obtain ⟨m, hm, hm2⟩ : ∃ m : Nat, ((n.toNat : Int)).tmod 30 = (m : Int) ∧ m < 30 := ⟨n.toNat % 30, by rw [Int.tmod_eq_emod_of_nonneg (by omega)]; omega, by omega⟩
  have hmi : (m : Int) < 30 := by omega
  have hmi0 : 0 ≤ (m : Int) := by omega
  have tok1 : True := trivial
  have tok2 : True := trivial
  go_enter Try.func6, Try.ntmps6
  go_wp2_with (first
    | (go_at_call 7; (with_reducible refine (begun_calls _).mono ?_); rintro e W ⟨rfl, hb⟩; replace H := H.stay (Fix.of_below hb _); clear hb)
    | (go_at_call 8; go_loud ((with_reducible refine (new_at 40 40 (by decide) (by omega) (by omega) _).mono ?_); rintro e W ⟨gd, own, rd, rfl, hd, hb, hn⟩; replace H := H.add (Fix.of_below hb NoBlk) (dA gd (DS.new 40) own rd) hd (fun k hk => hn k (.inl hk)) (fun k hk => .inl (hn k (.inr hk))); clear hd hb hn; simp only [List.nil_append, List.cons_append] at H))
    | (have _t := tok1; clear _t; refine wpList_alloc_st H rfl 54 rfl _ zero_40 ?_; clear H tok1; intro W gw H; (try simp only [cells_arrV, List.nil_append, List.cons_append, List.set_cons_zero, List.set_cons_succ] at H))
    | (have _t := tok2; clear _t; refine wpList_alloc_st H rfl 54 rfl _ zero_40 ?_; clear H tok2; intro W gn H; (try simp only [cells_arrV, List.nil_append, List.cons_append, List.set_cons_zero, List.set_cons_succ] at H)))
  try go_frame
  go_loopw [14, 15] (fun u _ wr => ∃ (i : Nat) (D : DS) (own rd : Nat → Prop) (bs : List UInt8), u = .int .i64 (i : Int) ∧ i ≤ ats.length ∧ Calm D 40 i ∧ Fulls D bs ∧ Still D ∧
      St NoBlk (fun _ => True) w wr [rdA p0 (byteV ats), rdA p1 (byteV aft), rdA p2 (keep.map Value.bool), dA gd D own rd, blk gw (.cells (byteV bs).toArray 54 (0, 0)), blk gn (.cells (byteV no40).toArray 54 (0, 0))]) (fun u _ _ => ats.length - (intOf u).toNat)
  case atStart => exact ⟨0, DS.new 40, own, rd, no40, rfl, Nat.zero_le _, ⟨List.length_replicate, rfl, rfl, rfl⟩, Fulls.new, Still.new, H⟩
  case round =>
    obtain ⟨i, D, own, rd, bs, rfl, hi, hc, hbs, hst, H⟩ := hrel
    have HC := Lib.hid hc
    have HB := Lib.hid hbs
    have HT := Lib.hid hst
    clear hc hbs hst
    rcases Nat.lt_or_ge i ats.length with hlt | hge
    · obtain ⟨ga, offa, rfl, hcell⟩ := rdA_at (H.at 0 rfl) (i := i) (x := .int .u8 (ats[i].toNat : Int)) (by simp [byteV, hlt])
      have hii : (i : Int) < (ats.length : Int) := by omega
      have hi0 : 0 ≤ (i : Int) := by omega
      have hbl : (ats[i].toNat : Int) < 256 := by have := ats[i].toNat_lt; omega
      obtain ⟨s, hs1, hs2⟩ : ∃ s : Nat, ((ats[i].toNat : Int)).tmod 40 = (s : Int) ∧ s < 40 := ⟨ats[i].toNat % 40, by rw [Int.tmod_eq_emod_of_nonneg (by omega)]; omega, by omega⟩
      have hsi : (s : Int) < 40 := by omega
      have hs0 : 0 ≤ (s : Int) := by omega
      obtain ⟨x, hx⟩ : ∃ x : UInt8, (x.toNat : Int) = (i : Int) + 1 := ⟨UInt8.ofNat (i + 1), by rw [UInt8.toNat_ofNat_of_lt' (by show i + 1 < 256; omega)]; omega⟩
      have HX := Lib.hid hx
      have HO := Lib.hid (show s < (byteV bs).toArray.size by simp [HB.out.len]; exact hs2)
      have HS := Lib.hid hs2
      have HV := Lib.hid (byteV_at (bs.set s x) s x (by rw [List.getElem?_set_self (by rw [HB.out.len]; exact hs2)]))
      clear hx hs2
      go_wp2_with (first
        | (refine wpList_store1_st H 4 rfl 5 _ _ rfl _ _ (.int .u8 ((i : Int) + 1)) rfl rfl rfl _ _ rfl size_u8 HO.out ?_; clear H; intro W H; rw [← HX.out, byteV_set] at H; simp only [List.set_cons_zero, List.set_cons_succ] at H)
        | (refine wpList_load1_st rfl 5 _ rfl _ _ rfl _ _ _ (H.at 4 rfl) _ Try.underlying5 rfl _ HV.out ?_)
        | (go_at_call 10; go_loud ((with_reducible refine (full_calls x _).mono ?_); rintro e W ⟨gf, rfl, hfg, hff, hb⟩; replace H := H.add (Fix.of_below hb NoBlk) (blk gf _) hff (fun k hk => by rw [show k = gf from hk]; exact hfg) (fun k hk => hk.elim); clear hfg hff hb; simp only [List.nil_append, List.cons_append] at H))
        | (go_at_call 9; go_loud ((with_reducible refine (write_calm (H.at 3 rfl) HC.out (by omega) _ s rfl HS.out _ (fullB x) (argB_own (fullB_len _) (by omega) (H.at 6 rfl) (H.notown 6 3 rfl rfl (by decide))) (fullB_len _)).mono ?_); rintro e W ⟨rfl, hto⟩; obtain ⟨own1, rd1, H⟩ := DiskTo.step H 3 rfl hto; clear hto; simp only [List.set_cons_zero, List.set_cons_succ] at H)))
      replace H := H.take 6
      simp only [List.take_succ_cons, List.take_zero] at H
      go_roundw
      case rel => exact ⟨i + 1, D.put s (fullB x), _, _, bs.set s x, congrArg _ (by omega), by omega, HC.out.put s _, HB.out.put s HS.out x, HT.out.put s _, H⟩
      case measure => simp [intOf]; omega
    · obtain rfl : i = ats.length := by omega
      have hji : ¬ ((ats.length : Int) < (ats.length : Int)) := by omega
      go_upto_block 2 with (first
        | (go_at_call 11; go_loud ((with_reducible refine (flush_calm (H.at 3 rfl) HC.out).mono ?_); rintro e W ⟨rfl, hto⟩; obtain ⟨own1, rd1, H⟩ := DiskTo.step H 3 rfl hto; clear hto; simp only [List.set_cons_zero, List.set_cons_succ] at H))
        | (refine wpList_loadarr_st rfl 54 _ rfl _ rfl _ _ _ (H.at 4 rfl) _ Try.underlying54 rfl _ size_40 HB.out.len ?_)
        | (refine wpList_storearr_st H 5 rfl 54 _ _ rfl _ _ rfl rfl _ _ rfl _ size_40 no40_len HB.out.len ?_; clear H; intro W H; (try simp only [cells_arrV, List.nil_append, List.cons_append, List.set_cons_zero, List.set_cons_succ] at H))
        | (go_at_call 13; go_loud ((with_reducible refine (arm_at (H.at 3 rfl) (m : Int) (part.toNat : Int) (by omega) (by omega) rfl).mono ?_); rintro e W ⟨rfl, hto⟩; obtain ⟨own2, rd2, H⟩ := DiskTo.step H 3 rfl hto; clear hto; simp only [List.set_cons_zero, List.set_cons_succ] at H)))
      have HR0 := Lib.hid (Run.start HC.out HB.out HT.out (m : Int) (part.toNat : Int) ⟨hpb0, hpb⟩)
      have HU := Lib.hid hl0
      generalize hD : DS.arm _ _ _ = D2 at H
      rw [hD] at HR0
      clear hD HC HB HT
      have HWL := Lib.hid HR0.out.wl
      go_cut [16, 17, 18] from 78 (fun t _ _ wx => ∃ (D : DS) (own rd : Nat → Prop) (now : List UInt8) (torn : Int), t = .int .i64 torn ∧ Run D bs now torn 40 ∧
          St NoBlk (fun _ => True) w wx [rdA p0 (byteV ats), rdA p1 (byteV aft), rdA p2 (keep.map Value.bool), dA gd D own rd, blk gw (.cells (byteV bs).toArray 54 (0, 0)), blk gn (.cells (byteV now).toArray 54 (0, 0))])
      case first =>
        go_wp2_with fail
        go_loopw [16, 17, 18] (fun t u _ wr => ∃ (i : Nat) (D : DS) (own rd : Nat → Prop) (now : List UInt8) (torn : Int), t = .int .i64 torn ∧ u = .int .i64 (i : Int) ∧ i ≤ aft.length ∧ Run D bs now torn (20 + i) ∧
            St NoBlk (fun _ => True) w wr [rdA p0 (byteV ats), rdA p1 (byteV aft), rdA p2 (keep.map Value.bool), dA gd D own rd, blk gw (.cells (byteV bs).toArray 54 (0, 0)), blk gn (.cells (byteV now).toArray 54 (0, 0))]) (fun _ u _ _ => aft.length - (intOf u).toNat)
        case atStart => exact ⟨0, D2, own2, rd2, bs, -1, rfl, rfl, Nat.zero_le _, HR0.out.more (by omega), H⟩
        case round =>
          obtain ⟨i, D, own, rd, now, torn, rfl, rfl, hi, hr, H⟩ := hrel
          have HRn := Lib.hid hr
          clear hr
          by_cases hgo : i < aft.length ∧ torn = -1
          · obtain ⟨hlt, rfl⟩ := hgo
            obtain ⟨ga, offa, rfl, hcell⟩ := rdA_at (H.at 1 rfl) (i := i) (x := .int .u8 (aft[i].toNat : Int)) (by simp [byteV, hlt])
            have hii : (i : Int) < (aft.length : Int) := by omega
            have hi0 : 0 ≤ (i : Int) := by omega
            have hbl : (aft[i].toNat : Int) < 256 := by have := aft[i].toNat_lt; omega
            obtain ⟨s, hs1, hs2⟩ : ∃ s : Nat, ((aft[i].toNat : Int)).tmod 40 = (s : Int) ∧ s < 40 := ⟨aft[i].toNat % 40, by rw [Int.tmod_eq_emod_of_nonneg (by omega)]; omega, by omega⟩
            have hsi : (s : Int) < 40 := by omega
            have hs0 : 0 ≤ (s : Int) := by omega
            obtain ⟨x, hx⟩ : ∃ x : UInt8, (x.toNat : Int) = 100 + (i : Int) := ⟨UInt8.ofNat (100 + i), by rw [UInt8.toNat_ofNat_of_lt' (by show 100 + i < 256; omega)]; omega⟩
            have HX := Lib.hid hx
            have HO := Lib.hid (show s < (byteV now).toArray.size by simp [HRn.out.nl]; exact hs2)
            have HS := Lib.hid hs2
            have HI := Lib.hid (show 20 + i < 1000 by omega)
            clear hx hs2
            cases hfb : D.failsB
            · have HFB := Lib.hid hfb
              clear hfb
              go_wp2_with (first
                | (go_at_call 10; go_loud ((with_reducible refine (full_at _ x HX.out _).mono ?_); rintro e W ⟨gf, rfl, hfg, hff, hb⟩; replace H := H.add (Fix.of_below hb NoBlk) (blk gf _) hff (fun k hk => by rw [show k = gf from hk]; exact hfg) (fun k hk => hk.elim); clear hfg hff hb; simp only [List.nil_append, List.cons_append] at H))
                | (go_at_call 9; go_loud ((with_reducible refine (run_write_ok (H.at 3 rfl) HRn.out HFB.out HI.out _ s rfl HS.out _ x (argB_own (fullB_len _) (by omega) (H.at 6 rfl) (H.notown 6 3 rfl rfl (by decide)))).mono ?_); rintro e W ⟨rfl, hto⟩; obtain ⟨own1, rd1, H⟩ := DiskTo.step H 3 rfl hto; clear hto; simp only [List.set_cons_zero, List.set_cons_succ] at H))
                | (refine wpList_store1_st H 5 rfl 5 _ _ rfl _ _ (.int .u8 (100 + (i : Int))) rfl rfl rfl _ _ rfl size_u8 HO.out ?_; clear H; intro W H; rw [← HX.out, byteV_set] at H; simp only [List.set_cons_zero, List.set_cons_succ] at H))
              replace H := H.take 6
              simp only [List.take_succ_cons, List.take_zero] at H
              (try simp only [Act.put])
              go_roundw
              case rel => exact ⟨i + 1, D.wrote s (fullB x), _, _, now.set s x, -1, rfl, congrArg _ (by omega), by omega, HRn.out.ok HFB.out s HS.out x, H⟩
              case measure => simp [intOf]; omega
            · have HFB := Lib.hid hfb
              clear hfb
              go_wp2_with (first
                | (go_at_call 10; go_loud ((with_reducible refine (full_at _ x HX.out _).mono ?_); rintro e W ⟨gf, rfl, hfg, hff, hb⟩; replace H := H.add (Fix.of_below hb NoBlk) (blk gf _) hff (fun k hk => by rw [show k = gf from hk]; exact hfg) (fun k hk => hk.elim); clear hfg hff hb; simp only [List.nil_append, List.cons_append] at H))
                | (go_at_call 9; go_loud ((with_reducible refine (run_write_fail (H.at 3 rfl) HRn.out HFB.out _ s rfl HS.out _ x (argB_own (fullB_len _) (by omega) (H.at 6 rfl) (H.notown 6 3 rfl rfl (by decide)))).mono ?_); rintro e W ⟨rfl, hto⟩; obtain ⟨own1, rd1, H⟩ := DiskTo.step H 3 rfl hto; clear hto; simp only [List.set_cons_zero, List.set_cons_succ] at H)))
              replace H := H.take 6
              simp only [List.take_succ_cons, List.take_zero] at H
              go_roundw
              case rel => exact ⟨i + 1, D.broke s (fullB x), _, _, now, (s : Int), rfl, congrArg _ (by omega), by omega, (HRn.out.fail HFB.out s HS.out x).more (by omega), H⟩
              case measure => simp [intOf]; omega
          · have hend : ¬ ((i : Int) < (aft.length : Int) ∧ torn < 0) := by have := HRn.out.lo; omega
            have hex : (¬ ((i : Int) < (aft.length : Int))) ∨ ((i : Int) < (aft.length : Int) ∧ ¬ (torn < 0)) := by omega
            clear hend hgo
            rcases hex with hex | ⟨hex, hex2⟩
            all_goals
              go_wp2_with fail
              go_meet
              case rel => exact ⟨D, own, rd, now, torn, rfl, HRn.out.more (by omega), H⟩
      case rest =>
        obtain ⟨D, own, rd, now, torn, rfl, hr, H⟩ := hcut
        have HRn := Lib.hid hr
        clear hr
        go_wp2_with (first
          | (go_at_call 16; go_loud ((with_reducible refine (run_power (H.at 3 rfl) HRn.out _ keep (argL_bools H 3 2 rfl rfl (by decide) c2)).mono ?_); rintro e W ⟨rfl, hto⟩; obtain ⟨own1, rd1, H⟩ := DiskTo.step H 3 rfl hto; clear hto; simp only [List.set_cons_zero, List.set_cons_succ] at H)))
        have HL := Lib.hid (HRn.out.power keep)
        have HLl := Lib.hid HL.out.len
        have HLd := Lib.hid HL.out.dead
        generalize D.power keep = D3 at *
        go_loopw [19, 20, 21, 22] (fun u _ _ _ wr => ∃ (k : Nat), u = .int .i64 (k : Int) ∧ k ≤ 40 ∧
          St NoBlk (fun _ => True) w wr [rdA p0 (byteV ats), rdA p1 (byteV aft), rdA p2 (keep.map Value.bool), dA gd D3 own1 rd1, blk gw (.cells (byteV bs).toArray 54 (0, 0)), blk gn (.cells (byteV now).toArray 54 (0, 0))]) (fun u _ _ _ _ => 40 - (intOf u).toNat)
        case atStart => exact ⟨0, rfl, by omega, H⟩
        case round =>
          obtain ⟨k, rfl, hk, H⟩ := hrel
          rcases Nat.lt_or_ge k 40 with hlt | hge
          · have hki : (k : Int) < 40 := by omega
            have hk0 : 0 ≤ (k : Int) := by omega
            obtain ⟨l, hl⟩ : ∃ l, D3.sect k = l := ⟨_, rfl⟩
            have HSl := Lib.hid hl
            have HK := Lib.hid (show k < D3.last.length by rw [HL.out.len]; exact hlt)
            have HWa := Lib.hid (byteV_at bs k (bs.getD k 0) (getD_at bs k (by rw [HL.out.wl]; exact hlt)))
            have HNa := Lib.hid (byteV_at now k (now.getD k 0) (getD_at now k (by rw [HL.out.nl]; exact hlt)))
            by_cases hkt : (k : Int) = torn
            · subst hkt
              have hcut := HL.out.cut k hlt rfl
              rw [hl] at hcut
              clear hl hlt
              generalize bs.getD k 0 = a at *
              generalize now.getD k 0 = b at *
              have HCu := Lib.hid hcut
              clear hcut
              go_wp2_with (first
                | (go_at_call 15; go_loud ((with_reducible refine (read_at (H.at 3 rfl) _ k rfl HK.out HLd.out HSl.out).mono ?_); rintro e W ⟨ga, capa, junka, rfl, hl2, ha2, hag, hac, hbl⟩; replace H := H.add (Fix.of_below hbl _) (blk ga _) hac (fun k hk => by rw [show k = ga from hk]; exact hag) (fun k hk => hk.elim); clear hac hag hbl; simp only [List.nil_append, List.cons_append] at H)))
              refine wp_region_held_drew (S := fun _ => True) (by kernel_rfl) trivial (fun hHeld => ?_)
              (refine wpAnyH_take (i := 0) (v := ?_) rfl (by kernel_rfl) (by kernel_rfl) (by kernel_rfl) (fun _ _ _ h => h) (Or.inl ⟨by rfl, ?_⟩) (by assumption) ?_; rotate_left; focus (intro w hSw; (try dsimp only at hSw); go_simp; all_goals (with_reducible rfl))); (try simp only [Act.put, List.setIfInBounds_toArray, List.set_cons_zero, List.set_cons_succ, List.getElem_toArray, List.getElem_cons_succ, List.getElem_cons_zero])
              (refine wpAnyH_take (i := 1) (v := ?_) rfl (by kernel_rfl) (by kernel_rfl) (by kernel_rfl) (fun _ _ _ h => h) (Or.inl ⟨by rfl, ?_⟩) (by assumption) ?_; rotate_left; focus (intro w hSw; (try dsimp only at hSw); go_simp; all_goals (with_reducible rfl))); (try simp only [Act.put, List.setIfInBounds_toArray, List.set_cons_zero, List.set_cons_succ, List.getElem_toArray, List.getElem_cons_succ, List.getElem_cons_zero])
              (refine wpAnyH_take (i := 2) (v := ?_) rfl (by kernel_rfl) (by kernel_rfl) (by kernel_rfl) (fun _ _ _ h => h) (Or.inl ⟨by rfl, ?_⟩) (by assumption) ?_; rotate_left; focus (intro w hSw; (try dsimp only at hSw); go_simp; all_goals (with_reducible rfl))); (try simp only [Act.put, List.setIfInBounds_toArray, List.set_cons_zero, List.set_cons_succ, List.getElem_toArray, List.getElem_cons_succ, List.getElem_cons_zero])
              (refine wpAnyH_take (i := 3) (v := ?_) rfl (by kernel_rfl) (by kernel_rfl) (by kernel_rfl) (fun _ _ _ h => h) (Or.inl ⟨by rfl, ?_⟩) (by assumption) ?_; rotate_left; focus (intro w hSw; (try dsimp only at hSw); go_simp; all_goals (with_reducible rfl))); (try simp only [Act.put, List.setIfInBounds_toArray, List.set_cons_zero, List.set_cons_succ, List.getElem_toArray, List.getElem_cons_succ, List.getElem_cons_zero])
              (refine wpAnyH_take (i := 4) (v := undef) rfl (by kernel_rfl) (by kernel_rfl) (by kernel_rfl) (fun _ _ _ h => h) (Or.inr ⟨by rfl, rfl⟩) (by assumption) ?_); (try simp only [Act.put, List.setIfInBounds_toArray, List.set_cons_zero, List.set_cons_succ, List.getElem_toArray, List.getElem_cons_succ, List.getElem_cons_zero])
              (refine wpAnyH_take (i := 5) (v := undef) rfl (by kernel_rfl) (by kernel_rfl) (by kernel_rfl) (fun _ _ _ h => h) (Or.inr ⟨by rfl, rfl⟩) (by assumption) ?_); (try simp only [Act.put, List.setIfInBounds_toArray, List.set_cons_zero, List.set_cons_succ, List.getElem_toArray, List.getElem_cons_succ, List.getElem_cons_zero])
              (refine wpAnyH_take (i := 6) (v := undef) rfl (by kernel_rfl) (by kernel_rfl) (by kernel_rfl) (fun _ _ _ h => h) (Or.inr ⟨by rfl, rfl⟩) (by assumption) ?_); (try simp only [Act.put, List.setIfInBounds_toArray, List.set_cons_zero, List.set_cons_succ, List.getElem_toArray, List.getElem_cons_succ, List.getElem_cons_zero])
              (refine wpAnyH_take (i := 7) (v := undef) rfl (by kernel_rfl) (by kernel_rfl) (by kernel_rfl) (fun _ _ _ h => h) (Or.inr ⟨by rfl, rfl⟩) (by assumption) ?_); (try simp only [Act.put, List.setIfInBounds_toArray, List.set_cons_zero, List.set_cons_succ, List.getElem_toArray, List.getElem_cons_succ, List.getElem_cons_zero])
              (refine wpAnyH_take (i := 8) (v := undef) rfl (by kernel_rfl) (by kernel_rfl) (by kernel_rfl) (fun _ _ _ h => h) (Or.inr ⟨by rfl, rfl⟩) (by assumption) ?_); (try simp only [Act.put, List.setIfInBounds_toArray, List.set_cons_zero, List.set_cons_succ, List.getElem_toArray, List.getElem_cons_succ, List.getElem_cons_zero])
              (refine wpAnyH_take (i := 9) (v := undef) rfl (by kernel_rfl) (by kernel_rfl) (by kernel_rfl) (fun _ _ _ h => h) (Or.inr ⟨by rfl, rfl⟩) (by assumption) ?_); (try simp only [Act.put, List.setIfInBounds_toArray, List.set_cons_zero, List.set_cons_succ, List.getElem_toArray, List.getElem_cons_succ, List.getElem_cons_zero])
              (refine wpAnyH_take (i := 10) (v := undef) rfl (by kernel_rfl) (by kernel_rfl) (by kernel_rfl) (fun _ _ _ h => h) (Or.inr ⟨by rfl, rfl⟩) (by assumption) ?_); (try simp only [Act.put, List.setIfInBounds_toArray, List.set_cons_zero, List.set_cons_succ, List.getElem_toArray, List.getElem_cons_succ, List.getElem_cons_zero])
              (refine wpAnyH_take (i := 11) (v := undef) rfl (by kernel_rfl) (by kernel_rfl) (by kernel_rfl) (fun _ _ _ h => h) (Or.inr ⟨by rfl, rfl⟩) (by assumption) ?_); (try simp only [Act.put, List.setIfInBounds_toArray, List.set_cons_zero, List.set_cons_succ, List.getElem_toArray, List.getElem_cons_succ, List.getElem_cons_zero])
              (refine wpAnyH_take (i := 12) (v := ?_) rfl (by kernel_rfl) (by kernel_rfl) (by kernel_rfl) (fun _ _ _ h => h) (Or.inl ⟨by rfl, ?_⟩) (by assumption) ?_; rotate_left; focus (intro w hSw; (try dsimp only at hSw); go_simp; all_goals (with_reducible rfl))); (try simp only [Act.put, List.setIfInBounds_toArray, List.set_cons_zero, List.set_cons_succ, List.getElem_toArray, List.getElem_cons_succ, List.getElem_cons_zero])
              (refine wpAnyH_take (i := 13) (v := ?_) rfl (by kernel_rfl) (by kernel_rfl) (by kernel_rfl) (fun _ _ _ h => h) (Or.inl ⟨by rfl, ?_⟩) (by assumption) ?_; rotate_left; focus (intro w hSw; (try dsimp only at hSw); go_simp; all_goals (with_reducible rfl))); (try simp only [Act.put, List.setIfInBounds_toArray, List.set_cons_zero, List.set_cons_succ, List.getElem_toArray, List.getElem_cons_succ, List.getElem_cons_zero])
              (refine wpAnyH_take (i := 14) (v := undef) rfl (by kernel_rfl) (by kernel_rfl) (by kernel_rfl) (fun _ _ _ h => h) (Or.inr ⟨by rfl, rfl⟩) (by assumption) ?_); (try simp only [Act.put, List.setIfInBounds_toArray, List.set_cons_zero, List.set_cons_succ, List.getElem_toArray, List.getElem_cons_succ, List.getElem_cons_zero])
              (refine wpAnyH_take (i := 15) (v := undef) rfl (by kernel_rfl) (by kernel_rfl) (by kernel_rfl) (fun _ _ _ h => h) (Or.inr ⟨by rfl, rfl⟩) (by assumption) ?_); (try simp only [Act.put, List.setIfInBounds_toArray, List.set_cons_zero, List.set_cons_succ, List.getElem_toArray, List.getElem_cons_succ, List.getElem_cons_zero])
              (refine wpAnyH_take (i := 16) (v := undef) rfl (by kernel_rfl) (by kernel_rfl) (by kernel_rfl) (fun _ _ _ h => h) (Or.inr ⟨by rfl, rfl⟩) (by assumption) ?_); (try simp only [Act.put, List.setIfInBounds_toArray, List.set_cons_zero, List.set_cons_succ, List.getElem_toArray, List.getElem_cons_succ, List.getElem_cons_zero])
              (refine wpAnyH_take (i := 17) (v := undef) rfl (by kernel_rfl) (by kernel_rfl) (by kernel_rfl) (fun _ _ _ h => h) (Or.inr ⟨by rfl, rfl⟩) (by assumption) ?_); (try simp only [Act.put, List.setIfInBounds_toArray, List.set_cons_zero, List.set_cons_succ, List.getElem_toArray, List.getElem_cons_succ, List.getElem_cons_zero])
              (refine wpAnyH_take (i := 18) (v := undef) rfl (by kernel_rfl) (by kernel_rfl) (by kernel_rfl) (fun _ _ _ h => h) (Or.inr ⟨by rfl, rfl⟩) (by assumption) ?_); (try simp only [Act.put, List.setIfInBounds_toArray, List.set_cons_zero, List.set_cons_succ, List.getElem_toArray, List.getElem_cons_succ, List.getElem_cons_zero])
              (refine wpAnyH_take (i := 19) (v := undef) rfl (by kernel_rfl) (by kernel_rfl) (by kernel_rfl) (fun _ _ _ h => h) (Or.inr ⟨by rfl, rfl⟩) (by assumption) ?_); (try simp only [Act.put, List.setIfInBounds_toArray, List.set_cons_zero, List.set_cons_succ, List.getElem_toArray, List.getElem_cons_succ, List.getElem_cons_zero])
              (refine wpAnyH_take (i := 20) (v := undef) rfl (by kernel_rfl) (by kernel_rfl) (by kernel_rfl) (fun _ _ _ h => h) (Or.inr ⟨by rfl, rfl⟩) (by assumption) ?_); (try simp only [Act.put, List.setIfInBounds_toArray, List.set_cons_zero, List.set_cons_succ, List.getElem_toArray, List.getElem_cons_succ, List.getElem_cons_zero])
              (refine wpAnyH_take (i := 21) (v := undef) rfl (by kernel_rfl) (by kernel_rfl) (by kernel_rfl) (fun _ _ _ h => h) (Or.inr ⟨by rfl, rfl⟩) (by assumption) ?_); (try simp only [Act.put, List.setIfInBounds_toArray, List.set_cons_zero, List.set_cons_succ, List.getElem_toArray, List.getElem_cons_succ, List.getElem_cons_zero])
              (refine wpAnyH_take (i := 22) (v := ?_) rfl (by kernel_rfl) (by kernel_rfl) (by kernel_rfl) (fun _ _ _ h => h) (Or.inl ⟨by rfl, ?_⟩) (by assumption) ?_; rotate_left; focus (intro w hSw; (try dsimp only at hSw); go_simp; all_goals (with_reducible rfl))); (try simp only [Act.put, List.setIfInBounds_toArray, List.set_cons_zero, List.set_cons_succ, List.getElem_toArray, List.getElem_cons_succ, List.getElem_cons_zero])
              (refine wpAnyH_done (by kernel_rfl) ?_ _)
              replace H := H.drew
              rcases HCu.out with hcut | hcut
              · have HX := Lib.hid (front_at l junka 255 a hcut)
                clear hcut
                go_wp2_with (first | (refine wpList_load1_st rfl 5 _ rfl _ _ rfl _ _ _ (H.at 6 rfl) _ Try.underlying5 rfl _ HX.out ?_) | (refine wpList_load1_st rfl 5 _ rfl _ _ rfl _ _ _ (H.at 4 rfl) _ Try.underlying5 rfl _ HWa.out ?_) | (refine wpList_load1_st rfl 5 _ rfl _ _ rfl _ _ _ (H.at 5 rfl) _ Try.underlying5 rfl _ HNa.out ?_))
                replace H := H.take 6
                simp only [List.take_succ_cons, List.take_zero] at H
                go_roundw
                case rel => exact ⟨k + 1, congrArg _ (by omega), by omega, H⟩
                case measure => simp [intOf]; omega
              · have HX := Lib.hid (front_at l junka 255 b hcut)
                clear hcut
                obtain ⟨c, hc⟩ : ∃ c, ((b.toNat : Int) != (a.toNat : Int)) = c := ⟨_, rfl⟩
                cases c
                all_goals
                  go_wp2_with (first | (refine wpList_load1_st rfl 5 _ rfl _ _ rfl _ _ _ (H.at 6 rfl) _ Try.underlying5 rfl _ HX.out ?_) | (refine wpList_load1_st rfl 5 _ rfl _ _ rfl _ _ _ (H.at 4 rfl) _ Try.underlying5 rfl _ HWa.out ?_) | (refine wpList_load1_st rfl 5 _ rfl _ _ rfl _ _ _ (H.at 5 rfl) _ Try.underlying5 rfl _ HNa.out ?_))
                  replace H := H.take 6
                  simp only [List.take_succ_cons, List.take_zero] at H
                  go_roundw
                  case rel => exact ⟨k + 1, congrArg _ (by omega), by omega, H⟩
                  case measure => simp [intOf]; omega
            · have hwh := HL.out.whole k hlt hkt
              have hkb : ((k : Int) == torn) = false := beq_eq_false_iff_ne.2 hkt
              have hkn : ((k : Int) != torn) = true := by simp [bne, hkb]
              rw [hl] at hwh
              clear hl hlt
              generalize bs.getD k 0 = a at *
              generalize now.getD k 0 = b at *
              by_cases hla : l = fullB a
              · subst hla
                clear hwh
                go_wp2_with (first
                  | (go_at_call 15; go_loud ((with_reducible refine (read_at (H.at 3 rfl) _ k rfl HK.out HLd.out HSl.out).mono ?_); rintro e W ⟨ga, capa, junka, rfl, hl2, ha2, hag, hac, hbl⟩; replace H := H.add (Fix.of_below hbl _) (blk ga _) hac (fun k hk => by rw [show k = ga from hk]; exact hag) (fun k hk => hk.elim); clear hac hag hbl; simp only [List.nil_append, List.cons_append] at H)))
                replace H := H.drew
                refine wp_region_held_drew (S := fun w' => BytesAt w' ga 0 (fullB a) ∧ w'.cell? ⟨gw, k, none⟩ = some (.int .u8 (a.toNat : Int)) ∧ w'.cell? ⟨gn, k, none⟩ = some (.int .u8 (b.toNat : Int))) (by kernel_rfl) ⟨BytesAt.front (H.at 6 rfl), row_cell (H.at 4 rfl) HWa.out, row_cell (H.at 5 rfl) HNa.out⟩ (fun hHeld => ?_)
                (refine wpAnyH_take (i := 0) (v := ?_) rfl (by kernel_rfl) (by kernel_rfl) (by kernel_rfl) (fun _ _ _ h => h) (Or.inl ⟨by rfl, ?_⟩) (by assumption) ?_; rotate_left; focus (intro w hSw; (try dsimp only at hSw); go_simp; all_goals (with_reducible rfl))); (try simp only [Act.put, List.setIfInBounds_toArray, List.set_cons_zero, List.set_cons_succ, List.getElem_toArray, List.getElem_cons_succ, List.getElem_cons_zero])
                (refine wpAnyH_take (i := 1) (v := ?_) rfl (by kernel_rfl) (by kernel_rfl) (by kernel_rfl) (fun _ _ _ h => h) (Or.inl ⟨by rfl, ?_⟩) (by assumption) ?_; rotate_left; focus (intro w hSw; (try dsimp only at hSw); go_simp; all_goals (with_reducible rfl))); (try simp only [Act.put, List.setIfInBounds_toArray, List.set_cons_zero, List.set_cons_succ, List.getElem_toArray, List.getElem_cons_succ, List.getElem_cons_zero])
                (refine wpAnyH_take (i := 2) (v := ?_) rfl (by kernel_rfl) (by kernel_rfl) (by kernel_rfl) (fun _ _ _ h => h) (Or.inl ⟨by rfl, ?_⟩) (by assumption) ?_; rotate_left; focus (intro w hSw; (try dsimp only at hSw); go_simp; all_goals (with_reducible rfl))); (try simp only [Act.put, List.setIfInBounds_toArray, List.set_cons_zero, List.set_cons_succ, List.getElem_toArray, List.getElem_cons_succ, List.getElem_cons_zero])
                (refine wpAnyH_take (i := 3) (v := ?_) rfl (by kernel_rfl) (by kernel_rfl) (by kernel_rfl) (fun _ _ _ h => h) (Or.inl ⟨by rfl, ?_⟩) (by assumption) ?_; rotate_left; focus (intro w hSw; (try dsimp only at hSw); go_simp; all_goals (with_reducible rfl))); (try simp only [Act.put, List.setIfInBounds_toArray, List.set_cons_zero, List.set_cons_succ, List.getElem_toArray, List.getElem_cons_succ, List.getElem_cons_zero])
                (refine wpAnyH_take (i := 4) (v := ?_) rfl (by kernel_rfl) (by kernel_rfl) (by kernel_rfl) (fun _ _ _ h => h) (Or.inl ⟨by rfl, ?_⟩) (by assumption) ?_; rotate_left; focus (intro w hSw; (try dsimp only at hSw); go_simp; all_goals (with_reducible rfl))); (try simp only [Act.put, List.setIfInBounds_toArray, List.set_cons_zero, List.set_cons_succ, List.getElem_toArray, List.getElem_cons_succ, List.getElem_cons_zero])
                (refine wpAnyH_take (i := 5) rfl (by kernel_rfl) (by kernel_rfl) (by kernel_rfl) (fun _ _ _ h => h) (yieldsIf_bytes_str (by rfl) 22 9 _ rfl _ _ _ _ (by rfl) 5 Try.underlying22 Try.underlying5 Try.underlying9 (fullB a) (fullB_len _).symm (fun w h => h.1)) (by assumption) ?_); (try simp only [Act.put, List.setIfInBounds_toArray, List.set_cons_zero, List.set_cons_succ, List.getElem_toArray, List.getElem_cons_succ, List.getElem_cons_zero])
                (refine wpAnyH_take (i := 6) (v := ?_) rfl (by kernel_rfl) (by kernel_rfl) (by kernel_rfl) (fun _ _ _ h => h) (Or.inl ⟨by rfl, ?_⟩) (by assumption) ?_; rotate_left; focus (intro w hSw; (try dsimp only at hSw); go_simp; all_goals (with_reducible rfl))); (try simp only [Act.put, List.setIfInBounds_toArray, List.set_cons_zero, List.set_cons_succ, List.getElem_toArray, List.getElem_cons_succ, List.getElem_cons_zero])
                (refine wpAnyH_take (i := 7) (v := ?_) rfl (by kernel_rfl) (by kernel_rfl) (by kernel_rfl) (fun _ _ _ h => h) (Or.inl ⟨by rfl, ?_⟩) (by assumption) ?_; rotate_left; focus (intro w hSw; (try dsimp only at hSw); go_simp; all_goals (with_reducible rfl))); (try simp only [Act.put, List.setIfInBounds_toArray, List.set_cons_zero, List.set_cons_succ, List.getElem_toArray, List.getElem_cons_succ, List.getElem_cons_zero])
                (refine wpAnyH_take (i := 8) rfl (by kernel_rfl) (by kernel_rfl) (by kernel_rfl) (fun _ _ _ h => h) (yieldsIf_load1 (by rfl) 5 _ rfl _ _ (by rfl) _ Try.underlying5 rfl _ (fun w h => h.2.1)) (by assumption) ?_); (try simp only [Act.put, List.setIfInBounds_toArray, List.set_cons_zero, List.set_cons_succ, List.getElem_toArray, List.getElem_cons_succ, List.getElem_cons_zero])
                (refine wpAnyH_ready (rs := [9]) (by kernel_rfl) (by simp) (AllReadyH.cons rfl (fun K hK => ?_) AllReadyH.nil)); (rw [if_pos (by rfl)]); (go_simp; go_at_call 10; (with_reducible refine (full_calls a _).mono ?_); rintro e W ⟨gf, rfl, hfg, hff, hb⟩; replace H := H.add (Fix.of_below hb _) (blk gf _) hff (fun k hk => by rw [show k = gf from hk]; exact hfg) (fun k hk => hk.elim); clear hfg hff hb; simp only [List.nil_append, List.cons_append] at H; (try go_wp2_with fail); refine hK.out _ _ ⟨BytesAt.front (H.at 6 rfl), row_cell (H.at 4 rfl) HWa.out, row_cell (H.at 5 rfl) HNa.out⟩ (fun hHeld => ?_); clear hK K); (try simp only [Act.put, List.setIfInBounds_toArray, List.set_cons_zero, List.set_cons_succ, List.getElem_toArray, List.getElem_cons_succ, List.getElem_cons_zero])
                (refine wpAnyH_ready (rs := [10]) (by kernel_rfl) (by simp) (AllReadyH.cons rfl (fun K hK => ?_) AllReadyH.nil)); (rw [if_pos (by rfl)]); (refine wp_bytes_str 22 9 _ rfl _ _ _ _ (by rfl) 5 Try.underlying22 Try.underlying5 Try.underlying9 (fullB a) (BytesAt.whole (H.at 7 rfl)) (fullB_len _).symm ?_; refine hK.out _ _ ⟨BytesAt.front (H.at 6 rfl), row_cell (H.at 4 rfl) HWa.out, row_cell (H.at 5 rfl) HNa.out⟩ (fun hHeld => ?_); clear hK K); (try simp only [Act.put, List.setIfInBounds_toArray, List.set_cons_zero, List.set_cons_succ, List.getElem_toArray, List.getElem_cons_succ, List.getElem_cons_zero])
                (refine wpAnyH_take (i := 11) (v := ?_) rfl (by kernel_rfl) (by kernel_rfl) (by kernel_rfl) (fun _ _ _ h => h) (Or.inl ⟨by rfl, ?_⟩) (by assumption) ?_; rotate_left; focus (intro w hSw; (try dsimp only at hSw); go_simp; all_goals (with_reducible rfl))); (try simp only [Act.put, List.setIfInBounds_toArray, List.set_cons_zero, List.set_cons_succ, List.getElem_toArray, List.getElem_cons_succ, List.getElem_cons_zero])
                (refine wpAnyH_take (i := 12) (v := ?_) rfl (by kernel_rfl) (by kernel_rfl) (by kernel_rfl) (fun _ _ _ h => h) (Or.inl ⟨by rfl, ?_⟩) (by assumption) ?_; rotate_left; focus (intro w hSw; (try dsimp only at hSw); go_simp; all_goals (with_reducible rfl))); (try simp only [Act.put, List.setIfInBounds_toArray, List.set_cons_zero, List.set_cons_succ, List.getElem_toArray, List.getElem_cons_succ, List.getElem_cons_zero])
                (refine wpAnyH_take (i := 13) (v := ?_) rfl (by kernel_rfl) (by kernel_rfl) (by kernel_rfl) (fun _ _ _ h => h) (Or.inl ⟨by rfl, ?_⟩) (by assumption) ?_; rotate_left; focus (intro w hSw; (try dsimp only at hSw); go_simp; all_goals (with_reducible rfl))); (try simp only [Act.put, List.setIfInBounds_toArray, List.set_cons_zero, List.set_cons_succ, List.getElem_toArray, List.getElem_cons_succ, List.getElem_cons_zero])
                (refine wpAnyH_take (i := 14) (v := undef) rfl (by kernel_rfl) (by kernel_rfl) (by kernel_rfl) (fun _ _ _ h => h) (Or.inr ⟨by rfl, rfl⟩) (by assumption) ?_); (try simp only [Act.put, List.setIfInBounds_toArray, List.set_cons_zero, List.set_cons_succ, List.getElem_toArray, List.getElem_cons_succ, List.getElem_cons_zero])
                (refine wpAnyH_take (i := 15) (v := undef) rfl (by kernel_rfl) (by kernel_rfl) (by kernel_rfl) (fun _ _ _ h => h) (Or.inr ⟨by rfl, rfl⟩) (by assumption) ?_); (try simp only [Act.put, List.setIfInBounds_toArray, List.set_cons_zero, List.set_cons_succ, List.getElem_toArray, List.getElem_cons_succ, List.getElem_cons_zero])
                (refine wpAnyH_take (i := 16) (v := undef) rfl (by kernel_rfl) (by kernel_rfl) (by kernel_rfl) (fun _ _ _ h => h) (Or.inr ⟨by rfl, rfl⟩) (by assumption) ?_); (try simp only [Act.put, List.setIfInBounds_toArray, List.set_cons_zero, List.set_cons_succ, List.getElem_toArray, List.getElem_cons_succ, List.getElem_cons_zero])
                (refine wpAnyH_take (i := 17) (v := undef) rfl (by kernel_rfl) (by kernel_rfl) (by kernel_rfl) (fun _ _ _ h => h) (Or.inr ⟨by rfl, rfl⟩) (by assumption) ?_); (try simp only [Act.put, List.setIfInBounds_toArray, List.set_cons_zero, List.set_cons_succ, List.getElem_toArray, List.getElem_cons_succ, List.getElem_cons_zero])
                (refine wpAnyH_take (i := 18) (v := undef) rfl (by kernel_rfl) (by kernel_rfl) (by kernel_rfl) (fun _ _ _ h => h) (Or.inr ⟨by rfl, rfl⟩) (by assumption) ?_); (try simp only [Act.put, List.setIfInBounds_toArray, List.set_cons_zero, List.set_cons_succ, List.getElem_toArray, List.getElem_cons_succ, List.getElem_cons_zero])
                (refine wpAnyH_take (i := 19) (v := undef) rfl (by kernel_rfl) (by kernel_rfl) (by kernel_rfl) (fun _ _ _ h => h) (Or.inr ⟨by rfl, rfl⟩) (by assumption) ?_); (try simp only [Act.put, List.setIfInBounds_toArray, List.set_cons_zero, List.set_cons_succ, List.getElem_toArray, List.getElem_cons_succ, List.getElem_cons_zero])
                (refine wpAnyH_take (i := 20) (v := undef) rfl (by kernel_rfl) (by kernel_rfl) (by kernel_rfl) (fun _ _ _ h => h) (Or.inr ⟨by rfl, rfl⟩) (by assumption) ?_); (try simp only [Act.put, List.setIfInBounds_toArray, List.set_cons_zero, List.set_cons_succ, List.getElem_toArray, List.getElem_cons_succ, List.getElem_cons_zero])
                (refine wpAnyH_take (i := 21) (v := undef) rfl (by kernel_rfl) (by kernel_rfl) (by kernel_rfl) (fun _ _ _ h => h) (Or.inr ⟨by rfl, rfl⟩) (by assumption) ?_); (try simp only [Act.put, List.setIfInBounds_toArray, List.set_cons_zero, List.set_cons_succ, List.getElem_toArray, List.getElem_cons_succ, List.getElem_cons_zero])
                (refine wpAnyH_take (i := 22) (v := ?_) rfl (by kernel_rfl) (by kernel_rfl) (by kernel_rfl) (fun _ _ _ h => h) (Or.inl ⟨by rfl, ?_⟩) (by assumption) ?_; rotate_left; focus (intro w hSw; (try dsimp only at hSw); go_simp; all_goals (with_reducible rfl))); (try simp only [Act.put, List.setIfInBounds_toArray, List.set_cons_zero, List.set_cons_succ, List.getElem_toArray, List.getElem_cons_succ, List.getElem_cons_zero])
                (refine wpAnyH_done (by kernel_rfl) ?_ _)
                have HX := Lib.hid (front_at (fullB a) junka 255 a (full_255 a))
                go_wp2_with (first | (refine wpList_load1_st rfl 5 _ rfl _ _ rfl _ _ _ (H.at 6 rfl) _ Try.underlying5 rfl _ HX.out ?_))
                replace H := H.take 6
                simp only [List.take_succ_cons, List.take_zero] at H
                go_roundw
                case rel => exact ⟨k + 1, congrArg _ (by omega), by omega, H⟩
                case measure => simp [intOf]; omega
              · obtain rfl : l = fullB b := hwh.resolve_left hla
                clear hwh
                have hs1 : (fullB b == fullB a) = false := beq_eq_false_iff_ne.2 hla
                go_wp2_with (first
                  | (go_at_call 15; go_loud ((with_reducible refine (read_at (H.at 3 rfl) _ k rfl HK.out HLd.out HSl.out).mono ?_); rintro e W ⟨ga, capa, junka, rfl, hl2, ha2, hag, hac, hbl⟩; replace H := H.add (Fix.of_below hbl _) (blk ga _) hac (fun k hk => by rw [show k = ga from hk]; exact hag) (fun k hk => hk.elim); clear hac hag hbl; simp only [List.nil_append, List.cons_append] at H)))
                replace H := H.drew
                refine wp_region_held_drew (S := fun w' => BytesAt w' ga 0 (fullB b) ∧ w'.cell? ⟨gw, k, none⟩ = some (.int .u8 (a.toNat : Int)) ∧ w'.cell? ⟨gn, k, none⟩ = some (.int .u8 (b.toNat : Int))) (by kernel_rfl) ⟨BytesAt.front (H.at 6 rfl), row_cell (H.at 4 rfl) HWa.out, row_cell (H.at 5 rfl) HNa.out⟩ (fun hHeld => ?_)
                (refine wpAnyH_take (i := 0) (v := ?_) rfl (by kernel_rfl) (by kernel_rfl) (by kernel_rfl) (fun _ _ _ h => h) (Or.inl ⟨by rfl, ?_⟩) (by assumption) ?_; rotate_left; focus (intro w hSw; (try dsimp only at hSw); go_simp; all_goals (with_reducible rfl))); (try simp only [Act.put, List.setIfInBounds_toArray, List.set_cons_zero, List.set_cons_succ, List.getElem_toArray, List.getElem_cons_succ, List.getElem_cons_zero])
                (refine wpAnyH_take (i := 1) (v := ?_) rfl (by kernel_rfl) (by kernel_rfl) (by kernel_rfl) (fun _ _ _ h => h) (Or.inl ⟨by rfl, ?_⟩) (by assumption) ?_; rotate_left; focus (intro w hSw; (try dsimp only at hSw); go_simp; all_goals (with_reducible rfl))); (try simp only [Act.put, List.setIfInBounds_toArray, List.set_cons_zero, List.set_cons_succ, List.getElem_toArray, List.getElem_cons_succ, List.getElem_cons_zero])
                (refine wpAnyH_take (i := 2) (v := ?_) rfl (by kernel_rfl) (by kernel_rfl) (by kernel_rfl) (fun _ _ _ h => h) (Or.inl ⟨by rfl, ?_⟩) (by assumption) ?_; rotate_left; focus (intro w hSw; (try dsimp only at hSw); go_simp; all_goals (with_reducible rfl))); (try simp only [Act.put, List.setIfInBounds_toArray, List.set_cons_zero, List.set_cons_succ, List.getElem_toArray, List.getElem_cons_succ, List.getElem_cons_zero])
                (refine wpAnyH_take (i := 3) (v := ?_) rfl (by kernel_rfl) (by kernel_rfl) (by kernel_rfl) (fun _ _ _ h => h) (Or.inl ⟨by rfl, ?_⟩) (by assumption) ?_; rotate_left; focus (intro w hSw; (try dsimp only at hSw); go_simp; all_goals (with_reducible rfl))); (try simp only [Act.put, List.setIfInBounds_toArray, List.set_cons_zero, List.set_cons_succ, List.getElem_toArray, List.getElem_cons_succ, List.getElem_cons_zero])
                (refine wpAnyH_take (i := 4) (v := ?_) rfl (by kernel_rfl) (by kernel_rfl) (by kernel_rfl) (fun _ _ _ h => h) (Or.inl ⟨by rfl, ?_⟩) (by assumption) ?_; rotate_left; focus (intro w hSw; (try dsimp only at hSw); go_simp; all_goals (with_reducible rfl))); (try simp only [Act.put, List.setIfInBounds_toArray, List.set_cons_zero, List.set_cons_succ, List.getElem_toArray, List.getElem_cons_succ, List.getElem_cons_zero])
                (refine wpAnyH_take (i := 5) rfl (by kernel_rfl) (by kernel_rfl) (by kernel_rfl) (fun _ _ _ h => h) (yieldsIf_bytes_str (by rfl) 22 9 _ rfl _ _ _ _ (by rfl) 5 Try.underlying22 Try.underlying5 Try.underlying9 (fullB b) (fullB_len _).symm (fun w h => h.1)) (by assumption) ?_); (try simp only [Act.put, List.setIfInBounds_toArray, List.set_cons_zero, List.set_cons_succ, List.getElem_toArray, List.getElem_cons_succ, List.getElem_cons_zero])
                (refine wpAnyH_take (i := 6) (v := ?_) rfl (by kernel_rfl) (by kernel_rfl) (by kernel_rfl) (fun _ _ _ h => h) (Or.inl ⟨by rfl, ?_⟩) (by assumption) ?_; rotate_left; focus (intro w hSw; (try dsimp only at hSw); go_simp; all_goals (with_reducible rfl))); (try simp only [Act.put, List.setIfInBounds_toArray, List.set_cons_zero, List.set_cons_succ, List.getElem_toArray, List.getElem_cons_succ, List.getElem_cons_zero])
                (refine wpAnyH_take (i := 7) (v := ?_) rfl (by kernel_rfl) (by kernel_rfl) (by kernel_rfl) (fun _ _ _ h => h) (Or.inl ⟨by rfl, ?_⟩) (by assumption) ?_; rotate_left; focus (intro w hSw; (try dsimp only at hSw); go_simp; all_goals (with_reducible rfl))); (try simp only [Act.put, List.setIfInBounds_toArray, List.set_cons_zero, List.set_cons_succ, List.getElem_toArray, List.getElem_cons_succ, List.getElem_cons_zero])
                (refine wpAnyH_take (i := 8) rfl (by kernel_rfl) (by kernel_rfl) (by kernel_rfl) (fun _ _ _ h => h) (yieldsIf_load1 (by rfl) 5 _ rfl _ _ (by rfl) _ Try.underlying5 rfl _ (fun w h => h.2.1)) (by assumption) ?_); (try simp only [Act.put, List.setIfInBounds_toArray, List.set_cons_zero, List.set_cons_succ, List.getElem_toArray, List.getElem_cons_succ, List.getElem_cons_zero])
                (refine wpAnyH_ready (rs := [9]) (by kernel_rfl) (by simp) (AllReadyH.cons rfl (fun K hK => ?_) AllReadyH.nil)); (rw [if_pos (by rfl)]); (go_simp; go_at_call 10; (with_reducible refine (full_calls a _).mono ?_); rintro e W ⟨gf, rfl, hfg, hff, hb⟩; replace H := H.add (Fix.of_below hb _) (blk gf _) hff (fun k hk => by rw [show k = gf from hk]; exact hfg) (fun k hk => hk.elim); clear hfg hff hb; simp only [List.nil_append, List.cons_append] at H; (try go_wp2_with fail); refine hK.out _ _ ⟨BytesAt.front (H.at 6 rfl), row_cell (H.at 4 rfl) HWa.out, row_cell (H.at 5 rfl) HNa.out⟩ (fun hHeld => ?_); clear hK K); (try simp only [Act.put, List.setIfInBounds_toArray, List.set_cons_zero, List.set_cons_succ, List.getElem_toArray, List.getElem_cons_succ, List.getElem_cons_zero])
                (refine wpAnyH_ready (rs := [10]) (by kernel_rfl) (by simp) (AllReadyH.cons rfl (fun K hK => ?_) AllReadyH.nil)); (rw [if_pos (by rfl)]); (refine wp_bytes_str 22 9 _ rfl _ _ _ _ (by rfl) 5 Try.underlying22 Try.underlying5 Try.underlying9 (fullB a) (BytesAt.whole (H.at 7 rfl)) (fullB_len _).symm ?_; refine hK.out _ _ ⟨BytesAt.front (H.at 6 rfl), row_cell (H.at 4 rfl) HWa.out, row_cell (H.at 5 rfl) HNa.out⟩ (fun hHeld => ?_); clear hK K); (try simp only [Act.put, List.setIfInBounds_toArray, List.set_cons_zero, List.set_cons_succ, List.getElem_toArray, List.getElem_cons_succ, List.getElem_cons_zero])
                (refine wpAnyH_take (i := 11) (v := ?_) rfl (by kernel_rfl) (by kernel_rfl) (by kernel_rfl) (fun _ _ _ h => h) (Or.inl ⟨by rfl, ?_⟩) (by assumption) ?_; rotate_left; focus (intro w hSw; (try dsimp only at hSw); go_simp; all_goals (with_reducible rfl))); (try simp only [Act.put, List.setIfInBounds_toArray, List.set_cons_zero, List.set_cons_succ, List.getElem_toArray, List.getElem_cons_succ, List.getElem_cons_zero])
                (refine wpAnyH_take (i := 12) (v := ?_) rfl (by kernel_rfl) (by kernel_rfl) (by kernel_rfl) (fun _ _ _ h => h) (Or.inl ⟨by rfl, ?_⟩) (by assumption) ?_; rotate_left; focus (intro w hSw; (try dsimp only at hSw); go_simp; all_goals (with_reducible rfl))); (try simp only [Act.put, List.setIfInBounds_toArray, List.set_cons_zero, List.set_cons_succ, List.getElem_toArray, List.getElem_cons_succ, List.getElem_cons_zero])
                (refine wpAnyH_take (i := 13) (v := ?_) rfl (by kernel_rfl) (by kernel_rfl) (by kernel_rfl) (fun _ _ _ h => h) (Or.inl ⟨by rfl, ?_⟩) (by assumption) ?_; rotate_left; focus (intro w hSw; (try dsimp only at hSw); go_simp; all_goals (with_reducible rfl))); (try simp only [Act.put, List.setIfInBounds_toArray, List.set_cons_zero, List.set_cons_succ, List.getElem_toArray, List.getElem_cons_succ, List.getElem_cons_zero])
                (refine wpAnyH_take (i := 14) (v := ?_) rfl (by kernel_rfl) (by kernel_rfl) (by kernel_rfl) (fun _ _ _ h => h) (Or.inl ⟨by rfl, ?_⟩) (by assumption) ?_; rotate_left; focus (intro w hSw; (try dsimp only at hSw); go_simp; all_goals (with_reducible rfl))); (try simp only [Act.put, List.setIfInBounds_toArray, List.set_cons_zero, List.set_cons_succ, List.getElem_toArray, List.getElem_cons_succ, List.getElem_cons_zero])
                (refine wpAnyH_take (i := 15) rfl (by kernel_rfl) (by kernel_rfl) (by kernel_rfl) (fun _ _ _ h => h) (yieldsIf_bytes_str (by rfl) 22 9 _ rfl _ _ _ _ (by rfl) 5 Try.underlying22 Try.underlying5 Try.underlying9 (fullB b) (fullB_len _).symm (fun w h => h.1)) (by assumption) ?_); (try simp only [Act.put, List.setIfInBounds_toArray, List.set_cons_zero, List.set_cons_succ, List.getElem_toArray, List.getElem_cons_succ, List.getElem_cons_zero])
                (refine wpAnyH_take (i := 16) (v := ?_) rfl (by kernel_rfl) (by kernel_rfl) (by kernel_rfl) (fun _ _ _ h => h) (Or.inl ⟨by rfl, ?_⟩) (by assumption) ?_; rotate_left; focus (intro w hSw; (try dsimp only at hSw); go_simp; all_goals (with_reducible rfl))); (try simp only [Act.put, List.setIfInBounds_toArray, List.set_cons_zero, List.set_cons_succ, List.getElem_toArray, List.getElem_cons_succ, List.getElem_cons_zero])
                (refine wpAnyH_take (i := 17) (v := ?_) rfl (by kernel_rfl) (by kernel_rfl) (by kernel_rfl) (fun _ _ _ h => h) (Or.inl ⟨by rfl, ?_⟩) (by assumption) ?_; rotate_left; focus (intro w hSw; (try dsimp only at hSw); go_simp; all_goals (with_reducible rfl))); (try simp only [Act.put, List.setIfInBounds_toArray, List.set_cons_zero, List.set_cons_succ, List.getElem_toArray, List.getElem_cons_succ, List.getElem_cons_zero])
                (refine wpAnyH_take (i := 18) rfl (by kernel_rfl) (by kernel_rfl) (by kernel_rfl) (fun _ _ _ h => h) (yieldsIf_load1 (by rfl) 5 _ rfl _ _ (by rfl) _ Try.underlying5 rfl _ (fun w h => h.2.2)) (by assumption) ?_); (try simp only [Act.put, List.setIfInBounds_toArray, List.set_cons_zero, List.set_cons_succ, List.getElem_toArray, List.getElem_cons_succ, List.getElem_cons_zero])
                (refine wpAnyH_ready (rs := [19]) (by kernel_rfl) (by simp) (AllReadyH.cons rfl (fun K hK => ?_) AllReadyH.nil)); (rw [if_pos (by rfl)]); (go_simp; go_at_call 10; (with_reducible refine (full_calls b _).mono ?_); rintro e W ⟨gf, rfl, hfg, hff, hb⟩; replace H := H.add (Fix.of_below hb _) (blk gf _) hff (fun k hk => by rw [show k = gf from hk]; exact hfg) (fun k hk => hk.elim); clear hfg hff hb; simp only [List.nil_append, List.cons_append] at H; (try go_wp2_with fail); refine hK.out _ _ ⟨BytesAt.front (H.at 6 rfl), row_cell (H.at 4 rfl) HWa.out, row_cell (H.at 5 rfl) HNa.out⟩ (fun hHeld => ?_); clear hK K); (try simp only [Act.put, List.setIfInBounds_toArray, List.set_cons_zero, List.set_cons_succ, List.getElem_toArray, List.getElem_cons_succ, List.getElem_cons_zero])
                (refine wpAnyH_ready (rs := [20]) (by kernel_rfl) (by simp) (AllReadyH.cons rfl (fun K hK => ?_) AllReadyH.nil)); (rw [if_pos (by rfl)]); (refine wp_bytes_str 22 9 _ rfl _ _ _ _ (by rfl) 5 Try.underlying22 Try.underlying5 Try.underlying9 (fullB b) (BytesAt.whole (H.at 8 rfl)) (fullB_len _).symm ?_; refine hK.out _ _ ⟨BytesAt.front (H.at 6 rfl), row_cell (H.at 4 rfl) HWa.out, row_cell (H.at 5 rfl) HNa.out⟩ (fun hHeld => ?_); clear hK K); (try simp only [Act.put, List.setIfInBounds_toArray, List.set_cons_zero, List.set_cons_succ, List.getElem_toArray, List.getElem_cons_succ, List.getElem_cons_zero])
                (refine wpAnyH_take (i := 21) (v := ?_) rfl (by kernel_rfl) (by kernel_rfl) (by kernel_rfl) (fun _ _ _ h => h) (Or.inl ⟨by rfl, ?_⟩) (by assumption) ?_; rotate_left; focus (intro w hSw; (try dsimp only at hSw); go_simp; all_goals (with_reducible rfl))); (try simp only [Act.put, List.setIfInBounds_toArray, List.set_cons_zero, List.set_cons_succ, List.getElem_toArray, List.getElem_cons_succ, List.getElem_cons_zero])
                (refine wpAnyH_take (i := 22) (v := ?_) rfl (by kernel_rfl) (by kernel_rfl) (by kernel_rfl) (fun _ _ _ h => h) (Or.inl ⟨by rfl, ?_⟩) (by assumption) ?_; rotate_left; focus (intro w hSw; (try dsimp only at hSw); go_simp; all_goals (with_reducible rfl))); (try simp only [Act.put, List.setIfInBounds_toArray, List.set_cons_zero, List.set_cons_succ, List.getElem_toArray, List.getElem_cons_succ, List.getElem_cons_zero])
                (refine wpAnyH_done (by kernel_rfl) ?_ _)
                have HX := Lib.hid (front_at (fullB b) junka 255 b (full_255 b))
                go_wp2_with (first | (refine wpList_load1_st rfl 5 _ rfl _ _ rfl _ _ _ (H.at 6 rfl) _ Try.underlying5 rfl _ HX.out ?_))
                replace H := H.take 6
                simp only [List.take_succ_cons, List.take_zero] at H
                go_roundw
                case rel => exact ⟨k + 1, congrArg _ (by omega), by omega, H⟩
                case measure => simp [intOf]; omega
          · obtain rfl : k = 40 := by omega
            have hji : ¬ ((40 : Int) < 40) := by omega
            go_wp2_with (first
              | (go_at_call 15; go_loud ((with_reducible refine (read_nil _ _).mono ?_); rintro e W' ⟨rfl, rfl⟩))
              | (go_at_call 13; go_loud ((with_reducible refine (arm_nil _ _ _).mono ?_); rintro e W' ⟨rfl, rfl⟩))
              | (go_at_call 16; go_loud ((with_reducible refine (power_nil _ _).mono ?_); rintro e W' ⟨rfl, rfl⟩))
              | (go_at_call 9; go_loud ((with_reducible refine (write_nil _ _ _).mono ?_); rintro e W' ⟨rfl, rfl⟩))
              | (go_at_call 11; go_loud ((with_reducible refine (flush_nil _).mono ?_); rintro e W' ⟨rfl, rfl⟩))
              | (go_at_call 32; go_loud ((with_reducible refine (len_nil _).mono ?_); rintro e W' ⟨rfl, rfl⟩))
              | (go_at_call 18; go_loud ((with_reducible refine (writes_nil _).mono ?_); rintro e W' ⟨rfl, rfl⟩))
              | (go_at_call 17; go_loud ((with_reducible refine (lives_nil _).mono ?_); rintro e W' ⟨rfl, rfl⟩))
              | (go_at_call 30; go_loud ((with_reducible refine (copy_nil _).mono ?_); rintro e W' ⟨rfl, rfl⟩))
              | (go_at_call 14; go_loud ((with_reducible refine (dead_nil _).mono ?_); rintro e W' ⟨rfl, rfl⟩)))
            go_ret
            exact ⟨rfl, H.fix.below⟩

theorem diskLasts_calls (p0 : Option Addr) (c0 : Nat) (ats : List UInt8) (p1 : Option Addr) (c1 : Nat) (aft : List UInt8) (p2 : Option Addr) (c2 : Nat) (keep : List Bool) (n part : UInt8) (w : World)
    (ha0 : (rdA p0 (byteV ats)).prop w) (ha1 : (rdA p1 (byteV aft)).prop w) (ha2 : (rdA p2 (keep.map Value.bool)).prop w) :
    Calls Try.prog 6 #[.slice p0 ats.length c0, .slice p1 aft.length c1, .slice p2 keep.length c2, .int .u8 (n.toNat : Int), .int .u8 (part.toNat : Int)] w fun e w' => e = .returned (.bool true) ∧ Below w.heap.size w w' := by
  by_cases h : ats.length ≤ 20 ∧ aft.length ≤ 20 ∧ keep.length ≤ 40
  · exact diskLasts_short p0 p1 p2 c0 c1 c2 ats aft keep n part w h.1 h.2.1 h.2.2 ha0 ha1 ha2
  · have H := St.nil NoBlk NoBlk w
    have hc : 20 < (ats.length : Int) ∨ ((ats.length : Int) ≤ 20 ∧ 20 < (aft.length : Int)) ∨ ((ats.length : Int) ≤ 20 ∧ (aft.length : Int) ≤ 20 ∧ 40 < (keep.length : Int)) := by omega
    clear h
    rcases hc with h0 | ⟨h0, h1⟩ | ⟨h0, h1, h2⟩
    all_goals
      go_enter Try.func6, Try.ntmps6
      go_wp2_with (first | (go_at_call 7; (with_reducible refine (begun_calls _).mono ?_); rintro e W ⟨rfl, hb⟩; replace H := H.stay (Fix.of_below hb _); clear hb))
      go_ret
      exact ⟨rfl, H.fix.below⟩

end Go.Proofs.Ytajlhloapglafaa
