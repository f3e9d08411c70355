/- Texts of this proof, packed: TxnApart: plain and what follows it. -/
import Derived.Test.YtlgciddnpinpbaaGreatDoorPkBase4
import Derived.Laws.ResultCell
import Derived.Laws.Rows
import Derived.BigQuiet
import Derived.Deep.QuietTactic

namespace Go.Proofs.YtlgciddnpinpbaaGreatDoor
open Go.RowKit
set_option linter.unusedSimpArgs false
set_option linter.unusedVariables false

/-- What a row of bytes tells of homes: nought, nothing is written. -/
def optOf (xs : List UInt8) (k : Nat) : Option (List UInt8) := if xs.getD k 0 = 0 then none else some (fullH (xs.getD k 0))

theorem optOf_zero : optOf (List.replicate 34 0) = fun _ => none := by
  funext k
  unfold optOf
  have : (List.replicate 34 (0 : UInt8)).getD k 0 = 0 := by
    rw [List.getD_eq_getElem?_getD, List.getElem?_replicate]
    by_cases h : k < 34 <;> simp [h]
  rw [if_pos this]

theorem getD_set {xs : List UInt8} {k : Nat} (hk : k < xs.length) (v : UInt8) (j : Nat) : (xs.set k v).getD j 0 = if j = k then v else xs.getD j 0 := by
  rw [List.getD_eq_getElem?_getD, List.getD_eq_getElem?_getD, List.getElem?_set]
  by_cases e : j = k
  · subst e; simp [hk]
  · rw [if_neg (fun h => e h.symm), if_neg e]

theorem optOf_set {xs : List UInt8} {k : Nat} (hk : k < xs.length) {v : UInt8} (hv : v ≠ 0) : optOf (xs.set k v) = fun j => if j = k then some (fullH v) else optOf xs j := by
  funext j
  unfold optOf
  rw [getD_set hk]
  by_cases e : j = k
  · rw [if_pos e, if_pos e, if_neg hv]
  · rw [if_neg e, if_neg e]

theorem optOf_getD (xs : List UInt8) (k : Nat) (l : List UInt8) : (optOf xs k).getD l = if xs.getD k 0 = 0 then l else fullH (xs.getD k 0) := by
  unfold optOf
  by_cases h : xs.getD k 0 = 0
  · rw [if_pos h, if_pos h]; rfl
  · rw [if_neg h, if_neg h]; rfl

theorem optOf_full (xs : List UInt8) (k : Nat) : (optOf xs k).getD (fullH 0) = fullH (xs.getD k 0) := by
  rw [optOf_getD]
  by_cases h : xs.getD k 0 = 0
  · rw [if_pos h, h]
  · rw [if_neg h]

theorem filt_one : ∀ (l : List Nat) (p : Nat → Bool) (k : Nat), l.Nodup → (l.filter (fun j => decide (j = k) || p j)).length ≤ (l.filter p).length + 1
  | [], _, _, _ => by simp
  | a :: l, p, k, h => by
    have h' := List.nodup_cons.1 h
    by_cases e : a = k
    · subst e
      have e1 : l.filter (fun j => decide (j = a) || p j) = l.filter p := by
        refine List.filter_congr fun x hx => ?_
        have : x ≠ a := fun e => h'.1 (e ▸ hx)
        simp [this]
      rw [List.filter_cons_of_pos (by simp), e1, List.length_cons]
      by_cases hp : p a = true
      · rw [List.filter_cons_of_pos hp, List.length_cons]; omega
      · rw [List.filter_cons_of_neg hp]; omega
    · have ih := filt_one l p k h'.2
      by_cases hp : p a = true
      · rw [List.filter_cons_of_pos (by simp [hp]), List.filter_cons_of_pos hp, List.length_cons, List.length_cons]; omega
      · rw [List.filter_cons_of_neg (by simp [e, hp]), List.filter_cons_of_neg hp]; exact ih

theorem keysOf_wrote (f : Nat → Option (List UInt8)) (k n : Nat) (l : List UInt8) : (keysOf (fun j => if j = k then some l else f j) n).length ≤ (keysOf f n).length + 1 := by
  have e : keysOf (fun j => if j = k then some l else f j) n = (List.range n).filter fun j => decide (j = k) || (f j).isSome := by
    unfold keysOf
    refine List.filter_congr fun j _ => ?_
    by_cases h : j = k <;> simp [h]
  rw [e]
  exact filt_one _ _ _ List.nodup_range

theorem noHome_fullA : noHome = fullH 0 := rfl

theorem keysOf_none (n : Nat) : keysOf (fun _ => none) n = [] := by
  unfold keysOf
  exact List.filter_eq_nil_iff.2 fun _ _ => by simp

/-- What stands when the second one has committed, up to a home. -/
def overZ (xs ys : List UInt8) (yes : Bool) (k : Nat) : UInt8 := if yes = true ∧ ys.getD k 0 ≠ 0 then ys.getD k 0 else xs.getD k 0

end Go.Proofs.YtlgciddnpinpbaaGreatDoor

namespace Go.Proofs.YtlgciddnpinpbaaGreatDoor
open Go.RowKit
set_option linter.unusedSimpArgs false
set_option linter.unusedVariables false
set_option maxRecDepth 40000

def bitsV (g n cap : Nat) (r v : Int) : Value := .agg #[.slice (some ⟨g, 0, none⟩) n cap, .int .u32 r, .int .u64 v]
def bitV (bs : List Bool) : List Value := bs.map Value.bool
theorem bitV_len (bs : List Bool) : (bitV bs).length = bs.length := List.length_map _
theorem bitV_get (bs : List Bool) (i : Nat) (hi : i < bs.length) {b : Bool} (h : bs.getD i false = b) : (bitV bs)[i]? = some (.bool b) := by
  have := bool_at bs i hi h
  simpa [bitV] using this
theorem bitV_set (bs : List Bool) (i : Nat) (b : Bool) : (bitV bs).set i (.bool b) = bitV (bs.set i b) := by simp [bitV]
theorem bitV_one (bs : List Bool) : ∀ u ∈ bitV bs, u.oneCell' = true := by
  intro u hu
  obtain ⟨b, _, rfl⟩ := List.mem_map.1 hu
  rfl



theorem two_bits : ((bitV (List.replicate 34 false)).set 0 (.bool true)).set 1 (.bool true) = bitV (true :: true :: List.replicate 32 false) := rfl






end Go.Proofs.YtlgciddnpinpbaaGreatDoor

namespace Go.Proofs.YtlgciddnpinpbaaGreatDoor
open Go.RowKit
set_option linter.unusedSimpArgs false
set_option linter.unusedVariables false
set_option maxRecDepth 40000



/-- What the homes say, as bits. -/
structure BitsOf (f : Nat → List UInt8) (bs : List Bool) (r v : Nat) : Prop where
  len : bs.length = 34
  has : ∀ k, k < 34 → hasB (f 1) k = bs.getD k false
  root : le (f 0) 0 4 = r
  ver : le (f 0) 4 8 = v
  rlt : r < 4294967296
  vlt : v < 18446744073709551616

theorem bit_mod (b s : Nat) : (b / 2 ^ s % 2 == 1) = b.testBit s := by
  rw [Nat.testBit_eq_decide_div_mod_eq]
  by_cases h : b / 2 ^ s % 2 = 1
  · rw [h]; rfl
  · have h0 : b / 2 ^ s % 2 = 0 := by omega
    rw [h0]; rfl

end Go.Proofs.YtlgciddnpinpbaaGreatDoor

namespace Go.Proofs.YtlgciddnpinpbaaGreatDoor
open Go.RowKit
set_option linter.unusedSimpArgs false
set_option linter.unusedVariables false
set_option maxRecDepth 40000

theorem takes_over {w : World} {s : TX} {c : Nat} (hb : Bundle w (s.L ++ [errA])) (h : s.t.Ok c) (ho : s.x.over = true) :
    Calls Tryz.prog 147 #[.pointer (some ⟨s.g, 0, none⟩)] w fun e w' => ∃ ge, e = .returned (.tuple #[.int .i64 0, partVS ge]) ∧ ErrS w' ge 15 ∧ BunTo w (ownL (s.L ++ [errA])) (rdL (s.L ++ [errA])) (s.L ++ [errA]) w' := by
  have H := hb.open_
  obtain ⟨O, hO⟩ : ∃ O, ownL (s.L ++ [errA]) = O := ⟨_, rfl⟩
  obtain ⟨R, hR⟩ : ∃ R, rdL (s.L ++ [errA]) = R := ⟨_, rfl⟩
  rw [hO, hR] at H ⊢
  have HT := Lib.hid h
  have HX := Lib.hid ho
  clear hb h ho hO hR
  go_enter Tryz.func147, Tryz.ntmps147
  go_wp2_with (first
    | (go_at_call 19; go_loud ((refine (tread_over (t := s.t) (x := s.x) H.bundle HT.out HX.out _).mono ?_); rintro e W ⟨rfl, hto⟩; replace H := hto.front (R := []) (by rw [List.append_nil]; exact H); clear hto; rw [List.append_nil] at H))
    | (go_at_call 148; go_loud ((refine (bad_noS 15 rfl _).mono ?_); rintro e W ⟨ge, rfl, hge, hbl⟩; replace H := (H.stay (Fix.of_below hbl _)); unfold partVS)))
  refine bodyPost_ret (results_tmp2 rfl _ _ _) rfl ?_
  exact ⟨ge, rfl, hge, H.bunTo⟩

theorem Take_over {w : World} {s : TX} {c : Nat} (hb : Bundle w (s.L ++ [errA])) (h : s.t.Ok c) (ho : s.x.over = true) :
    Calls Tryz.prog 110 #[.pointer (some ⟨s.g, 0, none⟩)] w fun e w' => e = .returned (.tuple #[.int .i64 0, .int .i64 15]) ∧ BunTo w (ownL (s.L ++ [errA])) (rdL (s.L ++ [errA])) (s.L ++ [errA]) w' := by
  have H := hb.open_
  have HT := Lib.hid h
  have HX := Lib.hid ho
  clear hb h ho
  go_enter Tryz.func110, Tryz.ntmps110
  go_wp2_with (first
    | (go_at_call 147; go_loud ((refine (takes_over (s := s) H.bundle HT.out HX.out).mono ?_); rintro e W ⟨ge, rfl, hge, hto⟩; replace H := hto.front (R := []) (by rw [List.append_nil]; exact H); rw [List.append_nil] at H; clear hto; unfold partVS))
    | (go_at_call 112; go_loud ((refine (code_errS ge 15 _ (H.at 7 rfl) hge).mono ?_); rintro e W2 ⟨rfl, hbl⟩; replace H := H.stay (Fix.of_below hbl _); clear hbl)))
  refine bodyPost_ret (results_tmp2 rfl _ _ _) rfl ?_
  exact ⟨rfl, H.bunTo⟩

set_option maxHeartbeats 2000000 in
theorem SetRoot_over {w : World} {s : TX} {c : Nat} (hb : Bundle w (s.L ++ [errA])) (h : s.t.Ok c) (ho : s.x.over = true) (zr zv : Int) (r v : Nat) (hzr : (r : Int) = zr) (hzv : (v : Int) = zv) (hr : r < 4294967296) (hv : v < 18446744073709551616) :
    Calls Tryz.prog 87 #[.pointer (some ⟨s.g, 0, none⟩), .int .u32 zr, .int .u64 zv] w fun e w' => e = .returned (.int .i64 15) ∧ BunTo w (ownL (s.L ++ [errA])) (rdL (s.L ++ [errA])) (s.L ++ [errA]) w' := by
  subst hzr hzv
  have H := hb.open_
  obtain ⟨O, hO⟩ : ∃ O, ownL (s.L ++ [errA]) = O := ⟨_, rfl⟩
  obtain ⟨R, hR⟩ : ∃ R, rdL (s.L ++ [errA]) = R := ⟨_, rfl⟩
  rw [hO, hR] at H ⊢
  have HT := Lib.hid h
  have HX := Lib.hid ho
  have HR := Lib.hid hr
  have HV := Lib.hid hv
  have hri : (r : Int) < 4294967296 := by omega
  have hr0 : 0 ≤ (r : Int) := by omega
  have tok1 : True := trivial
  clear hb h ho hO hR hr hv
  go_enter Tryz.func87, Tryz.ntmps87
  go_wp2_with (first
    | (go_at_call 111; have _t := tok1; clear _t; go_loud ((refine (put_at _ [] _ _ r 4 4 _ (.inl ⟨rfl, rfl⟩) rfl rfl (by simp) (by simp) (by omega) (by omega) (by have := HR.out; omega)).mono ?_); rintro e W1 ⟨g1, cap1, junk1, rfl, hl1, hc1, hj1, hm1, hg1, hb1, hbl⟩; replace H := H.add (Fix.of_below hbl _) (blk g1 _) hb1 (fun k hk => by rw [show k = g1 from hk]; exact hg1) (fun k hk => hk.elim); clear hb1 hbl tok1; simp only [List.nil_append] at H hl1 hj1))
    | (go_at_call 111; go_loud ((refine (put_at _ (Lib.leBytes 4 r) _ _ v 8 12 _ (argS_front (H.at 8 rfl) hl1 hc1) rfl rfl (by rw [hl1]) (by rw [hl1]; omega) (by omega) (by omega) HV.out).mono ?_); rintro e W2 ⟨g2, cap2, junk2, rfl, hl2, hc2, hj2, hm2, hg2, hb2, hbl⟩; replace H := (H.take 8).add (Fix.of_below hbl _) (blk g2 _) hb2 (fun k hk => by rw [show k = g2 from hk]; exact hg2) (fun k hk => hk.elim); clear hb2 hbl))
    | (refine wpList_appz_st H 8 rfl _ _ 22 3 rfl _ Tryz.underlying22 _ Tryz.underlying3 _ _ info_u8 rfl rfl g2 12 cap2 rfl _ rfl hc2 hj2 hm2 _ 236 rfl (by omega) (by simp only [maxLen]; omega) (by omega) ?_; clear H; intro W g5 cap5 junk5 H hj5 hc5 hm5; replace H := H.take 8; replace H : St O R w _ (s.L ++ [errA]) := H)
    | (go_at_call 17; go_loud ((refine (twrite_over (t := s.t) (x := s.x) H.bundle HT.out HX.out _ _).mono ?_); rintro e W ⟨rfl, hto⟩; replace H := (hto.front (R := []) (by rw [List.append_nil]; exact H)).take 8; clear hto)))
  go_ret
  exact ⟨rfl, H.bunTo⟩

theorem Format_over {w : World} {s : TX} {c : Nat} (hb : Bundle w (s.L ++ [errA])) (h : s.t.Ok c) (ho : s.x.over = true) :
    Calls Tryz.prog 48 #[.pointer (some ⟨s.g, 0, none⟩)] w fun e w' => e = .returned (.int .i64 15) ∧ BunTo w (ownL (s.L ++ [errA])) (rdL (s.L ++ [errA])) (s.L ++ [errA]) w' := by
  have H := hb.open_
  have HT := Lib.hid h
  have HX := Lib.hid ho
  clear hb h ho
  go_enter Tryz.func48, Tryz.ntmps48
  go_wp2_with (first
    | (go_at_call 87; go_loud ((refine (SetRoot_over (s := s) H.bundle HT.out HX.out _ _ 0 1 rfl rfl (by omega) (by omega)).mono ?_); rintro e W ⟨rfl, hto⟩; replace H := hto.front (R := []) (by rw [List.append_nil]; exact H); clear hto; rw [List.append_nil] at H)))
  go_ret
  exact ⟨rfl, H.bunTo⟩

theorem Free_over {w : World} {s : TX} {c : Nat} (hb : Bundle w (s.L ++ [errA])) (h : s.t.Ok c) (ho : s.x.over = true) (z : Int) :
    Calls Tryz.prog 78 #[.pointer (some ⟨s.g, 0, none⟩), .int .i64 z] w fun e w' => e = .returned (.int .i64 15) ∧ BunTo w (ownL (s.L ++ [errA])) (rdL (s.L ++ [errA])) (s.L ++ [errA]) w' := by
  have H := hb.open_
  have HT := Lib.hid h
  have HX := Lib.hid ho
  clear hb h ho
  go_enter Tryz.func78, Tryz.ntmps78
  go_wp2_with (first
    | (go_at_call 19; go_loud ((refine (tread_over (t := s.t) (x := s.x) H.bundle HT.out HX.out _).mono ?_); rintro e W ⟨rfl, hto⟩; replace H := hto.front (R := []) (by rw [List.append_nil]; exact H); clear hto; rw [List.append_nil] at H)))
  go_ret
  exact ⟨rfl, H.bunTo⟩

/-- It wrote the first two homes at most. -/
def TX.Few (s : TX) : Prop := ∀ k, 2 ≤ k → k < s.n → (s.V k).2 = false

theorem filter_few (p : Nat → Bool) : ∀ n, (∀ k, 2 ≤ k → k < n → p k = false) → ((List.range n).filter p).length ≤ min n 2
  | 0, _ => by simp
  | n + 1, h => by
    have ih := filter_few p n (fun k a b => h k a (by omega))
    rw [List.range_succ, List.filter_append, List.length_append]
    rcases Nat.lt_or_ge n 2 with h2 | h2
    · have : ([n].filter p).length ≤ 1 := List.length_filter_le p [n]
      omega
    · have : [n].filter p = [] := by simp [h n h2 (by omega)]
      rw [this]; simp only [List.length_nil]; omega

theorem TX.Few.keys {s : TX} {c : Nat} (h : s.Few) (hc : s.Ok c) : (keysOf s.x.f s.x.n).length ≤ 2 := by
  have := filter_few (fun k => (s.x.f k).isSome) s.x.n (fun k a b => h k a (by rw [hc.n] at b; exact b))
  unfold keysOf
  omega

theorem TX.Few.to {s s' : TX} {c : Nat} {v' : Nat → List UInt8 × Bool} (h : s.Few) (hs : s.To s' c v') (hv : ∀ k, 2 ≤ k → v' k = s.V k) : s'.Few := fun k a b => by
  rw [hs.n] at b
  rw [hs.V k b, hv k a]
  exact h k a b

theorem updV_up (v : Nat → List UInt8 × Bool) (i : Nat) (l : List UInt8) (hi : i < 2) (k : Nat) (hk : 2 ≤ k) : updV v i l k = v k := by
  unfold updV
  rw [if_neg (by omega)]

theorem commit_TX {w : World} {s : TX} {c : Nat} (hb : Bundle w (s.L ++ [errA])) (h : s.Ok c) (hc : c < 400) (hk : (keysOf s.x.f s.x.n).length < 24) (hr : s.t.X.ring = 24) :
    Calls Tryz.prog 20 #[.pointer (some ⟨s.g, 0, none⟩)] w fun e w' => e = .returned (.int .i64 0) ∧ ∃ t' : LogT, t'.Ok (c + 1) ∧ t'.n = s.n ∧ t'.X.ring = 24 ∧ (∀ k, k < s.n → t'.hom k = s.v k) ∧
      BunTo w (ownL (s.L ++ [errA])) (rdL (s.L ++ [errA])) (t'.L s.x.gl ++ s.x.done.L s.g ++ [errA]) w' := by
  refine (tcommit_calls (t := s.t) (x := s.x) hb h.ok hc h.over h.n).mono ?_
  rintro e w' ⟨rfl, t', hco, hto⟩
  have hcond : (keysOf s.x.f s.x.n).length ≤ 119 ∧ (keysOf s.x.f s.x.n).length < s.t.X.ring := by rw [hr]; omega
  refine ⟨?_, t', hco.ok, hco.n, hco.ring.trans hr, fun k hk => ?_, hto⟩
  · unfold commitC; rw [if_pos hcond]
  · rw [hco.hom k hk, if_pos hcond]; rfl

theorem abort_TX {w : World} {s : TX} (hb : Bundle w s.L) :
    Calls Tryz.prog 21 #[.pointer (some ⟨s.g, 0, none⟩)] w fun e w' => e = .returned (.tuple #[]) ∧ BunTo w (ownL s.L) (rdL s.L) (s.t.L s.x.gl ++ s.x.done.L s.g) w' := by
  have H := hb.open_
  obtain ⟨O, hO⟩ : ∃ O, ownL s.L = O := ⟨_, rfl⟩
  obtain ⟨R, hR⟩ : ∃ R, rdL s.L = R := ⟨_, rfl⟩
  rw [hO, hR] at H ⊢
  have H1 := St.rotate (A := s.t.L s.x.gl) (B := s.x.L s.g) H
  refine (tabort_calls (x := s.x) (g := s.g) (H1.take 3).bundle).mono ?_
  rintro e w' ⟨rfl, hto⟩
  exact ⟨rfl, St.bunTo (St.rotate (hto.front (R := s.t.L s.x.gl) H1))⟩

/-- A transaction that is new, on a log that is fine. -/
theorem TX.begun_ok {t : LogT} {c n : Nat} (ht : t.Ok c) (hn : t.n = n) (hl : ∀ k, k < n → (t.hom k).length = 248) (gl gm g : Nat) : TX.Ok ⟨t, TxT.new gl gm n, g⟩ c ∧ (∀ k, TX.V ⟨t, TxT.new gl gm n, g⟩ k = (t.hom k, false)) :=
  ⟨⟨ht, rfl, hn.symm, fun k hk => hl k (by rw [← hn]; exact hk)⟩, fun k => rfl⟩

/-- The last one goes to i's place. -/
theorem St.moveTo {M0 R0 : Nat → Prop} {w0 W : World} {L : List Asrt} {A : Asrt} (H : St M0 R0 w0 W (L ++ [A])) (i : Nat) (hi : i < L.length) : St M0 R0 w0 W (L.set i A) := by
  refine H.pick (fun m => if m = i then L.length else m) ?_ ?_
  · intro m C hm
    show (L ++ [A])[if m = i then L.length else m]? = some C
    rw [List.getElem?_set] at hm
    by_cases e : i = m
    · subst e
      rw [if_pos rfl, if_pos hi] at hm
      rw [if_pos rfl]
      simp only [List.getElem?_append_right (Nat.le_refl _), Nat.sub_self]
      exact hm
    · rw [if_neg e] at hm
      rw [if_neg (fun x => e x.symm), List.getElem?_append_left (List.getElem?_eq_some_iff.1 hm).1]
      exact hm
  · intro m l hm hl
    rw [List.length_set] at hm hl
    show (if m = i then L.length else m) = (if l = i then L.length else l) → m = l
    split <;> split <;> omega

end Go.Proofs.YtlgciddnpinpbaaGreatDoor

namespace Go.Proofs.YtlgciddnpinpbaaGreatDoor
open Go.RowKit
set_option linter.unusedSimpArgs false
set_option linter.unusedVariables false
set_option maxRecDepth 100000


theorem bit_tmod (b : UInt8) (m : Nat) : (((b.toNat : Int) / 2 ^ m).tmod 2 == 1) = b.toNat.testBit m := by
  have e1 : ((b.toNat : Int) / 2 ^ m) = ((b.toNat / 2 ^ m : Nat) : Int) := by push_cast; rfl
  rw [e1, ← bit_mod]
  have e2 : ((b.toNat / 2 ^ m : Nat) : Int).tmod 2 = ((b.toNat / 2 ^ m % 2 : Nat) : Int) := by rw [Int.tmod_eq_emod_of_nonneg (Int.natCast_nonneg _)]; rfl
  rw [e2]
  rcases Nat.mod_two_eq_zero_or_one (b.toNat / 2 ^ m) with h | h <;> rw [h] <;> rfl


end Go.Proofs.YtlgciddnpinpbaaGreatDoor

namespace Go.Proofs.YtlgciddnpinpbaaGreatDoor
open Go.RowKit
set_option linter.unusedSimpArgs false
set_option linter.unusedVariables false
set_option maxRecDepth 40000

theorem Bundle.single {W : World} {A : Asrt} (h : A.prop W) : Bundle W [A] :=
  ⟨fun i B hi => by
    rcases i with _ | i
    · cases hi; exact h
    · simp at hi, fun i j B C hi hj hne => by
    rcases i with _ | i <;> rcases j with _ | j <;> first | omega | simp at hi hj⟩

/-- A call on one assertion amid others. -/
theorem BunTo.one {M0 R0 : Nat → Prop} {w0 W W' : World} {L : List Asrt} {A A' : Asrt} (h : BunTo W (ownL [A]) (rdL [A]) [A'] W') (H : St M0 R0 w0 W L) (i : Nat) (hi : L[i]? = some A) : St M0 R0 w0 W' (L.set i A') := by
  have e1 : ∀ k, ownL [A] k → A.own k := fun k ⟨B, hB, hk⟩ => by rw [List.mem_singleton] at hB; subst hB; exact hk
  have e2 : ∀ k, rdL [A] k → A.rd k := fun k ⟨B, hB, hk⟩ => by rw [List.mem_singleton] at hB; subst hB; exact hk
  refine H.step i hi (h.fix.mono fun k _ hk => e1 k hk) (h.holds.all 0 A' rfl) ⟨fun k hk => ?_, fun k hk => ?_⟩
  · rcases h.owns k ⟨A', List.mem_singleton.2 rfl, hk⟩ with h | h
    · exact .inl (e1 k h)
    · exact .inr h
  · rcases h.reads k ⟨A', List.mem_singleton.2 rfl, hk⟩ with h | h | h
    · exact .inl (e1 k h)
    · exact .inr (.inl (e2 k h))
    · exact .inr (.inr h)

theorem St.left {M0 R0 : Nat → Prop} {w0 W : World} {A B : List Asrt} (H : St M0 R0 w0 W (A ++ B)) : St M0 R0 w0 W A := by
  have := H.take A.length
  rwa [List.take_left] at this

theorem begin_TX {M0 R0 : Nat → Prop} {w0 W : World} {t : LogT} {gl c n : Nat} {R : List Asrt} (H : St M0 R0 w0 W (t.L gl ++ R)) (ht : t.Ok c) (hn : t.n = n) (hl : ∀ k, k < n → (t.hom k).length = 248) :
    Calls Tryz.prog 16 #[.pointer (some ⟨gl, 0, none⟩)] W fun e W' => ∃ s : TX, e = .returned (.pointer (some ⟨s.g, 0, none⟩)) ∧ s.t = t ∧ s.x.gl = gl ∧ s.Ok c ∧ s.n = n ∧ s.Few ∧ (∀ k, s.V k = (t.hom k, false)) ∧ St M0 R0 w0 W' (s.L ++ R) := by
  refine (begin_calls _).mono ?_
  rintro e W' ⟨g, gm, rfl, h1, h2, h3, hb, hg, hm⟩
  obtain ⟨hok, hV⟩ := TX.begun_ok ht hn hl gl gm g
  have H2 := St.swap (A := t.L gl) (E := R) (R := (TxT.new gl gm n).L g) (H.begun n hb h1 h2 h3 hg hm)
  exact ⟨⟨t, TxT.new gl gm n, g⟩, rfl, rfl, rfl, hok, hn, fun k a b => by rw [hV k], hV, H2⟩

theorem commit_St {M0 R0 : Nat → Prop} {w0 W : World} {s : TX} {c : Nat} {R : List Asrt} (H : St M0 R0 w0 W (s.L ++ errA :: R)) (h : s.Ok c) (hc : c < 400) (hk : (keysOf s.x.f s.x.n).length < 24) (hr : s.t.X.ring = 24) :
    Calls Tryz.prog 20 #[.pointer (some ⟨s.g, 0, none⟩)] W fun e W' => e = .returned (.int .i64 0) ∧ ∃ t' : LogT, t'.Ok (c + 1) ∧ t'.n = s.n ∧ t'.X.ring = 24 ∧ (∀ k, k < s.n → t'.hom k = s.v k) ∧ St M0 R0 w0 W' (t'.L s.x.gl ++ errA :: R) := by
  rw [List.append_cons] at H
  refine (commit_TX (s := s) H.left.bundle h hc hk hr).mono ?_
  rintro e W' ⟨rfl, t', a1, a2, a3, a4, hto⟩
  refine ⟨rfl, t', a1, a2, a3, a4, ?_⟩
  have H2 := hto.front (R := R) H
  rw [List.append_assoc (t'.L s.x.gl ++ s.x.done.L s.g)] at H2
  exact (St.swap (A := t'.L s.x.gl) (E := s.x.done.L s.g) (R := [errA] ++ R) H2).left

theorem abort_St {M0 R0 : Nat → Prop} {w0 W : World} {s : TX} {R : List Asrt} (H : St M0 R0 w0 W (s.L ++ R)) :
    Calls Tryz.prog 21 #[.pointer (some ⟨s.g, 0, none⟩)] W fun e W' => e = .returned (.tuple #[]) ∧ St M0 R0 w0 W' ((⟨s.t, s.x.done, s.g⟩ : TX).L ++ R) := by
  refine (abort_TX (s := s) H.left.bundle).mono ?_
  rintro e W' ⟨rfl, hto⟩
  exact ⟨rfl, hto.front (R := R) H⟩

/-- The transaction goes, the log stays. -/
theorem St.logOnly {M0 R0 : Nat → Prop} {w0 W : World} {s : TX} {R : List Asrt} (H : St M0 R0 w0 W (s.L ++ R)) : St M0 R0 w0 W (s.t.L s.x.gl ++ R) :=
  (St.swap (A := s.t.L s.x.gl) (E := s.x.L s.g) (R := R) H).left

theorem least_free (bs : List Bool) : ∀ n, (∃ i, i < n ∧ bs.getD i false = false ∧ ∀ j, j < i → bs.getD j false = true) ∨ (∀ j, j < n → bs.getD j false = true)
  | 0 => .inr fun j h => by omega
  | n + 1 => by
    rcases least_free bs n with ⟨i, h1, h2⟩ | h
    · exact .inl ⟨i, by omega, h2⟩
    · cases hb : bs.getD n false with
      | false => exact .inl ⟨n, by omega, hb, h⟩
      | true =>
        refine .inr fun j hj => ?_
        rcases Nat.lt_or_ge j n with h2 | h2
        · exact h j h2
        · rw [show j = n by omega]; exact hb

theorem BitsOf.turn {s s2 : TX} {c : Nat} {bs : List Bool} {r v : Nat} (h : BitsOf s.v bs r v) (hc : s.Ok c) (hn : s.n = 34) (i : Nat) (h2 : 2 ≤ i) (hi : i < 34) (b : Bool) (hb : bs.getD i false = !b) (hs : s.To s2 c (updV s.V 1 (turnB (s.v 1) i))) : BitsOf s2.v (bs.set i b) r v := by
  have e1 : s2.v 1 = turnB (s.v 1) i := hs.v 1 (by omega)
  have e0 : s2.v 0 = s.v 0 := hs.v 0 (by omega)
  refine ⟨by rw [List.length_set]; exact h.len, fun k hk => ?_, by rw [e0]; exact h.root, by rw [e0]; exact h.ver, h.rlt, h.vlt⟩
  rw [e1, getDb_set bs i k b (by rw [h.len]; exact hi)]
  rcases Nat.lt_or_ge k 2 with hk2 | hk2
  · rw [if_neg (by omega), ← h.has k hk]
    simp [hasB, hk2]
  · rw [hasB_turn (hc.lens 1 (by omega)) (by omega) hk2, h.has k hk]
    by_cases e : k = i
    · subst e; rw [if_pos rfl, if_pos rfl, hb]; simp
    · rw [if_neg e, if_neg e]

theorem BitsOf.rooted {s s2 : TX} {c : Nat} {bs : List Bool} {r v : Nat} (h : BitsOf s.v bs r v) (hn : s.n = 34) (r' v' : Nat) (hr : r' < 4294967296) (hv : v' < 18446744073709551616) (hs : s.To s2 c (updV s.V 0 (rootB r' v'))) : BitsOf s2.v bs r' v' := by
  have e1 : s2.v 1 = s.v 1 := hs.v 1 (by omega)
  have e0 : s2.v 0 = rootB r' v' := hs.v 0 (by omega)
  have := le_root r' v' hr hv
  exact ⟨h.len, by rw [e1]; exact h.has, by rw [e0]; exact this.1, by rw [e0]; exact this.2, hr, hv⟩

theorem BitsOf.congr {f f' : Nat → List UInt8} {bs : List Bool} {r v : Nat} (h : BitsOf f bs r v) (e : ∀ k, k < 2 → f' k = f k) : BitsOf f' bs r v :=
  ⟨h.len, by rw [e 1 (by omega)]; exact h.has, by rw [e 0 (by omega)]; exact h.root, by rw [e 0 (by omega)]; exact h.ver, h.rlt, h.vlt⟩

theorem BitsOf.fresh {s s2 : TX} {c : Nat} (hn : s.n = 34) (hs : s.To s2 c (updV (updV s.V 0 (rootB 0 1)) 1 newB)) : BitsOf s2.v (true :: true :: List.replicate 32 false) 0 1 := by
  have e1 : s2.v 1 = newB := hs.v 1 (by omega)
  have e0 : s2.v 0 = rootB 0 1 := hs.v 0 (by omega)
  have := le_root 0 1 (by omega) (by omega)
  refine ⟨rfl, fun k hk => ?_, by rw [e0]; exact this.1, by rw [e0]; exact this.2, by omega, by omega⟩
  rw [e1, hasB_new]
  rcases k with _ | _ | k
  · rfl
  · rfl
  · rw [decide_eq_false (by omega), List.getD_cons_succ, List.getD_cons_succ, List.getD_eq_getElem?_getD, List.getElem?_replicate]
    split <;> rfl

theorem BitsOf.low {s : TX} {bs : List Bool} {r v : Nat} (h : BitsOf s.v bs r v) {i : Nat} (hf : bs.getD i false = false) (hi : i < 34) : 2 ≤ i := by
  rcases Nat.lt_or_ge i 2 with h2 | h2
  · rw [← h.has i hi] at hf
    simp [hasB, h2] at hf
  · exact h2

/-- The operations of the law, as cells. -/
def opsV (l : List (Int × Int × Nat)) : List Value := l.flatMap fun x => [.int .i64 x.1, .int .i64 x.2.1, .int .u64 (x.2.2 : Int)]
theorem opsV_get : ∀ (l : List (Int × Int × Nat)) (i : Nat) (x : Int × Int × Nat), l[i]? = some x → (opsV l)[i * 3]? = some (.int .i64 x.1) ∧ (opsV l)[i * 3 + 1]? = some (.int .i64 x.2.1) ∧ (opsV l)[i * 3 + 2]? = some (.int .u64 (x.2.2 : Int))
  | [], i, x, h => by simp at h
  | y :: l, 0, x, h => by
    cases h
    exact ⟨rfl, rfl, rfl⟩
  | y :: l, i + 1, x, h => by
    have ih := opsV_get l i x h
    have e : opsV (y :: l) = [.int .i64 y.1, .int .i64 y.2.1, .int .u64 (y.2.2 : Int)] ++ opsV l := rfl
    rw [e, show (i + 1) * 3 = 3 + i * 3 by omega, show 3 + i * 3 + 1 = 3 + (i * 3 + 1) by omega, show 3 + i * 3 + 2 = 3 + (i * 3 + 2) by omega]
    refine ⟨?_, ?_, ?_⟩
    · rw [List.getElem?_append_right (by simp)]; simpa using ih.1
    · rw [List.getElem?_append_right (by simp)]; simpa using ih.2.1
    · rw [List.getElem?_append_right (by simp)]; simpa using ih.2.2








end Go.Proofs.YtlgciddnpinpbaaGreatDoor

namespace Go.Proofs.YtlgciddnpinpbaaGreatDoor
open Go.RowKit
set_option linter.unusedVariables false

section
variable {M0 R0 : Nat → Prop} {w0 W : World}

theorem list_set_same {α : Type} {l : List α} {i : Nat} {x : α} (h : l[i]? = some x) : l.set i x = l := by
  obtain ⟨h1, rfl⟩ := List.getElem?_eq_some_iff.1 h
  exact List.set_getElem_self h1

theorem eraseIdx_get {L : List Asrt} {i m : Nat} (hi : i < L.length) : (L.eraseIdx i)[m]? = L[if m < i then m else m + 1]? := by
  rw [List.getElem?_eraseIdx]
  split <;> rfl

/-- One is moved to the end. -/
theorem St.pull {L : List Asrt} (H : St M0 R0 w0 W L) (i : Nat) {A : Asrt} (hi : L[i]? = some A) : St M0 R0 w0 W (L.eraseIdx i ++ [A]) := by
  have hlt : i < L.length := (List.getElem?_eq_some_iff.1 hi).1
  have hlen : (L.eraseIdx i).length = L.length - 1 := by rw [List.length_eraseIdx, if_pos hlt]
  refine H.pick (fun m => if m < i then m else if m < L.length - 1 then m + 1 else i) ?_ ?_
  · intro m C hm
    show L[if m < i then m else if m < L.length - 1 then m + 1 else i]? = some C
    rcases Nat.lt_or_ge m (L.length - 1) with h | h
    · rw [List.getElem?_append_left (by omega), eraseIdx_get hlt] at hm
      rw [if_pos h]
      exact hm
    · rw [List.getElem?_append_right (by omega)] at hm
      have h0 := (List.getElem?_eq_some_iff.1 hm).1
      simp only [List.length_singleton] at h0
      have h1 : m = L.length - 1 := by omega
      rw [show m - (L.eraseIdx i).length = 0 by omega] at hm
      rw [if_neg (by omega), if_neg (by omega), hi]
      simpa using hm
  · intro m l hm hl e
    simp only [List.length_append, hlen, List.length_singleton] at hm hl
    split at e <;> split at e <;> (try split at e) <;> (try split at e) <;> omega

/-- A call on the last ones. -/
theorem BunTo.last {W' : World} {R Ls Ls' : List Asrt} (h : BunTo W (ownL Ls) (rdL Ls) Ls' W') (H : St M0 R0 w0 W (R ++ Ls)) : St M0 R0 w0 W' (R ++ Ls') := (h.front H.rotate).rotate
theorem St.lastB {R Ls : List Asrt} (H : St M0 R0 w0 W (R ++ Ls)) : Bundle W Ls := H.rotate.left.bundle

/-- .. on the front ones and one more. -/
theorem St.pickAt {A R : List Asrt} (H : St M0 R0 w0 W (A ++ R)) (j : Nat) {B : Asrt} (hj : R[j]? = some B) : St M0 R0 w0 W ((A ++ [B]) ++ R.eraseIdx j) := by
  have h1 : (A ++ R)[A.length + j]? = some B := by rw [List.getElem?_append_right (by omega), Nat.add_sub_cancel_left]; exact hj
  have H1 := H.pull (A.length + j) h1
  have e : (A ++ R).eraseIdx (A.length + j) = A ++ R.eraseIdx j := by rw [List.eraseIdx_append_of_length_le (by omega), Nat.add_sub_cancel_left]
  rw [e] at H1
  exact St.swap (A := A) (E := R.eraseIdx j) (R := [B]) H1
theorem St.unpickAt {A R : List Asrt} {B : Asrt} (j : Nat) (hj : j < R.length) (H : St M0 R0 w0 W ((A ++ [B]) ++ R.eraseIdx j)) : St M0 R0 w0 W (A ++ R.set j B) := by
  have hlen : (R.eraseIdx j).length = R.length - 1 := by rw [List.length_eraseIdx, if_pos hj]
  refine H.pick (fun m => if m < A.length then m else if m - A.length < j then m + 1 else if m - A.length = j then A.length else m) ?_ ?_
  · intro m C hm
    show ((A ++ [B]) ++ R.eraseIdx j)[if m < A.length then m else if m - A.length < j then m + 1 else if m - A.length = j then A.length else m]? = some C
    rcases Nat.lt_or_ge m A.length with h | h
    · rw [if_pos h, List.append_assoc, List.getElem?_append_left h]
      rw [List.getElem?_append_left h] at hm; exact hm
    · rw [List.getElem?_append_right h, List.getElem?_set] at hm
      rw [if_neg (by omega)]
      by_cases h1 : m - A.length = j
      · rw [if_neg (by omega), if_pos h1]
        rw [if_pos h1.symm, if_pos hj] at hm
        rw [List.append_assoc, List.getElem?_append_right (by omega), Nat.sub_self]
        simpa using hm
      · rw [if_neg (fun e => h1 e.symm)] at hm
        by_cases h2 : m - A.length < j
        · rw [if_pos h2, List.append_assoc, List.getElem?_append_right (by omega), show m + 1 - A.length = (m - A.length) + 1 by omega]
          show (R.eraseIdx j)[m - A.length]? = some C
          rw [eraseIdx_get hj, if_pos h2]; exact hm
        · rw [if_neg h2, if_neg h1, List.append_assoc, List.getElem?_append_right (by omega)]
          obtain ⟨q, hq⟩ : ∃ q, m - A.length = q + 1 := ⟨m - A.length - 1, by omega⟩
          rw [hq] at hm ⊢
          show (R.eraseIdx j)[q]? = some C
          rw [eraseIdx_get hj, if_neg (by omega)]; exact hm
  · intro m l hm hl e
    simp only [List.length_append, List.length_set] at hm hl
    split at e <;> split at e <;> (try split at e) <;> (try split at e) <;> (try split at e) <;> (try split at e) <;> omega

theorem BunTo.at {W' : World} {A A' R : List Asrt} {B B' : Asrt} (j : Nat) (h : BunTo W (ownL (A ++ [B])) (rdL (A ++ [B])) (A' ++ [B']) W') (H : St M0 R0 w0 W (A ++ R)) (hj : R[j]? = some B) : St M0 R0 w0 W' (A' ++ R.set j B') :=
  St.unpickAt j (List.getElem?_eq_some_iff.1 hj).1 (h.front (H.pickAt j hj))
end

theorem rdB_of_row {W : World} {g : Nat} {xs : List Value} {t : TypeId} (h : W.heap[g]? = some (.cells xs.toArray t (0, 0))) : (rdA (some ⟨g, 0, none⟩) xs).prop W :=
  .inr ⟨g, 0, rfl, (Array.getElem?_eq_some_iff.1 h).1, fun i x hi => by rw [Nat.zero_add]; exact row_cell h (by simpa using hi)⟩
theorem rdB_front {W : World} {g : Nat} {xs junk : List Value} {t : TypeId} {fr : Nat × Nat} (h : W.heap[g]? = some (.cells (xs ++ junk).toArray t fr)) : (rdA (some ⟨g, 0, none⟩) xs).prop W :=
  .inr ⟨g, 0, rfl, (Array.getElem?_eq_some_iff.1 h).1, fun i x hi => by
    rw [Nat.zero_add]
    exact row_cell h (by
      have hlt := (List.getElem?_eq_some_iff.1 hi).1
      simp only [List.getElem?_toArray]
      rw [List.getElem?_append_left hlt]; exact hi)⟩
theorem rdB_pre {W : World} {p : Option Addr} {xs ys : List Value} (h : (rdA p (xs ++ ys)).prop W) : (rdA p xs).prop W := by
  rcases h with h | ⟨g, off, e, hg, h⟩
  · exact .inl (List.append_eq_nil_iff.1 h).1
  · refine .inr ⟨g, off, e, hg, fun i x hi => h i x ?_⟩
    rw [List.getElem?_append_left (List.getElem?_eq_some_iff.1 hi).1]; exact hi
theorem rdB_suf {W : World} {g off : Nat} {xs ys : List Value} (k : Nat) (hk : xs.length = k) (h : (rdA (some ⟨g, off, none⟩) (xs ++ ys)).prop W) : (rdA (some ⟨g, off + k, none⟩) ys).prop W := by
  subst hk
  rcases h with h | ⟨g', off', e, hg, h⟩
  · exact .inl (List.append_eq_nil_iff.1 h).2
  · cases e
    refine .inr ⟨g, off + xs.length, rfl, hg, fun i x hi => ?_⟩
    rw [Nat.add_assoc]
    refine h (xs.length + i) x ?_
    rw [List.getElem?_append_right (by omega), Nat.add_sub_cancel_left]; exact hi
theorem rdB_mid {W : World} {g off : Nat} {xs : List Value} (h : (rdA (some ⟨g, off, none⟩) xs).prop W) (k : Nat) (vs : List Value) (hv : ∀ j v, vs[j]? = some v → xs[k + j]? = some v) : ∀ j v, vs[j]? = some v → W.cell? ⟨g, off + k + j, none⟩ = some v := fun j v hj => by
  rw [Nat.add_assoc]; exact rdA_cell h (hv j v hj)

end Go.Proofs.YtlgciddnpinpbaaGreatDoor

namespace Go.Proofs.YtlgciddnpinpbaaGreatDoor
open Go.RowKit
set_option linter.unusedSimpArgs false
set_option linter.unusedVariables false
set_option maxRecDepth 40000

theorem zero34 : (Tryz.prog.info? 30).bind (·.zero) = some (.agg (byteV (List.replicate 34 (0 : UInt8))).toArray) := by kernel_rfl
theorem size34 : (Tryz.prog.info? 30).map (·.size) = some 34 := by kernel_rfl
theorem byteV_getD {l : List UInt8} {i : Nat} (h : i < l.length) : (byteV l).toArray[i]? = some (.int .u8 ((l.getD i 0).toNat : Int)) := by
  simp [byteV, List.getD_eq_getElem?_getD, h]
def txA (gl gm : Nat) (M : DataW Value) (rm : Nat → Prop) (xs : List UInt8) (g : Nat) : List Asrt := (TxT.mk gl gm M rm (optOf xs) false 34).L g
theorem txA_new (gl gm g : Nat) : (TxT.new gl gm 34).L g = txA gl gm (.map []) NoBlk (List.replicate 34 0) g := by
  unfold txA TxT.new
  rw [optOf_zero]
theorem txA_wrote {gl gm g q : Nat} {M : DataW Value} {rm : Nat → Prop} {xs : List UInt8} {v : UInt8} (M' : DataW Value) (rm' : Nat → Prop) (hq : q < xs.length) (hv : v ≠ 0) :
    ((TxT.mk gl gm M rm (optOf xs) false 34).wrote q (fullH v) M' rm').L g = txA gl gm M' rm' (xs.set q v) g := by
  unfold txA TxT.wrote
  rw [optOf_set hq hv]
theorem keys_set {xs : List UInt8} {q : Nat} {v : UInt8} (hq : q < xs.length) (hv : v ≠ 0) {j : Nat} (h : (keysOf (optOf xs) 34).length ≤ j) : (keysOf (optOf (xs.set q v)) 34).length ≤ j + 1 := by
  rw [optOf_set hq hv]
  have := keysOf_wrote (optOf xs) q 34 (fullH v)
  omega
theorem St.setOne {M0 R0 : Nat → Prop} {w0 W : World} {L : List Asrt} (H : St M0 R0 w0 W L) (i : Nat) {g off : Nat} {t : TypeId} {old : Array Value} {v : Value} (hi : L[i]? = some (blk g (.cells old t (0, 0)))) : St M0 R0 w0 (W.setCell ⟨g, off, none⟩ v) (L.set i (blk g (.cells (old.setIfInBounds off v) t (0, 0)))) := by
  rw [setCell_eq_setRow W g off old t (0, 0) v (H.at i hi)]; exact H.setRow i hi _
theorem byte_of {n : Nat} (h : n < 256) : ∃ v : UInt8, (v.toNat : Int) = (n : Int) ∧ (0 < n → v ≠ 0) :=
  ⟨UInt8.ofNat n, by rw [UInt8.toNat_ofNat']; omega, fun h0 e => by
    have := congrArg UInt8.toNat e
    rw [UInt8.toNat_ofNat'] at this
    simp at this; omega⟩

set_option maxHeartbeats 32000000 in
theorem txnApart_short (w : World) (pa : Option Addr) (av : List UInt8) (ca : Nat) (pb : Option Addr) (bv : List UInt8) (cb : Nat) (ab : Bool) (h1 : av.length ≤ 20) (h2 : bv.length ≤ 20) (hg : errA.prop w) (ha : (rdA pa (byteV av)).prop w) (hb : (rdA pb (byteV bv)).prop w) :
    Calls Tryz.prog 3 #[.slice pa av.length ca, .slice pb bv.length cb, .bool ab] w fun e w' => e = .returned (.bool true) ∧ Below w.heap.size w w' := by
  have H := St.reads_only (w := w) [errA, rdA pa (byteV av), rdA pb (byteV bv)] (by
    intro B hB
    simp only [List.mem_cons, List.not_mem_nil, or_false] at hB
    rcases hB with rfl | rfl | rfl
    · exact ⟨hg, fun _ h => h⟩
    · exact ⟨ha, fun _ h => h⟩
    · exact ⟨hb, fun _ h => h⟩)
  have hl1 : (av.length : Int) ≤ 20 := by omega
  have hl2 : (bv.length : Int) ≤ 20 := by omega
  have hl3 : ¬ (20 < (av.length : Int)) := by omega
  have hl4 : ¬ (20 < (bv.length : Int)) := by omega
  have HL1 := Lib.hid h1
  have HL2 := Lib.hid h2
  clear hg ha hb h1 h2
  have tok1 : True := trivial
  go_enter Tryz.func3, Tryz.ntmps3
  go_upto_region 7 with (first
    | (go_at_call 14; go_loud ((refine (begun19_calls _ (H.at 0 rfl)).mono ?_); rintro e W ⟨rfl, hb⟩; replace H := H.stay (Fix.of_below hb _); clear hb))
    | (go_at_call 15; go_loud ((refine (new19_calls _ 60 34 rfl rfl (by omega) (by omega) _).mono ?_); rintro e W ⟨gd, gl, t, rfl, hnew, hto⟩; replace H := (hto.fresh H).rotate; clear hto))
    | (go_at_call 16; have _t := tok1; clear _t; go_loud ((refine (begin_calls _).mono ?_); rintro e W ⟨gs, gm1, rfl, h1, h2, h3, hb, hg, hm⟩; replace H := St.swap (A := t.L gl) (E := [errA, rdA pa (byteV av), rdA pb (byteV bv)]) (R := (TxT.new gl gm1 34).L gs) (H.begun 34 hb h1 h2 h3 hg hm); clear h1 h2 h3 hb hg hm tok1))
    | (go_at_call 16; go_loud ((refine (begin_calls _).mono ?_); rintro e W ⟨gu, gm2, rfl, h1, h2, h3, hb, hg, hm⟩; replace H := St.swap (A := t.L gl ++ (TxT.new gl gm1 34).L gs) (E := [errA, rdA pa (byteV av), rdA pb (byteV bv)]) (R := (TxT.new gl gm2 34).L gu) (H.begun 34 hb h1 h2 h3 hg hm); clear h1 h2 h3 hb hg hm)))
  have HNEW := Lib.hid hnew
  clear hnew
  rw [txA_new, txA_new] at H
  have tokx : True := trivial
  have toky : True := trivial
  have tokz : True := trivial
  go_upto_region 9 with (first | (have _t := tokx; clear _t; refine wpList_alloc_st H rfl 30 rfl _ zero34 ?_; clear H tokx; intro W gx H; (try simp only [cells_arrV, List.nil_append, List.cons_append, List.set_cons_zero, List.set_cons_succ] at H)) | (have _t := toky; clear _t; refine wpList_alloc_st H rfl 30 rfl _ zero34 ?_; clear H toky; intro W gy H; (try simp only [cells_arrV, List.nil_append, List.cons_append, List.set_cons_zero, List.set_cons_succ] at H)) | (have _t := tokz; clear _t; refine wpList_alloc_st H rfl 30 rfl _ zero34 ?_; clear H tokz; intro W gz H; (try simp only [cells_arrV, List.nil_append, List.cons_append, List.set_cons_zero, List.set_cons_succ] at H)))

  replace H : St NoBlk (fun _ => True) w _ (t.L gl ++ txA gl gm1 (.map []) NoBlk (List.replicate 34 0) gs ++ txA gl gm2 (.map []) NoBlk (List.replicate 34 0) gu ++ [errA, rdA pa (byteV av), rdA pb (byteV bv), blk gx (.cells (byteV (List.replicate 34 0)).toArray 30 (0, 0)), blk gy (.cells (byteV (List.replicate 34 0)).toArray 30 (0, 0)), blk gz (.cells (byteV (List.replicate 34 0)).toArray 30 (0, 0))]) := H
  go_loopw [14] (fun u wr => ∃ (j : Nat) (M : DataW Value) (rm : Nat → Prop) (xs : List UInt8), u = .int .i64 (j : Int) ∧ j ≤ av.length ∧ xs.length = 34 ∧ (keysOf (optOf xs) 34).length ≤ j ∧
    St NoBlk (fun _ => True) w wr (t.L gl ++ txA gl gm1 M rm xs gs ++ txA gl gm2 (.map []) NoBlk (List.replicate 34 0) gu ++ [errA, rdA pa (byteV av), rdA pb (byteV bv), blk gx (.cells (byteV xs).toArray 30 (0, 0)), blk gy (.cells (byteV (List.replicate 34 0)).toArray 30 (0, 0)), blk gz (.cells (byteV (List.replicate 34 0)).toArray 30 (0, 0))])) (fun u _ => av.length - (intOf u).toNat)
  case atStart => exact ⟨0, .map [], NoBlk, List.replicate 34 0, rfl, Nat.zero_le _, rfl, by rw [optOf_zero, keysOf_none]; exact Nat.le_refl _, H⟩
  case round =>
    clear H
    obtain ⟨j, M, rm, xs, rfl, hj, hxl, hkx, H⟩ := hrel
    have HXL := Lib.hid hxl
    have HKX := Lib.hid hkx
    clear hxl hkx
    have hj0 : 0 ≤ (j : Int) := by omega
    rcases Nat.lt_or_ge j av.length with hlt | hge
    · have hjj : (j : Int) < (av.length : Int) := by omega
      have HJ := Lib.hid hlt
      obtain ⟨x, hx⟩ : ∃ x, av[j]? = some x := ⟨_, List.getElem?_eq_getElem hlt⟩
      obtain ⟨ga, oa, hpa, hcell⟩ : ∃ ga oa, pa = some ⟨ga, oa, none⟩ ∧ wr.cell? ⟨ga, oa + j, none⟩ = some (.int .u8 (x.toNat : Int)) := by
        have hv : (byteV av)[j]? = some (.int .u8 (x.toNat : Int)) := by simp [byteV, hx]
        obtain ⟨ga, oa, e, _⟩ := rdA_at (H.at 11 rfl) hv
        subst e
        exact ⟨ga, oa, rfl, rdA_cell (H.at 11 rfl) hv⟩
      subst hpa
      have hx0 : 0 ≤ (x.toNat : Int) := by omega
      have hx9 : (x.toNat : Int) < 256 := by have := x.toNat_lt; omega
      obtain ⟨q, hq, hq2⟩ : ∃ q : Nat, (x.toNat : Int).tmod 34 = (q : Int) ∧ q < 34 := ⟨x.toNat % 34, by rw [Int.tmod_eq_emod_of_nonneg (by omega)]; omega, by omega⟩
      have hqi : (q : Int) < 34 := by omega
      have hq0 : 0 ≤ (q : Int) := by omega
      have HQ := Lib.hid hq2
      obtain ⟨v, hv, hvz⟩ := byte_of (n := j + 1) (by have := HL1.out; omega)
      have HV := Lib.hid (show (v.toNat : Int) = (j : Int) + 1 by omega)
      have HVZ := Lib.hid (hvz (by omega))
      clear hx hlt hj hv hvz hq2
      go_upto_region 13 with (first
        | (refine wpList_store1_st H 13 rfl 5 _ _ rfl gx q (.int .u8 (v.toNat : Int)) (by first | rfl | simp) (by rw [HV.out]; rfl) rfl _ _ rfl size_u8 (by have h1 := HQ.out; have h2 := HXL.out; simp [byteV]; omega) ?_; clear H hcell; intro W H))
      rw [byteV_set] at H
      replace H : St NoBlk (fun _ => True) w W (t.L gl ++ txA gl gm1 M rm xs gs ++ txA gl gm2 (.map []) NoBlk (List.replicate 34 0) gu ++ [errA, rdA (some ⟨ga, oa, none⟩) (byteV av), rdA pb (byteV bv), blk gx (.cells (byteV (xs.set q v)).toArray 30 (0, 0)), blk gy (.cells (byteV (List.replicate 34 0)).toArray 30 (0, 0)), blk gz (.cells (byteV (List.replicate 34 0)).toArray 30 (0, 0))]) := H
      have hcx : W.cell? ⟨gx, q, none⟩ = some (.int .u8 (v.toNat : Int)) := row_cell (H.at 13 rfl) (by rw [byteV_getD (by rw [List.length_set, HXL.out]; exact HQ.out), getD_set (by rw [HXL.out]; exact HQ.out), if_pos rfl])
      clear hx0 hx9 hq
      go_wp2_with (first
        | (go_at_call 18; go_loud ((refine (full19_calls _ v rfl _).mono ?_); rintro e W ⟨gf, rfl, hgf, hff, hb⟩; replace H := H.add (Fix.of_below hb _) (ownB gf 0 (fullH v)) hff (fun k hk => by rw [show k = gf from hk]; exact hgf) (fun k hk => hk.elim); clear hgf hff hb hcx; replace H := St.swap (A := t.L gl ++ txA gl gm1 M rm xs gs) (E := txA gl gm2 (.map []) NoBlk (List.replicate 34 0) gu ++ [errA, rdA (some ⟨ga, oa, none⟩) (byteV av), rdA pb (byteV bv), blk gx (.cells (byteV (xs.set q v)).toArray 30 (0, 0)), blk gy (.cells (byteV (List.replicate 34 0)).toArray 30 (0, 0)), blk gz (.cells (byteV (List.replicate 34 0)).toArray 30 (0, 0))]) (R := [ownB gf 0 (fullH v)]) H))
        | (go_at_call 17; go_loud ((refine (twrite_ok (t := t) (x := TxT.mk gl gm1 M rm (optOf xs) false 34) (H.take 8).bundle HNEW.out.ok rfl HNEW.out.n.symm _ q rfl (by rw [HNEW.out.n]; exact HQ.out) (B := ownB gf 0 (fullH v)) (fun W h => ⟨ownB_bytes h, ownB_lt h⟩) (fullH_len v)).mono ?_); rintro e W ⟨rfl, M1, rm1, hto⟩; replace H := hto.front (R := txA gl gm2 (.map []) NoBlk (List.replicate 34 0) gu ++ [errA, rdA (some ⟨ga, oa, none⟩) (byteV av), rdA pb (byteV bv), blk gx (.cells (byteV (xs.set q v)).toArray 30 (0, 0)), blk gy (.cells (byteV (List.replicate 34 0)).toArray 30 (0, 0)), blk gz (.cells (byteV (List.replicate 34 0)).toArray 30 (0, 0))]) H; clear hto; rw [txA_wrote M1 rm1 (by rw [HXL.out]; exact HQ.out) HVZ.out] at H; replace H := (St.swap (A := t.L gl ++ txA gl gm1 M1 rm1 (xs.set q v) gs) (E := [ownB gf 0 (fullH v)]) (R := txA gl gm2 (.map []) NoBlk (List.replicate 34 0) gu ++ [errA, rdA (some ⟨ga, oa, none⟩) (byteV av), rdA pb (byteV bv), blk gx (.cells (byteV (xs.set q v)).toArray 30 (0, 0)), blk gy (.cells (byteV (List.replicate 34 0)).toArray 30 (0, 0)), blk gz (.cells (byteV (List.replicate 34 0)).toArray 30 (0, 0))]) H).left; rw [← List.append_assoc] at H)))
      go_roundw
      case rel => exact ⟨j + 1, M1, rm1, xs.set q v, congrArg _ (by omega), HJ.out, by rw [List.length_set]; exact HXL.out, keys_set (by rw [HXL.out]; exact HQ.out) HVZ.out HKX.out, H⟩
      case measure => have := HJ.out; simp [intOf]; omega
    · obtain rfl : j = av.length := by omega
      have hjj : ¬ ((av.length : Int) < (av.length : Int)) := by omega
      go_upto_region 16 with fail
      replace H : St NoBlk (fun _ => True) w _ (t.L gl ++ txA gl gm1 M rm xs gs ++ txA gl gm2 (.map []) NoBlk (List.replicate 34 0) gu ++ [errA, rdA pa (byteV av), rdA pb (byteV bv), blk gx (.cells (byteV xs).toArray 30 (0, 0)), blk gy (.cells (byteV (List.replicate 34 0)).toArray 30 (0, 0)), blk gz (.cells (byteV (List.replicate 34 0)).toArray 30 (0, 0))]) := H
      have HK20 := Lib.hid (show (keysOf (optOf xs) 34).length ≤ 20 from Nat.le_trans HKX.out HL1.out)
      clear HKX hj hge
      go_loopw [16] (fun u wr => ∃ (j : Nat) (M2 : DataW Value) (rm2 : Nat → Prop) (ys : List UInt8), u = .int .i64 (j : Int) ∧ j ≤ bv.length ∧ ys.length = 34 ∧ (keysOf (optOf ys) 34).length ≤ j ∧
        St NoBlk (fun _ => True) w wr (t.L gl ++ txA gl gm1 M rm xs gs ++ txA gl gm2 M2 rm2 ys gu ++ [errA, rdA pa (byteV av), rdA pb (byteV bv), blk gx (.cells (byteV xs).toArray 30 (0, 0)), blk gy (.cells (byteV ys).toArray 30 (0, 0)), blk gz (.cells (byteV (List.replicate 34 0)).toArray 30 (0, 0))])) (fun u _ => bv.length - (intOf u).toNat)
      case atStart => exact ⟨0, .map [], NoBlk, List.replicate 34 0, rfl, Nat.zero_le _, rfl, by rw [optOf_zero, keysOf_none]; exact Nat.le_refl _, H⟩
      case round =>
        clear H
        obtain ⟨j, M2, rm2, ys, rfl, hj, hyl, hky, H⟩ := hrel
        have HYL := Lib.hid hyl
        have HKY := Lib.hid hky
        clear hyl hky
        have hj0 : 0 ≤ (j : Int) := by omega
        rcases Nat.lt_or_ge j bv.length with hlt | hge
        · have hjj : (j : Int) < (bv.length : Int) := by omega
          have HJ := Lib.hid hlt
          obtain ⟨x, hx⟩ : ∃ x, bv[j]? = some x := ⟨_, List.getElem?_eq_getElem hlt⟩
          obtain ⟨ga, oa, hpb, hcell⟩ : ∃ ga oa, pb = some ⟨ga, oa, none⟩ ∧ wr.cell? ⟨ga, oa + j, none⟩ = some (.int .u8 (x.toNat : Int)) := by
            have hv : (byteV bv)[j]? = some (.int .u8 (x.toNat : Int)) := by simp [byteV, hx]
            obtain ⟨ga, oa, e, _⟩ := rdA_at (H.at 12 rfl) hv
            subst e
            exact ⟨ga, oa, rfl, rdA_cell (H.at 12 rfl) hv⟩
          subst hpb
          have hx0 : 0 ≤ (x.toNat : Int) := by omega
          have hx9 : (x.toNat : Int) < 256 := by have := x.toNat_lt; omega
          obtain ⟨q, hq, hq2⟩ : ∃ q : Nat, (x.toNat : Int).tmod 34 = (q : Int) ∧ q < 34 := ⟨x.toNat % 34, by rw [Int.tmod_eq_emod_of_nonneg (by omega)]; omega, by omega⟩
          have hqi : (q : Int) < 34 := by omega
          have hq0 : 0 ≤ (q : Int) := by omega
          have HQ := Lib.hid hq2
          obtain ⟨v, hv, hvz⟩ := byte_of (n := j + 100) (by have := HL2.out; omega)
          have HV := Lib.hid (show (v.toNat : Int) = (j : Int) + 100 by omega)
          have HVZ := Lib.hid (hvz (by omega))
          clear hx hlt hj hv hvz hq2
          go_upto_region 20 with (first
            | (refine wpList_store1_st H 14 rfl 5 _ _ rfl gy q (.int .u8 (v.toNat : Int)) (by first | rfl | simp) (by rw [HV.out]; rfl) rfl _ _ rfl size_u8 (by have h1 := HQ.out; have h2 := HYL.out; simp [byteV]; omega) ?_; clear H hcell; intro W H))
          rw [byteV_set] at H
          replace H : St NoBlk (fun _ => True) w W (t.L gl ++ txA gl gm1 M rm xs gs ++ txA gl gm2 M2 rm2 ys gu ++ [errA, rdA pa (byteV av), rdA (some ⟨ga, oa, none⟩) (byteV bv), blk gx (.cells (byteV xs).toArray 30 (0, 0)), blk gy (.cells (byteV (ys.set q v)).toArray 30 (0, 0)), blk gz (.cells (byteV (List.replicate 34 0)).toArray 30 (0, 0))]) := H
          have hcx : W.cell? ⟨gy, q, none⟩ = some (.int .u8 (v.toNat : Int)) := row_cell (H.at 14 rfl) (by rw [byteV_getD (by rw [List.length_set, HYL.out]; exact HQ.out), getD_set (by rw [HYL.out]; exact HQ.out), if_pos rfl])
          clear hx0 hx9 hq
          go_wp2_with (first
            | (go_at_call 18; go_loud ((refine (full19_calls _ v rfl _).mono ?_); rintro e W ⟨gf, rfl, hgf, hff, hb⟩; replace H := H.add (Fix.of_below hb _) (ownB gf 0 (fullH v)) hff (fun k hk => by rw [show k = gf from hk]; exact hgf) (fun k hk => hk.elim); clear hgf hff hb hcx; replace H := St.swap (A := t.L gl) (E := txA gl gm1 M rm xs gs) (R := txA gl gm2 M2 rm2 ys gu ++ ([errA, rdA pa (byteV av), rdA (some ⟨ga, oa, none⟩) (byteV bv), blk gx (.cells (byteV xs).toArray 30 (0, 0)), blk gy (.cells (byteV (ys.set q v)).toArray 30 (0, 0)), blk gz (.cells (byteV (List.replicate 34 0)).toArray 30 (0, 0))] ++ [ownB gf 0 (fullH v)])) H; replace H := St.swap (A := t.L gl ++ txA gl gm2 M2 rm2 ys gu) (E := [errA, rdA pa (byteV av), rdA (some ⟨ga, oa, none⟩) (byteV bv), blk gx (.cells (byteV xs).toArray 30 (0, 0)), blk gy (.cells (byteV (ys.set q v)).toArray 30 (0, 0)), blk gz (.cells (byteV (List.replicate 34 0)).toArray 30 (0, 0))]) (R := [ownB gf 0 (fullH v)] ++ txA gl gm1 M rm xs gs) H))
            | (go_at_call 17; go_loud ((refine (twrite_ok (t := t) (x := TxT.mk gl gm2 M2 rm2 (optOf ys) false 34) (H.take 8).bundle HNEW.out.ok rfl HNEW.out.n.symm _ q rfl (by rw [HNEW.out.n]; exact HQ.out) (B := ownB gf 0 (fullH v)) (fun W h => ⟨ownB_bytes h, ownB_lt h⟩) (fullH_len v)).mono ?_); rintro e W ⟨rfl, M1, rm1, hto⟩; replace H := hto.front (R := txA gl gm1 M rm xs gs ++ [errA, rdA pa (byteV av), rdA (some ⟨ga, oa, none⟩) (byteV bv), blk gx (.cells (byteV xs).toArray 30 (0, 0)), blk gy (.cells (byteV (ys.set q v)).toArray 30 (0, 0)), blk gz (.cells (byteV (List.replicate 34 0)).toArray 30 (0, 0))]) H; clear hto; rw [txA_wrote M1 rm1 (by rw [HYL.out]; exact HQ.out) HVZ.out] at H; replace H := (St.swap (A := t.L gl) (E := txA gl gm2 M1 rm1 (ys.set q v) gu ++ [ownB gf 0 (fullH v)]) (R := txA gl gm1 M rm xs gs ++ [errA, rdA pa (byteV av), rdA (some ⟨ga, oa, none⟩) (byteV bv), blk gx (.cells (byteV xs).toArray 30 (0, 0)), blk gy (.cells (byteV (ys.set q v)).toArray 30 (0, 0)), blk gz (.cells (byteV (List.replicate 34 0)).toArray 30 (0, 0))]) H); replace H := (St.swap (A := t.L gl ++ txA gl gm1 M rm xs gs) (E := [errA, rdA pa (byteV av), rdA (some ⟨ga, oa, none⟩) (byteV bv), blk gx (.cells (byteV xs).toArray 30 (0, 0)), blk gy (.cells (byteV (ys.set q v)).toArray 30 (0, 0)), blk gz (.cells (byteV (List.replicate 34 0)).toArray 30 (0, 0))]) (R := txA gl gm2 M1 rm1 (ys.set q v) gu ++ [ownB gf 0 (fullH v)]) H); replace H := (St.swap (A := t.L gl ++ txA gl gm1 M rm xs gs ++ txA gl gm2 M1 rm1 (ys.set q v) gu) (E := [ownB gf 0 (fullH v)]) (R := [errA, rdA pa (byteV av), rdA (some ⟨ga, oa, none⟩) (byteV bv), blk gx (.cells (byteV xs).toArray 30 (0, 0)), blk gy (.cells (byteV (ys.set q v)).toArray 30 (0, 0)), blk gz (.cells (byteV (List.replicate 34 0)).toArray 30 (0, 0))]) H).left)))
          go_roundw
          case rel => exact ⟨j + 1, M1, rm1, ys.set q v, congrArg _ (by omega), HJ.out, by rw [List.length_set]; exact HYL.out, keys_set (by rw [HYL.out]; exact HQ.out) HVZ.out HKY.out, H⟩
          case measure => have := HJ.out; simp [intOf]; omega
        · obtain rfl : j = bv.length := by omega
          have hjj : ¬ ((bv.length : Int) < (bv.length : Int)) := by omega
          have HK20b := Lib.hid (show (keysOf (optOf ys) 34).length ≤ 20 from Nat.le_trans HKY.out HL2.out)
          clear HKY hj hge
          go_upto_region 23 with fail
          replace H : St NoBlk (fun _ => True) w _ (t.L gl ++ txA gl gm1 M rm xs gs ++ txA gl gm2 M2 rm2 ys gu ++ [errA, rdA pa (byteV av), rdA pb (byteV bv), blk gx (.cells (byteV xs).toArray 30 (0, 0)), blk gy (.cells (byteV ys).toArray 30 (0, 0)), blk gz (.cells (byteV (List.replicate 34 0)).toArray 30 (0, 0))]) := H
          go_loopw [18] (fun u wr => ∃ (i : Nat), u = .int .i64 (i : Int) ∧ i ≤ 34 ∧ St NoBlk (fun _ => True) w wr (t.L gl ++ txA gl gm1 M rm xs gs ++ txA gl gm2 M2 rm2 ys gu ++ [errA, rdA pa (byteV av), rdA pb (byteV bv), blk gx (.cells (byteV xs).toArray 30 (0, 0)), blk gy (.cells (byteV ys).toArray 30 (0, 0)), blk gz (.cells (byteV (List.replicate 34 0)).toArray 30 (0, 0))])) (fun u _ => 34 - (intOf u).toNat)
          case atStart => exact ⟨0, rfl, Nat.zero_le _, H⟩
          case round =>
            clear H
            obtain ⟨i, rfl, hi, H⟩ := hrel
            have hi0 : 0 ≤ (i : Int) := by omega
            rcases Nat.lt_or_ge i 34 with hlt | hge
            · have hii : (i : Int) < 34 := by omega
              have HI := Lib.hid hlt
              obtain ⟨xv, hxv⟩ : ∃ v, xs.getD i 0 = v := ⟨_, rfl⟩
              obtain ⟨yv, hyv⟩ : ∃ v, ys.getD i 0 = v := ⟨_, rfl⟩
              have HCX := Lib.hid (show (byteV xs).toArray[i]? = some (.int .u8 (xv.toNat : Int)) by rw [byteV_getD (by rw [HXL.out]; exact hlt), hxv])
              have HCY := Lib.hid (show (byteV ys).toArray[i]? = some (.int .u8 (yv.toNat : Int)) by rw [byteV_getD (by rw [HYL.out]; exact hlt), hyv])
              have HVX := Lib.hid (show (TxT.mk gl gm1 M rm (optOf xs) false 34).view t i = fullH xv by
                show (optOf xs i).getD (t.hom i) = _
                rw [HNEW.out.hom i hlt, noHome_fullA, optOf_full, hxv])
              have HVY := Lib.hid (show (TxT.mk gl gm2 M2 rm2 (optOf ys) false 34).view t i = fullH yv by
                show (optOf ys i).getD (t.hom i) = _
                rw [HNEW.out.hom i hlt, noHome_fullA, optOf_full, hyv])
              clear hxv hyv hlt hi
              go_upto_region 26 with (first
                | (go_at_call 19; go_loud ((refine (tread_in (t := t) (x := TxT.mk gl gm1 M rm (optOf xs) false 34) (H.take 7).bundle HNEW.out.ok rfl HNEW.out.n.symm _ i rfl (by rw [HNEW.out.n]; exact HI.out)).mono ?_); rintro e W ⟨gp, op, cp, rfl, hlc, hcc, hgc, hto⟩; replace H := hto.front2 (R := txA gl gm2 M2 rm2 ys gu ++ [errA, rdA pa (byteV av), rdA pb (byteV bv), blk gx (.cells (byteV xs).toArray 30 (0, 0)), blk gy (.cells (byteV ys).toArray 30 (0, 0)), blk gz (.cells (byteV (List.replicate 34 0)).toArray 30 (0, 0))]) H; clear hto hlc hcc hgc; rw [HVX.out] at H)))
              replace H : St NoBlk (fun _ => True) w _ (t.L gl ++ txA gl gm1 M rm xs gs ++ txA gl gm2 M2 rm2 ys gu ++ [errA, rdA pa (byteV av), rdA pb (byteV bv), blk gx (.cells (byteV xs).toArray 30 (0, 0)), blk gy (.cells (byteV ys).toArray 30 (0, 0)), blk gz (.cells (byteV (List.replicate 34 0)).toArray 30 (0, 0))] ++ [ownB gp op (fullH xv)]) := H
              replace H := St.swap (A := t.L gl) (E := txA gl gm1 M rm xs gs) (R := txA gl gm2 M2 rm2 ys gu ++ ([errA, rdA pa (byteV av), rdA pb (byteV bv), blk gx (.cells (byteV xs).toArray 30 (0, 0)), blk gy (.cells (byteV ys).toArray 30 (0, 0)), blk gz (.cells (byteV (List.replicate 34 0)).toArray 30 (0, 0))] ++ [ownB gp op (fullH xv)])) H
              go_upto_region 27 with (first
                | (go_at_call 19; go_loud ((refine (tread_in (t := t) (x := TxT.mk gl gm2 M2 rm2 (optOf ys) false 34) (H.take 7).bundle HNEW.out.ok rfl HNEW.out.n.symm _ i rfl (by rw [HNEW.out.n]; exact HI.out)).mono ?_); rintro e W ⟨gq, oq, cq, rfl, hlc, hcc, hgc, hto⟩; replace H := hto.front2 (R := ([errA, rdA pa (byteV av), rdA pb (byteV bv), blk gx (.cells (byteV xs).toArray 30 (0, 0)), blk gy (.cells (byteV ys).toArray 30 (0, 0)), blk gz (.cells (byteV (List.replicate 34 0)).toArray 30 (0, 0))] ++ [ownB gp op (fullH xv)]) ++ txA gl gm1 M rm xs gs) H; clear hto hlc hcc hgc; rw [HVY.out] at H)))
              replace H := St.swap (A := t.L gl) (E := txA gl gm2 M2 rm2 ys gu ++ ([errA, rdA pa (byteV av), rdA pb (byteV bv), blk gx (.cells (byteV xs).toArray 30 (0, 0)), blk gy (.cells (byteV ys).toArray 30 (0, 0)), blk gz (.cells (byteV (List.replicate 34 0)).toArray 30 (0, 0))] ++ [ownB gp op (fullH xv)])) (R := txA gl gm1 M rm xs gs ++ [ownB gq oq (fullH yv)]) H
              replace H := St.swap (A := t.L gl ++ txA gl gm1 M rm xs gs) (E := [ownB gq oq (fullH yv)]) (R := txA gl gm2 M2 rm2 ys gu ++ ([errA, rdA pa (byteV av), rdA pb (byteV bv), blk gx (.cells (byteV xs).toArray 30 (0, 0)), blk gy (.cells (byteV ys).toArray 30 (0, 0)), blk gz (.cells (byteV (List.replicate 34 0)).toArray 30 (0, 0))] ++ [ownB gp op (fullH xv)])) H
              replace H : St NoBlk (fun _ => True) w _ (t.L gl ++ txA gl gm1 M rm xs gs ++ txA gl gm2 M2 rm2 ys gu ++ [errA, rdA pa (byteV av), rdA pb (byteV bv), blk gx (.cells (byteV xs).toArray 30 (0, 0)), blk gy (.cells (byteV ys).toArray 30 (0, 0)), blk gz (.cells (byteV (List.replicate 34 0)).toArray 30 (0, 0))] ++ [ownB gp op (fullH xv), ownB gq oq (fullH yv)]) := H
              replace H := H.drew
              refine wp_region_held_drew (S := fun w' => (BytesAt w' gp op (fullH xv) ∧ BytesAt w' gq oq (fullH yv)) ∧ w'.cell? ⟨gx, i, none⟩ = some (.int .u8 (xv.toNat : Int)) ∧ w'.cell? ⟨gy, i, none⟩ = some (.int .u8 (yv.toNat : Int))) (by kernel_rfl) ⟨⟨ownB_bytes (H.at 16 rfl), ownB_bytes (H.at 17 rfl)⟩, row_cell (H.at 13 rfl) HCX.out, row_cell (H.at 14 rfl) HCY.out⟩ (fun hHeld => ?_)
              (refine wpAnyH_take (i := 0) (v := ?_) rfl (by kernel_rfl) (by kernel_rfl) (by kernel_rfl) (fun _ _ _ h => h) (Or.inl ⟨by rfl, ?_⟩) (by assumption) ?_; rotate_left; focus (intro w hSw; (try dsimp only at hSw); go_simp; all_goals (with_reducible rfl))); (try simp only [Act.put, List.setIfInBounds_toArray, List.set_cons_zero, List.set_cons_succ, List.getElem_toArray, List.getElem_cons_succ, List.getElem_cons_zero])
              (refine wpAnyH_take (i := 1) (v := ?_) rfl (by kernel_rfl) (by kernel_rfl) (by kernel_rfl) (fun _ _ _ h => h) (Or.inl ⟨by rfl, ?_⟩) (by assumption) ?_; rotate_left; focus (intro w hSw; (try dsimp only at hSw); go_simp; all_goals (with_reducible rfl))); (try simp only [Act.put, List.setIfInBounds_toArray, List.set_cons_zero, List.set_cons_succ, List.getElem_toArray, List.getElem_cons_succ, List.getElem_cons_zero])
              (refine wpAnyH_take (i := 2) (v := ?_) rfl (by kernel_rfl) (by kernel_rfl) (by kernel_rfl) (fun _ _ _ h => h) (Or.inl ⟨by rfl, ?_⟩) (by assumption) ?_; rotate_left; focus (intro w hSw; (try dsimp only at hSw); go_simp; all_goals (with_reducible rfl))); (try simp only [Act.put, List.setIfInBounds_toArray, List.set_cons_zero, List.set_cons_succ, List.getElem_toArray, List.getElem_cons_succ, List.getElem_cons_zero])
              (refine wpAnyH_take (i := 3) (v := ?_) rfl (by kernel_rfl) (by kernel_rfl) (by kernel_rfl) (fun _ _ _ h => h) (Or.inl ⟨by rfl, ?_⟩) (by assumption) ?_; rotate_left; focus (intro w hSw; (try dsimp only at hSw); go_simp; all_goals (with_reducible rfl))); (try simp only [Act.put, List.setIfInBounds_toArray, List.set_cons_zero, List.set_cons_succ, List.getElem_toArray, List.getElem_cons_succ, List.getElem_cons_zero])
              (refine wpAnyH_take (i := 4) (v := ?_) rfl (by kernel_rfl) (by kernel_rfl) (by kernel_rfl) (fun _ _ _ h => h) (Or.inl ⟨by rfl, ?_⟩) (by assumption) ?_; rotate_left; focus (intro w hSw; (try dsimp only at hSw); go_simp; all_goals (with_reducible rfl))); (try simp only [Act.put, List.setIfInBounds_toArray, List.set_cons_zero, List.set_cons_succ, List.getElem_toArray, List.getElem_cons_succ, List.getElem_cons_zero])
              (refine wpAnyH_take (i := 5) (v := ?_) rfl (by kernel_rfl) (by kernel_rfl) (by kernel_rfl) (fun _ _ _ h => h) (Or.inl ⟨by rfl, ?_⟩) (by assumption) ?_; rotate_left; focus (intro w hSw; (try dsimp only at hSw); go_simp; all_goals (with_reducible rfl))); (try simp only [Act.put, List.setIfInBounds_toArray, List.set_cons_zero, List.set_cons_succ, List.getElem_toArray, List.getElem_cons_succ, List.getElem_cons_zero])
              (refine wpAnyH_take (i := 6) (v := ?_) rfl (by kernel_rfl) (by kernel_rfl) (by kernel_rfl) (fun _ _ _ h => h) (Or.inl ⟨by rfl, ?_⟩) (by assumption) ?_; rotate_left; focus (intro w hSw; (try dsimp only at hSw); go_simp; all_goals (with_reducible rfl))); (try simp only [Act.put, List.setIfInBounds_toArray, List.set_cons_zero, List.set_cons_succ, List.getElem_toArray, List.getElem_cons_succ, List.getElem_cons_zero])
              (refine wpAnyH_take (i := 7) (v := ?_) rfl (by kernel_rfl) (by kernel_rfl) (by kernel_rfl) (fun _ _ _ h => h) (Or.inl ⟨by rfl, ?_⟩) (by assumption) ?_; rotate_left; focus (intro w hSw; (try dsimp only at hSw); go_simp; all_goals (with_reducible rfl))); (try simp only [Act.put, List.setIfInBounds_toArray, List.set_cons_zero, List.set_cons_succ, List.getElem_toArray, List.getElem_cons_succ, List.getElem_cons_zero])
              (refine wpAnyH_take (i := 8) rfl (by kernel_rfl) (by kernel_rfl) (by kernel_rfl) (fun _ _ _ h => h) ((yieldsIf_bytes_str (by rfl) 22 9 _ rfl _ _ _ _ (by rfl) 5 Tryz.underlying22 Tryz.underlying5 Tryz.underlying9 (fullH xv) (fullH_len _).symm (fun w h => h.1.1))) (by assumption) ?_); (try simp only [Act.put, List.setIfInBounds_toArray, List.set_cons_zero, List.set_cons_succ, List.getElem_toArray, List.getElem_cons_succ, List.getElem_cons_zero])
              (refine wpAnyH_take (i := 9) (v := ?_) rfl (by kernel_rfl) (by kernel_rfl) (by kernel_rfl) (fun _ _ _ h => h) (Or.inl ⟨by rfl, ?_⟩) (by assumption) ?_; rotate_left; focus (intro w hSw; (try dsimp only at hSw); go_simp; all_goals (with_reducible rfl))); (try simp only [Act.put, List.setIfInBounds_toArray, List.set_cons_zero, List.set_cons_succ, List.getElem_toArray, List.getElem_cons_succ, List.getElem_cons_zero])
              (refine wpAnyH_take (i := 10) (v := ?_) rfl (by kernel_rfl) (by kernel_rfl) (by kernel_rfl) (fun _ _ _ h => h) (Or.inl ⟨by rfl, ?_⟩) (by assumption) ?_; rotate_left; focus (intro w hSw; (try dsimp only at hSw); go_simp; all_goals (with_reducible rfl))); (try simp only [Act.put, List.setIfInBounds_toArray, List.set_cons_zero, List.set_cons_succ, List.getElem_toArray, List.getElem_cons_succ, List.getElem_cons_zero])
              (refine wpAnyH_take (i := 11) rfl (by kernel_rfl) (by kernel_rfl) (by kernel_rfl) (fun _ _ _ h => h) (yieldsIf_load1 (by rfl) 5 _ rfl _ _ (by rfl) _ Tryz.underlying5 rfl _ (fun w h => h.2.1)) (by assumption) ?_); (try simp only [Act.put, List.setIfInBounds_toArray, List.set_cons_zero, List.set_cons_succ, List.getElem_toArray, List.getElem_cons_succ, List.getElem_cons_zero])
              (refine wpAnyH_ready (rs := [12]) (by kernel_rfl) (by simp) (AllReadyH.cons rfl (fun K hK => ?_) AllReadyH.nil)); (rw [if_pos (by rfl)]); (go_simp; go_at_call 18; (refine (full19_calls _ xv rfl _).mono ?_); rintro e W1 ⟨gf, rfl, hgf, hff, hb⟩; replace H := H.add (Fix.of_below hb _) (ownB gf 0 (fullH xv)) hff (fun k hk => by rw [show k = gf from hk]; exact hgf) (fun k hk => hk.elim); clear hgf hff hb; (try go_wp2_with fail); refine hK.out _ _ ⟨⟨ownB_bytes (H.at 16 rfl), ownB_bytes (H.at 17 rfl)⟩, row_cell (H.at 13 rfl) HCX.out, row_cell (H.at 14 rfl) HCY.out⟩ (fun hHeld2 => ?_); clear hK K)
              (try simp only [Act.put, List.setIfInBounds_toArray, List.set_cons_zero, List.set_cons_succ, List.getElem_toArray, List.getElem_cons_succ, List.getElem_cons_zero])
              (refine wpAnyH_ready (rs := [13]) (by kernel_rfl) (by simp) (AllReadyH.cons rfl (fun K hK => ?_) AllReadyH.nil)); (rw [if_pos (by rfl)]); (refine wp_bytes_str 22 9 _ rfl _ _ _ _ (by rfl) 5 Tryz.underlying22 Tryz.underlying5 Tryz.underlying9 (fullH xv) (ownB_bytes (H.at 18 rfl)) (fullH_len _).symm ?_; refine hK.out _ _ ⟨⟨ownB_bytes (H.at 16 rfl), ownB_bytes (H.at 17 rfl)⟩, row_cell (H.at 13 rfl) HCX.out, row_cell (H.at 14 rfl) HCY.out⟩ (fun hHeld3 => ?_); clear hK K)
              (try simp only [Act.put, List.setIfInBounds_toArray, List.set_cons_zero, List.set_cons_succ, List.getElem_toArray, List.getElem_cons_succ, List.getElem_cons_zero])
              (refine wpAnyH_take (i := 14) (v := ?_) rfl (by kernel_rfl) (by kernel_rfl) (by kernel_rfl) (fun _ _ _ h => h) (Or.inl ⟨by rfl, ?_⟩) (by assumption) ?_; rotate_left; focus (intro w hSw; (try dsimp only at hSw); go_simp; all_goals (with_reducible rfl))); (try simp only [Act.put, List.setIfInBounds_toArray, List.set_cons_zero, List.set_cons_succ, List.getElem_toArray, List.getElem_cons_succ, List.getElem_cons_zero])
              (refine wpAnyH_take (i := 15) (v := ?_) rfl (by kernel_rfl) (by kernel_rfl) (by kernel_rfl) (fun _ _ _ h => h) (Or.inl ⟨by rfl, ?_⟩) (by assumption) ?_; rotate_left; focus (intro w hSw; (try dsimp only at hSw); go_simp; all_goals (with_reducible rfl))); (try simp only [Act.put, List.setIfInBounds_toArray, List.set_cons_zero, List.set_cons_succ, List.getElem_toArray, List.getElem_cons_succ, List.getElem_cons_zero])
              (refine wpAnyH_take (i := 16) (v := ?_) rfl (by kernel_rfl) (by kernel_rfl) (by kernel_rfl) (fun _ _ _ h => h) (Or.inl ⟨by rfl, ?_⟩) (by assumption) ?_; rotate_left; focus (intro w hSw; (try dsimp only at hSw); go_simp; all_goals (with_reducible rfl))); (try simp only [Act.put, List.setIfInBounds_toArray, List.set_cons_zero, List.set_cons_succ, List.getElem_toArray, List.getElem_cons_succ, List.getElem_cons_zero])
              (refine wpAnyH_take (i := 17) (v := ?_) rfl (by kernel_rfl) (by kernel_rfl) (by kernel_rfl) (fun _ _ _ h => h) (Or.inl ⟨by rfl, ?_⟩) (by assumption) ?_; rotate_left; focus (intro w hSw; (try dsimp only at hSw); go_simp; all_goals (with_reducible rfl))); (try simp only [Act.put, List.setIfInBounds_toArray, List.set_cons_zero, List.set_cons_succ, List.getElem_toArray, List.getElem_cons_succ, List.getElem_cons_zero])
              (refine wpAnyH_take (i := 18) rfl (by kernel_rfl) (by kernel_rfl) (by kernel_rfl) (fun _ _ _ h => h) ((yieldsIf_bytes_str (by rfl) 22 9 _ rfl _ _ _ _ (by rfl) 5 Tryz.underlying22 Tryz.underlying5 Tryz.underlying9 (fullH yv) (fullH_len _).symm (fun w h => h.1.2))) (by assumption) ?_); (try simp only [Act.put, List.setIfInBounds_toArray, List.set_cons_zero, List.set_cons_succ, List.getElem_toArray, List.getElem_cons_succ, List.getElem_cons_zero])
              (refine wpAnyH_take (i := 19) (v := ?_) rfl (by kernel_rfl) (by kernel_rfl) (by kernel_rfl) (fun _ _ _ h => h) (Or.inl ⟨by rfl, ?_⟩) (by assumption) ?_; rotate_left; focus (intro w hSw; (try dsimp only at hSw); go_simp; all_goals (with_reducible rfl))); (try simp only [Act.put, List.setIfInBounds_toArray, List.set_cons_zero, List.set_cons_succ, List.getElem_toArray, List.getElem_cons_succ, List.getElem_cons_zero])
              (refine wpAnyH_take (i := 20) (v := ?_) rfl (by kernel_rfl) (by kernel_rfl) (by kernel_rfl) (fun _ _ _ h => h) (Or.inl ⟨by rfl, ?_⟩) (by assumption) ?_; rotate_left; focus (intro w hSw; (try dsimp only at hSw); go_simp; all_goals (with_reducible rfl))); (try simp only [Act.put, List.setIfInBounds_toArray, List.set_cons_zero, List.set_cons_succ, List.getElem_toArray, List.getElem_cons_succ, List.getElem_cons_zero])
              (refine wpAnyH_take (i := 21) rfl (by kernel_rfl) (by kernel_rfl) (by kernel_rfl) (fun _ _ _ h => h) (yieldsIf_load1 (by rfl) 5 _ rfl _ _ (by rfl) _ Tryz.underlying5 rfl _ (fun w h => h.2.2)) (by assumption) ?_); (try simp only [Act.put, List.setIfInBounds_toArray, List.set_cons_zero, List.set_cons_succ, List.getElem_toArray, List.getElem_cons_succ, List.getElem_cons_zero])
              (refine wpAnyH_ready (rs := [22]) (by kernel_rfl) (by simp) (AllReadyH.cons rfl (fun K hK => ?_) AllReadyH.nil)); (rw [if_pos (by rfl)]); (go_simp; go_at_call 18; (refine (full19_calls _ yv rfl _).mono ?_); rintro e W1 ⟨gf, rfl, hgf, hff, hb⟩; replace H := H.add (Fix.of_below hb _) (ownB gf 0 (fullH yv)) hff (fun k hk => by rw [show k = gf from hk]; exact hgf) (fun k hk => hk.elim); clear hgf hff hb; (try go_wp2_with fail); refine hK.out _ _ ⟨⟨ownB_bytes (H.at 16 rfl), ownB_bytes (H.at 17 rfl)⟩, row_cell (H.at 13 rfl) HCX.out, row_cell (H.at 14 rfl) HCY.out⟩ (fun hHeld4 => ?_); clear hK K)
              (try simp only [Act.put, List.setIfInBounds_toArray, List.set_cons_zero, List.set_cons_succ, List.getElem_toArray, List.getElem_cons_succ, List.getElem_cons_zero])
              (refine wpAnyH_ready (rs := [23]) (by kernel_rfl) (by simp) (AllReadyH.cons rfl (fun K hK => ?_) AllReadyH.nil)); (rw [if_pos (by rfl)]); (refine wp_bytes_str 22 9 _ rfl _ _ _ _ (by rfl) 5 Tryz.underlying22 Tryz.underlying5 Tryz.underlying9 (fullH yv) (ownB_bytes (H.at 19 rfl)) (fullH_len _).symm ?_; refine hK.out _ _ ⟨⟨ownB_bytes (H.at 16 rfl), ownB_bytes (H.at 17 rfl)⟩, row_cell (H.at 13 rfl) HCX.out, row_cell (H.at 14 rfl) HCY.out⟩ (fun hHeld5 => ?_); clear hK K)
              (try simp only [Act.put, List.setIfInBounds_toArray, List.set_cons_zero, List.set_cons_succ, List.getElem_toArray, List.getElem_cons_succ, List.getElem_cons_zero])
              (refine wpAnyH_take (i := 24) (v := ?_) rfl (by kernel_rfl) (by kernel_rfl) (by kernel_rfl) (fun _ _ _ h => h) (Or.inl ⟨by rfl, ?_⟩) (by assumption) ?_; rotate_left; focus (intro w hSw; (try dsimp only at hSw); go_simp; all_goals (with_reducible rfl))); (try simp only [Act.put, List.setIfInBounds_toArray, List.set_cons_zero, List.set_cons_succ, List.getElem_toArray, List.getElem_cons_succ, List.getElem_cons_zero])
              (refine wpAnyH_take (i := 25) (v := ?_) rfl (by kernel_rfl) (by kernel_rfl) (by kernel_rfl) (fun _ _ _ h => h) (Or.inl ⟨by rfl, ?_⟩) (by assumption) ?_; rotate_left; focus (intro w hSw; (try dsimp only at hSw); go_simp; all_goals (with_reducible rfl))); (try simp only [Act.put, List.setIfInBounds_toArray, List.set_cons_zero, List.set_cons_succ, List.getElem_toArray, List.getElem_cons_succ, List.getElem_cons_zero])
              (refine wpAnyH_done (by kernel_rfl) ?_ _)
              clear hHeld hHeld2 hHeld3 hHeld4 hHeld5
              replace H := H.left.left.left
              go_wp2
              go_roundw
              case rel => exact ⟨i + 1, congrArg _ (by omega), HI.out, H⟩
              case measure => have := HI.out; simp [intOf]; omega
            · obtain rfl : i = 34 := by omega
              clear hi hge hi0
              have HCC := Lib.hid (show commitC t (TxT.mk gl gm1 M rm (optOf xs) false 34) = 0 by
                have h1 : (keysOf (optOf xs) 34).length ≤ 20 := HK20.out
                unfold commitC
                rw [HNEW.out.ring]
                exact if_pos ⟨by show (keysOf (optOf xs) 34).length ≤ 119; omega, by show (keysOf (optOf xs) 34).length < 24; omega⟩)
              have HHOM := Lib.hid (fun (t2 : LogT) (hco : Committed t t2 (TxT.mk gl gm1 M rm (optOf xs) false 34) 0) (i : Nat) (hi : i < 34) => (by
                have h1 : (keysOf (optOf xs) 34).length ≤ 20 := HK20.out
                rw [hco.hom i (by rw [HNEW.out.n]; exact hi), HNEW.out.ring, if_pos ⟨by show (keysOf (optOf xs) 34).length ≤ 119; omega, by show (keysOf (optOf xs) 34).length < 24; omega⟩]
                show (optOf xs i).getD (t.hom i) = _
                rw [HNEW.out.hom i hi, noHome_fullA, optOf_full] : t2.hom i = fullH (xs.getD i 0)))
              cases ab
              · rw [List.append_assoc] at H
                go_upto_region 32 with (first
                  | (go_at_call 20; go_loud ((refine (tcommit_calls (t := t) (x := TxT.mk gl gm1 M rm (optOf xs) false 34) (St.left (A := t.L gl ++ txA gl gm1 M rm xs gs ++ [errA]) (H.pickAt (A := t.L gl ++ txA gl gm1 M rm xs gs) 3 rfl)).bundle HNEW.out.ok (by omega) rfl HNEW.out.n.symm).mono ?_); rintro e W ⟨rfl, t2, hco, hto⟩; replace H := BunTo.at (A := t.L gl ++ txA gl gm1 M rm xs gs) (A' := t2.L gl ++ (TxT.mk gl gm1 M rm (optOf xs) false 34).done.L gs) (R := txA gl gm2 M2 rm2 ys gu ++ [errA, rdA pa (byteV av), rdA pb (byteV bv), blk gx (.cells (byteV xs).toArray 30 (0, 0)), blk gy (.cells (byteV ys).toArray 30 (0, 0)), blk gz (.cells (byteV (List.replicate 34 0)).toArray 30 (0, 0))]) (B := errA) (B' := errA) 3 hto H rfl; clear hto; rw [show (txA gl gm2 M2 rm2 ys gu ++ [errA, rdA pa (byteV av), rdA pb (byteV bv), blk gx (.cells (byteV xs).toArray 30 (0, 0)), blk gy (.cells (byteV ys).toArray 30 (0, 0)), blk gz (.cells (byteV (List.replicate 34 0)).toArray 30 (0, 0))]).set 3 errA = txA gl gm2 M2 rm2 ys gu ++ [errA, rdA pa (byteV av), rdA pb (byteV bv), blk gx (.cells (byteV xs).toArray 30 (0, 0)), blk gy (.cells (byteV ys).toArray 30 (0, 0)), blk gz (.cells (byteV (List.replicate 34 0)).toArray 30 (0, 0))] from list_set_same rfl] at H; rw [HCC.out]))
                  | (refine wpList_loadarr_st rfl 30 _ rfl gx rfl xs _ _ (H.at 13 rfl) _ Tryz.underlying30 rfl 34 size34 HXL.out ?_)
                  | (refine wpList_storearr_st H 15 rfl 30 _ _ rfl gz xs rfl rfl _ (List.replicate 34 0) rfl 34 size34 rfl HXL.out ?_; clear H; intro W H))
                have HH2 := Lib.hid (HHOM.out t2 hco)
                have HO2 := Lib.hid hco.ok
                have HN2 := Lib.hid (hco.n.trans HNEW.out.n)
                have HR2 := Lib.hid (hco.ring.trans HNEW.out.ring)
                clear hco HHOM HCC
                replace H : St NoBlk (fun _ => True) w _ (t2.L gl ++ (TxT.mk gl gm1 M rm (optOf xs) false 34).done.L gs ++ txA gl gm2 M2 rm2 ys gu ++ [errA, rdA pa (byteV av), rdA pb (byteV bv), blk gx (.cells (byteV xs).toArray 30 (0, 0)), blk gy (.cells (byteV ys).toArray 30 (0, 0)), blk gz (.cells (byteV xs).toArray 30 (0, 0))]) := H
                have HCC := Lib.hid (show commitC t2 (TxT.mk gl gm2 M2 rm2 (optOf ys) false 34) = 0 by
                  have h1 : (keysOf (optOf ys) 34).length ≤ 20 := HK20b.out
                  unfold commitC
                  rw [HR2.out]
                  exact if_pos ⟨by show (keysOf (optOf ys) 34).length ≤ 119; omega, by show (keysOf (optOf ys) 34).length < 24; omega⟩)
                replace H := St.swap (A := t2.L gl) (E := (TxT.mk gl gm1 M rm (optOf xs) false 34).done.L gs) (R := txA gl gm2 M2 rm2 ys gu ++ [errA, rdA pa (byteV av), rdA pb (byteV bv), blk gx (.cells (byteV xs).toArray 30 (0, 0)), blk gy (.cells (byteV ys).toArray 30 (0, 0)), blk gz (.cells (byteV xs).toArray 30 (0, 0))]) H
                rw [← List.append_assoc, List.append_assoc] at H
                go_upto_region 37 with (first
                  | (go_at_call 20; go_loud ((refine (tcommit_calls (t := t2) (x := TxT.mk gl gm2 M2 rm2 (optOf ys) false 34) (St.left (A := t2.L gl ++ txA gl gm2 M2 rm2 ys gu ++ [errA]) (H.pickAt (A := t2.L gl ++ txA gl gm2 M2 rm2 ys gu) 0 rfl)).bundle HO2.out (by omega) rfl HN2.out.symm).mono ?_); rintro e W ⟨rfl, t3, hco, hto⟩; replace H := BunTo.at (A := t2.L gl ++ txA gl gm2 M2 rm2 ys gu) (A' := t3.L gl ++ (TxT.mk gl gm2 M2 rm2 (optOf ys) false 34).done.L gu) (R := [errA, rdA pa (byteV av), rdA pb (byteV bv), blk gx (.cells (byteV xs).toArray 30 (0, 0)), blk gy (.cells (byteV ys).toArray 30 (0, 0)), blk gz (.cells (byteV xs).toArray 30 (0, 0))] ++ (TxT.mk gl gm1 M rm (optOf xs) false 34).done.L gs) (B := errA) (B' := errA) 0 hto H rfl; clear hto; rw [show ([errA, rdA pa (byteV av), rdA pb (byteV bv), blk gx (.cells (byteV xs).toArray 30 (0, 0)), blk gy (.cells (byteV ys).toArray 30 (0, 0)), blk gz (.cells (byteV xs).toArray 30 (0, 0))] ++ (TxT.mk gl gm1 M rm (optOf xs) false 34).done.L gs).set 0 errA = [errA, rdA pa (byteV av), rdA pb (byteV bv), blk gx (.cells (byteV xs).toArray 30 (0, 0)), blk gy (.cells (byteV ys).toArray 30 (0, 0)), blk gz (.cells (byteV xs).toArray 30 (0, 0))] ++ (TxT.mk gl gm1 M rm (optOf xs) false 34).done.L gs from list_set_same rfl] at H; rw [HCC.out])))
                have HZ := Lib.hid (fun (i : Nat) (hi : i < 34) => (by
                  have h1 : (keysOf (optOf ys) 34).length ≤ 20 := HK20b.out
                  rw [hco.hom i (by rw [HN2.out]; exact hi), HR2.out, if_pos ⟨by show (keysOf (optOf ys) 34).length ≤ 119; omega, by show (keysOf (optOf ys) 34).length < 24; omega⟩]
                  show (optOf ys i).getD (t2.hom i) = _
                  rw [HH2.out i hi, optOf_getD] : t3.hom i = if ys.getD i 0 = 0 then fullH (xs.getD i 0) else fullH (ys.getD i 0)))
                have HOT := Lib.hid hco.ok
                have HNT := Lib.hid (hco.n.trans HN2.out)
                clear hco
                replace H : St NoBlk (fun _ => True) w _ (t3.L gl ++ (TxT.mk gl gm2 M2 rm2 (optOf ys) false 34).done.L gu ++ [errA, rdA pa (byteV av), rdA pb (byteV bv), blk gx (.cells (byteV xs).toArray 30 (0, 0)), blk gy (.cells (byteV ys).toArray 30 (0, 0)), blk gz (.cells (byteV xs).toArray 30 (0, 0))] ++ (TxT.mk gl gm1 M rm (optOf xs) false 34).done.L gs) := H
                go_loopw [23] (fun u wr => ∃ (i : Nat) (zs : List UInt8), u = .int .i64 (i : Int) ∧ i ≤ 34 ∧ zs.length = 34 ∧ (∀ k, i ≤ k → zs.getD k 0 = xs.getD k 0) ∧ St NoBlk (fun _ => True) w wr (t3.L gl ++ (TxT.mk gl gm2 M2 rm2 (optOf ys) false 34).done.L gu ++ [errA, rdA pa (byteV av), rdA pb (byteV bv), blk gx (.cells (byteV xs).toArray 30 (0, 0)), blk gy (.cells (byteV ys).toArray 30 (0, 0)), blk gz (.cells (byteV zs).toArray 30 (0, 0))] ++ (TxT.mk gl gm1 M rm (optOf xs) false 34).done.L gs)) (fun u _ => 34 - (intOf u).toNat)
                case atStart => exact ⟨0, xs, rfl, Nat.zero_le _, HXL.out, fun _ _ => rfl, H⟩
                case round =>
                  clear H
                  obtain ⟨i, zs, rfl, hi, hzl, hzx, H⟩ := hrel
                  have HZL := Lib.hid hzl
                  have HZX := Lib.hid hzx
                  clear hzl hzx
                  have hi0 : 0 ≤ (i : Int) := by omega
                  rcases Nat.lt_or_ge i 34 with hlt | hge
                  · have hii : (i : Int) < 34 := by omega
                    have HI := Lib.hid hlt
                    obtain ⟨xv, hxv⟩ : ∃ v, xs.getD i 0 = v := ⟨_, rfl⟩
                    obtain ⟨yv, hyv⟩ : ∃ v, ys.getD i 0 = v := ⟨_, rfl⟩
                    have HCY := Lib.hid (show (byteV ys).toArray[i]? = some (.int .u8 (yv.toNat : Int)) by rw [byteV_getD (by rw [HYL.out]; exact hlt), hyv])
                    have HCZ := Lib.hid (show (byteV zs).toArray[i]? = some (.int .u8 (xv.toNat : Int)) by rw [byteV_getD (by rw [HZL.out]; exact hlt), HZX.out i (Nat.le_refl _), hxv])
                    have hcy : wr.cell? ⟨gy, i, none⟩ = some (.int .u8 (yv.toNat : Int)) := row_cell (H.at 11 rfl) HCY.out
                    have HHI := Lib.hid (HZ.out i hlt)
                    by_cases hy : yv = 0
                    · subst hy
                      have hyz : (((0 : UInt8).toNat : Nat) : Int) = 0 := rfl
                      have HHX := Lib.hid (show t3.hom i = fullH xv by rw [HHI.out, hyv, if_pos rfl, hxv])
                      clear hxv hyv hlt hi
                      go_upto_region 42 with (first
                        | (go_at_call 22; go_loud ((refine (Read_in (t := t3) (H.take 4).bundle HOT.out _ i rfl (by rw [HNT.out]; exact HI.out)).mono ?_); rintro e W ⟨gc, oc, cc, rfl, hlc, hcc, hgc, hto⟩; replace H := hto.front2 (R := (TxT.mk gl gm2 M2 rm2 (optOf ys) false 34).done.L gu ++ [errA, rdA pa (byteV av), rdA pb (byteV bv), blk gx (.cells (byteV xs).toArray 30 (0, 0)), blk gy (.cells (byteV ys).toArray 30 (0, 0)), blk gz (.cells (byteV zs).toArray 30 (0, 0))] ++ (TxT.mk gl gm1 M rm (optOf xs) false 34).done.L gs) H; clear hto hlc hcc hgc; rw [HHX.out] at H)))
                      clear hcy
                      replace H : St NoBlk (fun _ => True) w _ (t3.L gl ++ (TxT.mk gl gm2 M2 rm2 (optOf ys) false 34).done.L gu ++ [errA, rdA pa (byteV av), rdA pb (byteV bv), blk gx (.cells (byteV xs).toArray 30 (0, 0)), blk gy (.cells (byteV ys).toArray 30 (0, 0)), blk gz (.cells (byteV zs).toArray 30 (0, 0))] ++ (TxT.mk gl gm1 M rm (optOf xs) false 34).done.L gs ++ [ownB gc oc (fullH xv)]) := H
                      replace H := H.drew
                      refine wp_region_held_drew (S := fun w' => BytesAt w' gc oc (fullH xv) ∧ w'.cell? ⟨gz, i, none⟩ = some (.int .u8 (xv.toNat : Int))) (by kernel_rfl) ⟨ownB_bytes (H.at 16 rfl), row_cell (H.at 12 rfl) HCZ.out⟩ (fun hHeld => ?_)
                      (refine wpAnyH_take (i := 0) (v := ?_) rfl (by kernel_rfl) (by kernel_rfl) (by kernel_rfl) (fun _ _ _ h => h) (Or.inl ⟨by rfl, ?_⟩) (by assumption) ?_; rotate_left; focus (intro w hSw; (try dsimp only at hSw); go_simp; all_goals (with_reducible rfl))); (try simp only [Act.put, List.setIfInBounds_toArray, List.set_cons_zero, List.set_cons_succ, List.getElem_toArray, List.getElem_cons_succ, List.getElem_cons_zero])
                      (refine wpAnyH_take (i := 1) (v := ?_) rfl (by kernel_rfl) (by kernel_rfl) (by kernel_rfl) (fun _ _ _ h => h) (Or.inl ⟨by rfl, ?_⟩) (by assumption) ?_; rotate_left; focus (intro w hSw; (try dsimp only at hSw); go_simp; all_goals (with_reducible rfl))); (try simp only [Act.put, List.setIfInBounds_toArray, List.set_cons_zero, List.set_cons_succ, List.getElem_toArray, List.getElem_cons_succ, List.getElem_cons_zero])
                      (refine wpAnyH_take (i := 2) (v := ?_) rfl (by kernel_rfl) (by kernel_rfl) (by kernel_rfl) (fun _ _ _ h => h) (Or.inl ⟨by rfl, ?_⟩) (by assumption) ?_; rotate_left; focus (intro w hSw; (try dsimp only at hSw); go_simp; all_goals (with_reducible rfl))); (try simp only [Act.put, List.setIfInBounds_toArray, List.set_cons_zero, List.set_cons_succ, List.getElem_toArray, List.getElem_cons_succ, List.getElem_cons_zero])
                      (refine wpAnyH_take (i := 3) (v := ?_) rfl (by kernel_rfl) (by kernel_rfl) (by kernel_rfl) (fun _ _ _ h => h) (Or.inl ⟨by rfl, ?_⟩) (by assumption) ?_; rotate_left; focus (intro w hSw; (try dsimp only at hSw); go_simp; all_goals (with_reducible rfl))); (try simp only [Act.put, List.setIfInBounds_toArray, List.set_cons_zero, List.set_cons_succ, List.getElem_toArray, List.getElem_cons_succ, List.getElem_cons_zero])
                      (refine wpAnyH_take (i := 4) rfl (by kernel_rfl) (by kernel_rfl) (by kernel_rfl) (fun _ _ _ h => h) ((yieldsIf_bytes_str (by rfl) 22 9 _ rfl _ _ _ _ (by rfl) 5 Tryz.underlying22 Tryz.underlying5 Tryz.underlying9 (fullH xv) (fullH_len _).symm (fun w h => h.1))) (by assumption) ?_); (try simp only [Act.put, List.setIfInBounds_toArray, List.set_cons_zero, List.set_cons_succ, List.getElem_toArray, List.getElem_cons_succ, List.getElem_cons_zero])
                      (refine wpAnyH_take (i := 5) (v := ?_) rfl (by kernel_rfl) (by kernel_rfl) (by kernel_rfl) (fun _ _ _ h => h) (Or.inl ⟨by rfl, ?_⟩) (by assumption) ?_; rotate_left; focus (intro w hSw; (try dsimp only at hSw); go_simp; all_goals (with_reducible rfl))); (try simp only [Act.put, List.setIfInBounds_toArray, List.set_cons_zero, List.set_cons_succ, List.getElem_toArray, List.getElem_cons_succ, List.getElem_cons_zero])
                      (refine wpAnyH_take (i := 6) (v := ?_) rfl (by kernel_rfl) (by kernel_rfl) (by kernel_rfl) (fun _ _ _ h => h) (Or.inl ⟨by rfl, ?_⟩) (by assumption) ?_; rotate_left; focus (intro w hSw; (try dsimp only at hSw); go_simp; all_goals (with_reducible rfl))); (try simp only [Act.put, List.setIfInBounds_toArray, List.set_cons_zero, List.set_cons_succ, List.getElem_toArray, List.getElem_cons_succ, List.getElem_cons_zero])
                      (refine wpAnyH_take (i := 7) rfl (by kernel_rfl) (by kernel_rfl) (by kernel_rfl) (fun _ _ _ h => h) (yieldsIf_load1 (by rfl) 5 _ rfl _ _ (by rfl) _ Tryz.underlying5 rfl _ (fun w h => h.2)) (by assumption) ?_); (try simp only [Act.put, List.setIfInBounds_toArray, List.set_cons_zero, List.set_cons_succ, List.getElem_toArray, List.getElem_cons_succ, List.getElem_cons_zero])
                      (refine wpAnyH_ready (rs := [8]) (by kernel_rfl) (by simp) (AllReadyH.cons rfl (fun K hK => ?_) AllReadyH.nil)); (rw [if_pos (by rfl)]); (go_simp; go_at_call 18; (refine (full19_calls _ xv rfl _).mono ?_); rintro e W1 ⟨gf, rfl, hgf, hff, hb⟩; replace H := H.add (Fix.of_below hb _) (ownB gf 0 (fullH xv)) hff (fun k hk => by rw [show k = gf from hk]; exact hgf) (fun k hk => hk.elim); clear hgf hff hb; (try go_wp2_with fail); refine hK.out _ _ ⟨ownB_bytes (H.at 16 rfl), row_cell (H.at 12 rfl) HCZ.out⟩ (fun hHeld2 => ?_); clear hK K)
                      (try simp only [Act.put, List.setIfInBounds_toArray, List.set_cons_zero, List.set_cons_succ, List.getElem_toArray, List.getElem_cons_succ, List.getElem_cons_zero])
                      (refine wpAnyH_ready (rs := [9]) (by kernel_rfl) (by simp) (AllReadyH.cons rfl (fun K hK => ?_) AllReadyH.nil)); (rw [if_pos (by rfl)]); (refine wp_bytes_str 22 9 _ rfl _ _ _ _ (by rfl) 5 Tryz.underlying22 Tryz.underlying5 Tryz.underlying9 (fullH xv) (ownB_bytes (H.at 17 rfl)) (fullH_len _).symm ?_; refine hK.out _ _ ⟨ownB_bytes (H.at 16 rfl), row_cell (H.at 12 rfl) HCZ.out⟩ (fun hHeld3 => ?_); clear hK K)
                      (try simp only [Act.put, List.setIfInBounds_toArray, List.set_cons_zero, List.set_cons_succ, List.getElem_toArray, List.getElem_cons_succ, List.getElem_cons_zero])
                      (refine wpAnyH_take (i := 10) (v := ?_) rfl (by kernel_rfl) (by kernel_rfl) (by kernel_rfl) (fun _ _ _ h => h) (Or.inl ⟨by rfl, ?_⟩) (by assumption) ?_; rotate_left; focus (intro w hSw; (try dsimp only at hSw); go_simp; all_goals (with_reducible rfl))); (try simp only [Act.put, List.setIfInBounds_toArray, List.set_cons_zero, List.set_cons_succ, List.getElem_toArray, List.getElem_cons_succ, List.getElem_cons_zero])
                      (refine wpAnyH_take (i := 11) (v := ?_) rfl (by kernel_rfl) (by kernel_rfl) (by kernel_rfl) (fun _ _ _ h => h) (Or.inl ⟨by rfl, ?_⟩) (by assumption) ?_; rotate_left; focus (intro w hSw; (try dsimp only at hSw); go_simp; all_goals (with_reducible rfl))); (try simp only [Act.put, List.setIfInBounds_toArray, List.set_cons_zero, List.set_cons_succ, List.getElem_toArray, List.getElem_cons_succ, List.getElem_cons_zero])
                      (refine wpAnyH_done (by kernel_rfl) ?_ _)
                      clear hHeld hHeld2 hHeld3
                      replace H := H.left.left
                      go_wp2
                      go_roundw
                      case rel => exact ⟨i + 1, zs, congrArg _ (by omega), HI.out, HZL.out, fun k hk => HZX.out k (by omega), H⟩
                      case measure => have := HI.out; simp [intOf]; omega
                    · have hyz : ¬ ((yv.toNat : Nat) : Int) = 0 := fun e => hy (by apply UInt8.toNat_inj.1; rw [show ((0 : UInt8).toNat) = 0 from rfl]; omega)
                      have HHX := Lib.hid (show t3.hom i = fullH yv by rw [HHI.out, hyv, if_neg hy])
                      have HCZ2 := Lib.hid (show (byteV (zs.set i yv)).toArray[i]? = some (.int .u8 (yv.toNat : Int)) by rw [byteV_getD (by rw [List.length_set, HZL.out]; exact hlt), getD_set (by rw [HZL.out]; exact hlt), if_pos rfl])
                      clear hxv hyv hlt hi hy
                      have hcz : wr.cell? ⟨gz, i, none⟩ = some (.int .u8 (xv.toNat : Int)) := row_cell (H.at 12 rfl) HCZ.out
                      have hfz : wr.frozen? ⟨gz, i, none⟩ = false := frozen_of_row _ gz i _ _ (H.at 12 rfl)
                      go_upto_region 41 with fail
                      replace H := H.setOne 12 (off := i) (v := .int .u8 (yv.toNat : Int)) rfl
                      rw [byteV_set] at H
                      clear hcz hfz hcy
                      replace H : St NoBlk (fun _ => True) w _ (t3.L gl ++ (TxT.mk gl gm2 M2 rm2 (optOf ys) false 34).done.L gu ++ [errA, rdA pa (byteV av), rdA pb (byteV bv), blk gx (.cells (byteV xs).toArray 30 (0, 0)), blk gy (.cells (byteV ys).toArray 30 (0, 0)), blk gz (.cells (byteV (zs.set i yv)).toArray 30 (0, 0))] ++ (TxT.mk gl gm1 M rm (optOf xs) false 34).done.L gs) := H
                      go_upto_region 42 with (first
                        | (go_at_call 22; go_loud ((refine (Read_in (t := t3) (H.take 4).bundle HOT.out _ i rfl (by rw [HNT.out]; exact HI.out)).mono ?_); rintro e W ⟨gc, oc, cc, rfl, hlc, hcc, hgc, hto⟩; replace H := hto.front2 (R := (TxT.mk gl gm2 M2 rm2 (optOf ys) false 34).done.L gu ++ [errA, rdA pa (byteV av), rdA pb (byteV bv), blk gx (.cells (byteV xs).toArray 30 (0, 0)), blk gy (.cells (byteV ys).toArray 30 (0, 0)), blk gz (.cells (byteV (zs.set i yv)).toArray 30 (0, 0))] ++ (TxT.mk gl gm1 M rm (optOf xs) false 34).done.L gs) H; clear hto hlc hcc hgc; rw [HHX.out] at H)))
                      replace H : St NoBlk (fun _ => True) w _ (t3.L gl ++ (TxT.mk gl gm2 M2 rm2 (optOf ys) false 34).done.L gu ++ [errA, rdA pa (byteV av), rdA pb (byteV bv), blk gx (.cells (byteV xs).toArray 30 (0, 0)), blk gy (.cells (byteV ys).toArray 30 (0, 0)), blk gz (.cells (byteV (zs.set i yv)).toArray 30 (0, 0))] ++ (TxT.mk gl gm1 M rm (optOf xs) false 34).done.L gs ++ [ownB gc oc (fullH yv)]) := H
                      replace H := H.drew
                      refine wp_region_held_drew (S := fun w' => BytesAt w' gc oc (fullH yv) ∧ w'.cell? ⟨gz, i, none⟩ = some (.int .u8 (yv.toNat : Int))) (by kernel_rfl) ⟨ownB_bytes (H.at 16 rfl), row_cell (H.at 12 rfl) HCZ2.out⟩ (fun hHeld => ?_)
                      (refine wpAnyH_take (i := 0) (v := ?_) rfl (by kernel_rfl) (by kernel_rfl) (by kernel_rfl) (fun _ _ _ h => h) (Or.inl ⟨by rfl, ?_⟩) (by assumption) ?_; rotate_left; focus (intro w hSw; (try dsimp only at hSw); go_simp; all_goals (with_reducible rfl))); (try simp only [Act.put, List.setIfInBounds_toArray, List.set_cons_zero, List.set_cons_succ, List.getElem_toArray, List.getElem_cons_succ, List.getElem_cons_zero])
                      (refine wpAnyH_take (i := 1) (v := ?_) rfl (by kernel_rfl) (by kernel_rfl) (by kernel_rfl) (fun _ _ _ h => h) (Or.inl ⟨by rfl, ?_⟩) (by assumption) ?_; rotate_left; focus (intro w hSw; (try dsimp only at hSw); go_simp; all_goals (with_reducible rfl))); (try simp only [Act.put, List.setIfInBounds_toArray, List.set_cons_zero, List.set_cons_succ, List.getElem_toArray, List.getElem_cons_succ, List.getElem_cons_zero])
                      (refine wpAnyH_take (i := 2) (v := ?_) rfl (by kernel_rfl) (by kernel_rfl) (by kernel_rfl) (fun _ _ _ h => h) (Or.inl ⟨by rfl, ?_⟩) (by assumption) ?_; rotate_left; focus (intro w hSw; (try dsimp only at hSw); go_simp; all_goals (with_reducible rfl))); (try simp only [Act.put, List.setIfInBounds_toArray, List.set_cons_zero, List.set_cons_succ, List.getElem_toArray, List.getElem_cons_succ, List.getElem_cons_zero])
                      (refine wpAnyH_take (i := 3) (v := ?_) rfl (by kernel_rfl) (by kernel_rfl) (by kernel_rfl) (fun _ _ _ h => h) (Or.inl ⟨by rfl, ?_⟩) (by assumption) ?_; rotate_left; focus (intro w hSw; (try dsimp only at hSw); go_simp; all_goals (with_reducible rfl))); (try simp only [Act.put, List.setIfInBounds_toArray, List.set_cons_zero, List.set_cons_succ, List.getElem_toArray, List.getElem_cons_succ, List.getElem_cons_zero])
                      (refine wpAnyH_take (i := 4) rfl (by kernel_rfl) (by kernel_rfl) (by kernel_rfl) (fun _ _ _ h => h) ((yieldsIf_bytes_str (by rfl) 22 9 _ rfl _ _ _ _ (by rfl) 5 Tryz.underlying22 Tryz.underlying5 Tryz.underlying9 (fullH yv) (fullH_len _).symm (fun w h => h.1))) (by assumption) ?_); (try simp only [Act.put, List.setIfInBounds_toArray, List.set_cons_zero, List.set_cons_succ, List.getElem_toArray, List.getElem_cons_succ, List.getElem_cons_zero])
                      (refine wpAnyH_take (i := 5) (v := ?_) rfl (by kernel_rfl) (by kernel_rfl) (by kernel_rfl) (fun _ _ _ h => h) (Or.inl ⟨by rfl, ?_⟩) (by assumption) ?_; rotate_left; focus (intro w hSw; (try dsimp only at hSw); go_simp; all_goals (with_reducible rfl))); (try simp only [Act.put, List.setIfInBounds_toArray, List.set_cons_zero, List.set_cons_succ, List.getElem_toArray, List.getElem_cons_succ, List.getElem_cons_zero])
                      (refine wpAnyH_take (i := 6) (v := ?_) rfl (by kernel_rfl) (by kernel_rfl) (by kernel_rfl) (fun _ _ _ h => h) (Or.inl ⟨by rfl, ?_⟩) (by assumption) ?_; rotate_left; focus (intro w hSw; (try dsimp only at hSw); go_simp; all_goals (with_reducible rfl))); (try simp only [Act.put, List.setIfInBounds_toArray, List.set_cons_zero, List.set_cons_succ, List.getElem_toArray, List.getElem_cons_succ, List.getElem_cons_zero])
                      (refine wpAnyH_take (i := 7) rfl (by kernel_rfl) (by kernel_rfl) (by kernel_rfl) (fun _ _ _ h => h) (yieldsIf_load1 (by rfl) 5 _ rfl _ _ (by rfl) _ Tryz.underlying5 rfl _ (fun w h => h.2)) (by assumption) ?_); (try simp only [Act.put, List.setIfInBounds_toArray, List.set_cons_zero, List.set_cons_succ, List.getElem_toArray, List.getElem_cons_succ, List.getElem_cons_zero])
                      (refine wpAnyH_ready (rs := [8]) (by kernel_rfl) (by simp) (AllReadyH.cons rfl (fun K hK => ?_) AllReadyH.nil)); (rw [if_pos (by rfl)]); (go_simp; go_at_call 18; (refine (full19_calls _ yv rfl _).mono ?_); rintro e W1 ⟨gf, rfl, hgf, hff, hb⟩; replace H := H.add (Fix.of_below hb _) (ownB gf 0 (fullH yv)) hff (fun k hk => by rw [show k = gf from hk]; exact hgf) (fun k hk => hk.elim); clear hgf hff hb; (try go_wp2_with fail); refine hK.out _ _ ⟨ownB_bytes (H.at 16 rfl), row_cell (H.at 12 rfl) HCZ2.out⟩ (fun hHeld2 => ?_); clear hK K)
                      (try simp only [Act.put, List.setIfInBounds_toArray, List.set_cons_zero, List.set_cons_succ, List.getElem_toArray, List.getElem_cons_succ, List.getElem_cons_zero])
                      (refine wpAnyH_ready (rs := [9]) (by kernel_rfl) (by simp) (AllReadyH.cons rfl (fun K hK => ?_) AllReadyH.nil)); (rw [if_pos (by rfl)]); (refine wp_bytes_str 22 9 _ rfl _ _ _ _ (by rfl) 5 Tryz.underlying22 Tryz.underlying5 Tryz.underlying9 (fullH yv) (ownB_bytes (H.at 17 rfl)) (fullH_len _).symm ?_; refine hK.out _ _ ⟨ownB_bytes (H.at 16 rfl), row_cell (H.at 12 rfl) HCZ2.out⟩ (fun hHeld3 => ?_); clear hK K)
                      (try simp only [Act.put, List.setIfInBounds_toArray, List.set_cons_zero, List.set_cons_succ, List.getElem_toArray, List.getElem_cons_succ, List.getElem_cons_zero])
                      (refine wpAnyH_take (i := 10) (v := ?_) rfl (by kernel_rfl) (by kernel_rfl) (by kernel_rfl) (fun _ _ _ h => h) (Or.inl ⟨by rfl, ?_⟩) (by assumption) ?_; rotate_left; focus (intro w hSw; (try dsimp only at hSw); go_simp; all_goals (with_reducible rfl))); (try simp only [Act.put, List.setIfInBounds_toArray, List.set_cons_zero, List.set_cons_succ, List.getElem_toArray, List.getElem_cons_succ, List.getElem_cons_zero])
                      (refine wpAnyH_take (i := 11) (v := ?_) rfl (by kernel_rfl) (by kernel_rfl) (by kernel_rfl) (fun _ _ _ h => h) (Or.inl ⟨by rfl, ?_⟩) (by assumption) ?_; rotate_left; focus (intro w hSw; (try dsimp only at hSw); go_simp; all_goals (with_reducible rfl))); (try simp only [Act.put, List.setIfInBounds_toArray, List.set_cons_zero, List.set_cons_succ, List.getElem_toArray, List.getElem_cons_succ, List.getElem_cons_zero])
                      (refine wpAnyH_done (by kernel_rfl) ?_ _)
                      clear hHeld hHeld2 hHeld3
                      replace H := H.left.left
                      go_wp2
                      go_roundw
                      case rel => exact ⟨i + 1, zs.set i yv, congrArg _ (by omega), HI.out, by rw [List.length_set]; exact HZL.out, fun k hk => by rw [getD_set (by rw [HZL.out]; exact HI.out), if_neg (by omega)]; exact HZX.out k (by omega), H⟩
                      case measure => have := HI.out; simp [intOf]; omega
                  · obtain rfl : i = 34 := by omega
                    go_wp2
                    go_ret
                    exact ⟨rfl, H.fix.below⟩
              · rw [List.append_assoc] at H
                go_upto_region 32 with (first
                  | (go_at_call 20; go_loud ((refine (tcommit_calls (t := t) (x := TxT.mk gl gm1 M rm (optOf xs) false 34) (St.left (A := t.L gl ++ txA gl gm1 M rm xs gs ++ [errA]) (H.pickAt (A := t.L gl ++ txA gl gm1 M rm xs gs) 3 rfl)).bundle HNEW.out.ok (by omega) rfl HNEW.out.n.symm).mono ?_); rintro e W ⟨rfl, t2, hco, hto⟩; replace H := BunTo.at (A := t.L gl ++ txA gl gm1 M rm xs gs) (A' := t2.L gl ++ (TxT.mk gl gm1 M rm (optOf xs) false 34).done.L gs) (R := txA gl gm2 M2 rm2 ys gu ++ [errA, rdA pa (byteV av), rdA pb (byteV bv), blk gx (.cells (byteV xs).toArray 30 (0, 0)), blk gy (.cells (byteV ys).toArray 30 (0, 0)), blk gz (.cells (byteV (List.replicate 34 0)).toArray 30 (0, 0))]) (B := errA) (B' := errA) 3 hto H rfl; clear hto; rw [show (txA gl gm2 M2 rm2 ys gu ++ [errA, rdA pa (byteV av), rdA pb (byteV bv), blk gx (.cells (byteV xs).toArray 30 (0, 0)), blk gy (.cells (byteV ys).toArray 30 (0, 0)), blk gz (.cells (byteV (List.replicate 34 0)).toArray 30 (0, 0))]).set 3 errA = txA gl gm2 M2 rm2 ys gu ++ [errA, rdA pa (byteV av), rdA pb (byteV bv), blk gx (.cells (byteV xs).toArray 30 (0, 0)), blk gy (.cells (byteV ys).toArray 30 (0, 0)), blk gz (.cells (byteV (List.replicate 34 0)).toArray 30 (0, 0))] from list_set_same rfl] at H; rw [HCC.out]))
                  | (refine wpList_loadarr_st rfl 30 _ rfl gx rfl xs _ _ (H.at 13 rfl) _ Tryz.underlying30 rfl 34 size34 HXL.out ?_)
                  | (refine wpList_storearr_st H 15 rfl 30 _ _ rfl gz xs rfl rfl _ (List.replicate 34 0) rfl 34 size34 rfl HXL.out ?_; clear H; intro W H))
                have HH2 := Lib.hid (HHOM.out t2 hco)
                have HO2 := Lib.hid hco.ok
                have HN2 := Lib.hid (hco.n.trans HNEW.out.n)
                have HR2 := Lib.hid (hco.ring.trans HNEW.out.ring)
                clear hco HHOM HCC
                replace H : St NoBlk (fun _ => True) w _ (t2.L gl ++ (TxT.mk gl gm1 M rm (optOf xs) false 34).done.L gs ++ txA gl gm2 M2 rm2 ys gu ++ [errA, rdA pa (byteV av), rdA pb (byteV bv), blk gx (.cells (byteV xs).toArray 30 (0, 0)), blk gy (.cells (byteV ys).toArray 30 (0, 0)), blk gz (.cells (byteV xs).toArray 30 (0, 0))]) := H
                replace H := St.swap (A := t2.L gl ++ (TxT.mk gl gm1 M rm (optOf xs) false 34).done.L gs) (E := txA gl gm2 M2 rm2 ys gu) (R := [errA, rdA pa (byteV av), rdA pb (byteV bv), blk gx (.cells (byteV xs).toArray 30 (0, 0)), blk gy (.cells (byteV ys).toArray 30 (0, 0)), blk gz (.cells (byteV xs).toArray 30 (0, 0))]) H
                go_upto_region 37 with (first
                  | (go_at_call 21; go_loud ((refine (tabort_calls (x := TxT.mk gl gm2 M2 rm2 (optOf ys) false 34) (St.lastB (R := t2.L gl ++ (TxT.mk gl gm1 M rm (optOf xs) false 34).done.L gs ++ [errA, rdA pa (byteV av), rdA pb (byteV bv), blk gx (.cells (byteV xs).toArray 30 (0, 0)), blk gy (.cells (byteV ys).toArray 30 (0, 0)), blk gz (.cells (byteV xs).toArray 30 (0, 0))]) H)).mono ?_); rintro e W ⟨rfl, hto⟩; replace H := BunTo.last (R := t2.L gl ++ (TxT.mk gl gm1 M rm (optOf xs) false 34).done.L gs ++ [errA, rdA pa (byteV av), rdA pb (byteV bv), blk gx (.cells (byteV xs).toArray 30 (0, 0)), blk gy (.cells (byteV ys).toArray 30 (0, 0)), blk gz (.cells (byteV xs).toArray 30 (0, 0))]) hto H; clear hto)))
                have HZ := Lib.hid (fun (i : Nat) (hi : i < 34) => HH2.out i hi)
                have HOT := Lib.hid HO2.out
                have HNT := Lib.hid HN2.out
                replace H : St NoBlk (fun _ => True) w _ (t2.L gl ++ (TxT.mk gl gm1 M rm (optOf xs) false 34).done.L gs ++ [errA, rdA pa (byteV av), rdA pb (byteV bv), blk gx (.cells (byteV xs).toArray 30 (0, 0)), blk gy (.cells (byteV ys).toArray 30 (0, 0)), blk gz (.cells (byteV xs).toArray 30 (0, 0))] ++ (TxT.mk gl gm2 M2 rm2 (optOf ys) false 34).done.L gu) := H
                go_loopw [23] (fun u wr => ∃ (i : Nat) (zs : List UInt8), u = .int .i64 (i : Int) ∧ i ≤ 34 ∧ zs.length = 34 ∧ (∀ k, i ≤ k → zs.getD k 0 = xs.getD k 0) ∧ St NoBlk (fun _ => True) w wr (t2.L gl ++ (TxT.mk gl gm1 M rm (optOf xs) false 34).done.L gs ++ [errA, rdA pa (byteV av), rdA pb (byteV bv), blk gx (.cells (byteV xs).toArray 30 (0, 0)), blk gy (.cells (byteV ys).toArray 30 (0, 0)), blk gz (.cells (byteV zs).toArray 30 (0, 0))] ++ (TxT.mk gl gm2 M2 rm2 (optOf ys) false 34).done.L gu)) (fun u _ => 34 - (intOf u).toNat)
                case atStart => exact ⟨0, xs, rfl, Nat.zero_le _, HXL.out, fun _ _ => rfl, H⟩
                case round =>
                  clear H
                  obtain ⟨i, zs, rfl, hi, hzl, hzx, H⟩ := hrel
                  have HZL := Lib.hid hzl
                  have HZX := Lib.hid hzx
                  clear hzl hzx
                  have hi0 : 0 ≤ (i : Int) := by omega
                  rcases Nat.lt_or_ge i 34 with hlt | hge
                  · have hii : (i : Int) < 34 := by omega
                    have HI := Lib.hid hlt
                    obtain ⟨xv, hxv⟩ : ∃ v, xs.getD i 0 = v := ⟨_, rfl⟩
                    obtain ⟨yv, hyv⟩ : ∃ v, ys.getD i 0 = v := ⟨_, rfl⟩
                    have HCY := Lib.hid (show (byteV ys).toArray[i]? = some (.int .u8 (yv.toNat : Int)) by rw [byteV_getD (by rw [HYL.out]; exact hlt), hyv])
                    have HCZ := Lib.hid (show (byteV zs).toArray[i]? = some (.int .u8 (xv.toNat : Int)) by rw [byteV_getD (by rw [HZL.out]; exact hlt), HZX.out i (Nat.le_refl _), hxv])
                    have hcy : wr.cell? ⟨gy, i, none⟩ = some (.int .u8 (yv.toNat : Int)) := row_cell (H.at 11 rfl) HCY.out
                    have HHI := Lib.hid (HZ.out i hlt)
                    by_cases hy : yv = 0
                    · subst hy
                      have hyz : (((0 : UInt8).toNat : Nat) : Int) = 0 := rfl
                      have HHX := Lib.hid (show t2.hom i = fullH xv by rw [HHI.out, hxv])
                      clear hxv hyv hlt hi
                      go_upto_region 42 with (first
                        | (go_at_call 22; go_loud ((refine (Read_in (t := t2) (H.take 4).bundle HOT.out _ i rfl (by rw [HNT.out]; exact HI.out)).mono ?_); rintro e W ⟨gc, oc, cc, rfl, hlc, hcc, hgc, hto⟩; replace H := hto.front2 (R := (TxT.mk gl gm1 M rm (optOf xs) false 34).done.L gs ++ [errA, rdA pa (byteV av), rdA pb (byteV bv), blk gx (.cells (byteV xs).toArray 30 (0, 0)), blk gy (.cells (byteV ys).toArray 30 (0, 0)), blk gz (.cells (byteV zs).toArray 30 (0, 0))] ++ (TxT.mk gl gm2 M2 rm2 (optOf ys) false 34).done.L gu) H; clear hto hlc hcc hgc; rw [HHX.out] at H)))
                      clear hcy
                      replace H : St NoBlk (fun _ => True) w _ (t2.L gl ++ (TxT.mk gl gm1 M rm (optOf xs) false 34).done.L gs ++ [errA, rdA pa (byteV av), rdA pb (byteV bv), blk gx (.cells (byteV xs).toArray 30 (0, 0)), blk gy (.cells (byteV ys).toArray 30 (0, 0)), blk gz (.cells (byteV zs).toArray 30 (0, 0))] ++ (TxT.mk gl gm2 M2 rm2 (optOf ys) false 34).done.L gu ++ [ownB gc oc (fullH xv)]) := H
                      replace H := H.drew
                      refine wp_region_held_drew (S := fun w' => BytesAt w' gc oc (fullH xv) ∧ w'.cell? ⟨gz, i, none⟩ = some (.int .u8 (xv.toNat : Int))) (by kernel_rfl) ⟨ownB_bytes (H.at 16 rfl), row_cell (H.at 12 rfl) HCZ.out⟩ (fun hHeld => ?_)
                      (refine wpAnyH_take (i := 0) (v := ?_) rfl (by kernel_rfl) (by kernel_rfl) (by kernel_rfl) (fun _ _ _ h => h) (Or.inl ⟨by rfl, ?_⟩) (by assumption) ?_; rotate_left; focus (intro w hSw; (try dsimp only at hSw); go_simp; all_goals (with_reducible rfl))); (try simp only [Act.put, List.setIfInBounds_toArray, List.set_cons_zero, List.set_cons_succ, List.getElem_toArray, List.getElem_cons_succ, List.getElem_cons_zero])
                      (refine wpAnyH_take (i := 1) (v := ?_) rfl (by kernel_rfl) (by kernel_rfl) (by kernel_rfl) (fun _ _ _ h => h) (Or.inl ⟨by rfl, ?_⟩) (by assumption) ?_; rotate_left; focus (intro w hSw; (try dsimp only at hSw); go_simp; all_goals (with_reducible rfl))); (try simp only [Act.put, List.setIfInBounds_toArray, List.set_cons_zero, List.set_cons_succ, List.getElem_toArray, List.getElem_cons_succ, List.getElem_cons_zero])
                      (refine wpAnyH_take (i := 2) (v := ?_) rfl (by kernel_rfl) (by kernel_rfl) (by kernel_rfl) (fun _ _ _ h => h) (Or.inl ⟨by rfl, ?_⟩) (by assumption) ?_; rotate_left; focus (intro w hSw; (try dsimp only at hSw); go_simp; all_goals (with_reducible rfl))); (try simp only [Act.put, List.setIfInBounds_toArray, List.set_cons_zero, List.set_cons_succ, List.getElem_toArray, List.getElem_cons_succ, List.getElem_cons_zero])
                      (refine wpAnyH_take (i := 3) (v := ?_) rfl (by kernel_rfl) (by kernel_rfl) (by kernel_rfl) (fun _ _ _ h => h) (Or.inl ⟨by rfl, ?_⟩) (by assumption) ?_; rotate_left; focus (intro w hSw; (try dsimp only at hSw); go_simp; all_goals (with_reducible rfl))); (try simp only [Act.put, List.setIfInBounds_toArray, List.set_cons_zero, List.set_cons_succ, List.getElem_toArray, List.getElem_cons_succ, List.getElem_cons_zero])
                      (refine wpAnyH_take (i := 4) rfl (by kernel_rfl) (by kernel_rfl) (by kernel_rfl) (fun _ _ _ h => h) ((yieldsIf_bytes_str (by rfl) 22 9 _ rfl _ _ _ _ (by rfl) 5 Tryz.underlying22 Tryz.underlying5 Tryz.underlying9 (fullH xv) (fullH_len _).symm (fun w h => h.1))) (by assumption) ?_); (try simp only [Act.put, List.setIfInBounds_toArray, List.set_cons_zero, List.set_cons_succ, List.getElem_toArray, List.getElem_cons_succ, List.getElem_cons_zero])
                      (refine wpAnyH_take (i := 5) (v := ?_) rfl (by kernel_rfl) (by kernel_rfl) (by kernel_rfl) (fun _ _ _ h => h) (Or.inl ⟨by rfl, ?_⟩) (by assumption) ?_; rotate_left; focus (intro w hSw; (try dsimp only at hSw); go_simp; all_goals (with_reducible rfl))); (try simp only [Act.put, List.setIfInBounds_toArray, List.set_cons_zero, List.set_cons_succ, List.getElem_toArray, List.getElem_cons_succ, List.getElem_cons_zero])
                      (refine wpAnyH_take (i := 6) (v := ?_) rfl (by kernel_rfl) (by kernel_rfl) (by kernel_rfl) (fun _ _ _ h => h) (Or.inl ⟨by rfl, ?_⟩) (by assumption) ?_; rotate_left; focus (intro w hSw; (try dsimp only at hSw); go_simp; all_goals (with_reducible rfl))); (try simp only [Act.put, List.setIfInBounds_toArray, List.set_cons_zero, List.set_cons_succ, List.getElem_toArray, List.getElem_cons_succ, List.getElem_cons_zero])
                      (refine wpAnyH_take (i := 7) rfl (by kernel_rfl) (by kernel_rfl) (by kernel_rfl) (fun _ _ _ h => h) (yieldsIf_load1 (by rfl) 5 _ rfl _ _ (by rfl) _ Tryz.underlying5 rfl _ (fun w h => h.2)) (by assumption) ?_); (try simp only [Act.put, List.setIfInBounds_toArray, List.set_cons_zero, List.set_cons_succ, List.getElem_toArray, List.getElem_cons_succ, List.getElem_cons_zero])
                      (refine wpAnyH_ready (rs := [8]) (by kernel_rfl) (by simp) (AllReadyH.cons rfl (fun K hK => ?_) AllReadyH.nil)); (rw [if_pos (by rfl)]); (go_simp; go_at_call 18; (refine (full19_calls _ xv rfl _).mono ?_); rintro e W1 ⟨gf, rfl, hgf, hff, hb⟩; replace H := H.add (Fix.of_below hb _) (ownB gf 0 (fullH xv)) hff (fun k hk => by rw [show k = gf from hk]; exact hgf) (fun k hk => hk.elim); clear hgf hff hb; (try go_wp2_with fail); refine hK.out _ _ ⟨ownB_bytes (H.at 16 rfl), row_cell (H.at 12 rfl) HCZ.out⟩ (fun hHeld2 => ?_); clear hK K)
                      (try simp only [Act.put, List.setIfInBounds_toArray, List.set_cons_zero, List.set_cons_succ, List.getElem_toArray, List.getElem_cons_succ, List.getElem_cons_zero])
                      (refine wpAnyH_ready (rs := [9]) (by kernel_rfl) (by simp) (AllReadyH.cons rfl (fun K hK => ?_) AllReadyH.nil)); (rw [if_pos (by rfl)]); (refine wp_bytes_str 22 9 _ rfl _ _ _ _ (by rfl) 5 Tryz.underlying22 Tryz.underlying5 Tryz.underlying9 (fullH xv) (ownB_bytes (H.at 17 rfl)) (fullH_len _).symm ?_; refine hK.out _ _ ⟨ownB_bytes (H.at 16 rfl), row_cell (H.at 12 rfl) HCZ.out⟩ (fun hHeld3 => ?_); clear hK K)
                      (try simp only [Act.put, List.setIfInBounds_toArray, List.set_cons_zero, List.set_cons_succ, List.getElem_toArray, List.getElem_cons_succ, List.getElem_cons_zero])
                      (refine wpAnyH_take (i := 10) (v := ?_) rfl (by kernel_rfl) (by kernel_rfl) (by kernel_rfl) (fun _ _ _ h => h) (Or.inl ⟨by rfl, ?_⟩) (by assumption) ?_; rotate_left; focus (intro w hSw; (try dsimp only at hSw); go_simp; all_goals (with_reducible rfl))); (try simp only [Act.put, List.setIfInBounds_toArray, List.set_cons_zero, List.set_cons_succ, List.getElem_toArray, List.getElem_cons_succ, List.getElem_cons_zero])
                      (refine wpAnyH_take (i := 11) (v := ?_) rfl (by kernel_rfl) (by kernel_rfl) (by kernel_rfl) (fun _ _ _ h => h) (Or.inl ⟨by rfl, ?_⟩) (by assumption) ?_; rotate_left; focus (intro w hSw; (try dsimp only at hSw); go_simp; all_goals (with_reducible rfl))); (try simp only [Act.put, List.setIfInBounds_toArray, List.set_cons_zero, List.set_cons_succ, List.getElem_toArray, List.getElem_cons_succ, List.getElem_cons_zero])
                      (refine wpAnyH_done (by kernel_rfl) ?_ _)
                      clear hHeld hHeld2 hHeld3
                      replace H := H.left.left
                      go_wp2
                      go_roundw
                      case rel => exact ⟨i + 1, zs, congrArg _ (by omega), HI.out, HZL.out, fun k hk => HZX.out k (by omega), H⟩
                      case measure => have := HI.out; simp [intOf]; omega
                    · have hyz : ¬ ((yv.toNat : Nat) : Int) = 0 := fun e => hy (by apply UInt8.toNat_inj.1; rw [show ((0 : UInt8).toNat) = 0 from rfl]; omega)
                      have HHX := Lib.hid (show t2.hom i = fullH xv by rw [HHI.out, hxv])
                      clear hxv hyv hlt hi hy
                      go_upto_region 42 with (first
                        | (go_at_call 22; go_loud ((refine (Read_in (t := t2) (H.take 4).bundle HOT.out _ i rfl (by rw [HNT.out]; exact HI.out)).mono ?_); rintro e W ⟨gc, oc, cc, rfl, hlc, hcc, hgc, hto⟩; replace H := hto.front2 (R := (TxT.mk gl gm1 M rm (optOf xs) false 34).done.L gs ++ [errA, rdA pa (byteV av), rdA pb (byteV bv), blk gx (.cells (byteV xs).toArray 30 (0, 0)), blk gy (.cells (byteV ys).toArray 30 (0, 0)), blk gz (.cells (byteV zs).toArray 30 (0, 0))] ++ (TxT.mk gl gm2 M2 rm2 (optOf ys) false 34).done.L gu) H; clear hto hlc hcc hgc; rw [HHX.out] at H)))
                      clear hcy
                      replace H : St NoBlk (fun _ => True) w _ (t2.L gl ++ (TxT.mk gl gm1 M rm (optOf xs) false 34).done.L gs ++ [errA, rdA pa (byteV av), rdA pb (byteV bv), blk gx (.cells (byteV xs).toArray 30 (0, 0)), blk gy (.cells (byteV ys).toArray 30 (0, 0)), blk gz (.cells (byteV zs).toArray 30 (0, 0))] ++ (TxT.mk gl gm2 M2 rm2 (optOf ys) false 34).done.L gu ++ [ownB gc oc (fullH xv)]) := H
                      replace H := H.drew
                      refine wp_region_held_drew (S := fun w' => BytesAt w' gc oc (fullH xv) ∧ w'.cell? ⟨gz, i, none⟩ = some (.int .u8 (xv.toNat : Int))) (by kernel_rfl) ⟨ownB_bytes (H.at 16 rfl), row_cell (H.at 12 rfl) HCZ.out⟩ (fun hHeld => ?_)
                      (refine wpAnyH_take (i := 0) (v := ?_) rfl (by kernel_rfl) (by kernel_rfl) (by kernel_rfl) (fun _ _ _ h => h) (Or.inl ⟨by rfl, ?_⟩) (by assumption) ?_; rotate_left; focus (intro w hSw; (try dsimp only at hSw); go_simp; all_goals (with_reducible rfl))); (try simp only [Act.put, List.setIfInBounds_toArray, List.set_cons_zero, List.set_cons_succ, List.getElem_toArray, List.getElem_cons_succ, List.getElem_cons_zero])
                      (refine wpAnyH_take (i := 1) (v := ?_) rfl (by kernel_rfl) (by kernel_rfl) (by kernel_rfl) (fun _ _ _ h => h) (Or.inl ⟨by rfl, ?_⟩) (by assumption) ?_; rotate_left; focus (intro w hSw; (try dsimp only at hSw); go_simp; all_goals (with_reducible rfl))); (try simp only [Act.put, List.setIfInBounds_toArray, List.set_cons_zero, List.set_cons_succ, List.getElem_toArray, List.getElem_cons_succ, List.getElem_cons_zero])
                      (refine wpAnyH_take (i := 2) (v := ?_) rfl (by kernel_rfl) (by kernel_rfl) (by kernel_rfl) (fun _ _ _ h => h) (Or.inl ⟨by rfl, ?_⟩) (by assumption) ?_; rotate_left; focus (intro w hSw; (try dsimp only at hSw); go_simp; all_goals (with_reducible rfl))); (try simp only [Act.put, List.setIfInBounds_toArray, List.set_cons_zero, List.set_cons_succ, List.getElem_toArray, List.getElem_cons_succ, List.getElem_cons_zero])
                      (refine wpAnyH_take (i := 3) (v := ?_) rfl (by kernel_rfl) (by kernel_rfl) (by kernel_rfl) (fun _ _ _ h => h) (Or.inl ⟨by rfl, ?_⟩) (by assumption) ?_; rotate_left; focus (intro w hSw; (try dsimp only at hSw); go_simp; all_goals (with_reducible rfl))); (try simp only [Act.put, List.setIfInBounds_toArray, List.set_cons_zero, List.set_cons_succ, List.getElem_toArray, List.getElem_cons_succ, List.getElem_cons_zero])
                      (refine wpAnyH_take (i := 4) rfl (by kernel_rfl) (by kernel_rfl) (by kernel_rfl) (fun _ _ _ h => h) ((yieldsIf_bytes_str (by rfl) 22 9 _ rfl _ _ _ _ (by rfl) 5 Tryz.underlying22 Tryz.underlying5 Tryz.underlying9 (fullH xv) (fullH_len _).symm (fun w h => h.1))) (by assumption) ?_); (try simp only [Act.put, List.setIfInBounds_toArray, List.set_cons_zero, List.set_cons_succ, List.getElem_toArray, List.getElem_cons_succ, List.getElem_cons_zero])
                      (refine wpAnyH_take (i := 5) (v := ?_) rfl (by kernel_rfl) (by kernel_rfl) (by kernel_rfl) (fun _ _ _ h => h) (Or.inl ⟨by rfl, ?_⟩) (by assumption) ?_; rotate_left; focus (intro w hSw; (try dsimp only at hSw); go_simp; all_goals (with_reducible rfl))); (try simp only [Act.put, List.setIfInBounds_toArray, List.set_cons_zero, List.set_cons_succ, List.getElem_toArray, List.getElem_cons_succ, List.getElem_cons_zero])
                      (refine wpAnyH_take (i := 6) (v := ?_) rfl (by kernel_rfl) (by kernel_rfl) (by kernel_rfl) (fun _ _ _ h => h) (Or.inl ⟨by rfl, ?_⟩) (by assumption) ?_; rotate_left; focus (intro w hSw; (try dsimp only at hSw); go_simp; all_goals (with_reducible rfl))); (try simp only [Act.put, List.setIfInBounds_toArray, List.set_cons_zero, List.set_cons_succ, List.getElem_toArray, List.getElem_cons_succ, List.getElem_cons_zero])
                      (refine wpAnyH_take (i := 7) rfl (by kernel_rfl) (by kernel_rfl) (by kernel_rfl) (fun _ _ _ h => h) (yieldsIf_load1 (by rfl) 5 _ rfl _ _ (by rfl) _ Tryz.underlying5 rfl _ (fun w h => h.2)) (by assumption) ?_); (try simp only [Act.put, List.setIfInBounds_toArray, List.set_cons_zero, List.set_cons_succ, List.getElem_toArray, List.getElem_cons_succ, List.getElem_cons_zero])
                      (refine wpAnyH_ready (rs := [8]) (by kernel_rfl) (by simp) (AllReadyH.cons rfl (fun K hK => ?_) AllReadyH.nil)); (rw [if_pos (by rfl)]); (go_simp; go_at_call 18; (refine (full19_calls _ xv rfl _).mono ?_); rintro e W1 ⟨gf, rfl, hgf, hff, hb⟩; replace H := H.add (Fix.of_below hb _) (ownB gf 0 (fullH xv)) hff (fun k hk => by rw [show k = gf from hk]; exact hgf) (fun k hk => hk.elim); clear hgf hff hb; (try go_wp2_with fail); refine hK.out _ _ ⟨ownB_bytes (H.at 16 rfl), row_cell (H.at 12 rfl) HCZ.out⟩ (fun hHeld2 => ?_); clear hK K)
                      (try simp only [Act.put, List.setIfInBounds_toArray, List.set_cons_zero, List.set_cons_succ, List.getElem_toArray, List.getElem_cons_succ, List.getElem_cons_zero])
                      (refine wpAnyH_ready (rs := [9]) (by kernel_rfl) (by simp) (AllReadyH.cons rfl (fun K hK => ?_) AllReadyH.nil)); (rw [if_pos (by rfl)]); (refine wp_bytes_str 22 9 _ rfl _ _ _ _ (by rfl) 5 Tryz.underlying22 Tryz.underlying5 Tryz.underlying9 (fullH xv) (ownB_bytes (H.at 17 rfl)) (fullH_len _).symm ?_; refine hK.out _ _ ⟨ownB_bytes (H.at 16 rfl), row_cell (H.at 12 rfl) HCZ.out⟩ (fun hHeld3 => ?_); clear hK K)
                      (try simp only [Act.put, List.setIfInBounds_toArray, List.set_cons_zero, List.set_cons_succ, List.getElem_toArray, List.getElem_cons_succ, List.getElem_cons_zero])
                      (refine wpAnyH_take (i := 10) (v := ?_) rfl (by kernel_rfl) (by kernel_rfl) (by kernel_rfl) (fun _ _ _ h => h) (Or.inl ⟨by rfl, ?_⟩) (by assumption) ?_; rotate_left; focus (intro w hSw; (try dsimp only at hSw); go_simp; all_goals (with_reducible rfl))); (try simp only [Act.put, List.setIfInBounds_toArray, List.set_cons_zero, List.set_cons_succ, List.getElem_toArray, List.getElem_cons_succ, List.getElem_cons_zero])
                      (refine wpAnyH_take (i := 11) (v := ?_) rfl (by kernel_rfl) (by kernel_rfl) (by kernel_rfl) (fun _ _ _ h => h) (Or.inl ⟨by rfl, ?_⟩) (by assumption) ?_; rotate_left; focus (intro w hSw; (try dsimp only at hSw); go_simp; all_goals (with_reducible rfl))); (try simp only [Act.put, List.setIfInBounds_toArray, List.set_cons_zero, List.set_cons_succ, List.getElem_toArray, List.getElem_cons_succ, List.getElem_cons_zero])
                      (refine wpAnyH_done (by kernel_rfl) ?_ _)
                      clear hHeld hHeld2 hHeld3
                      replace H := H.left.left
                      go_wp2
                      go_roundw
                      case rel => exact ⟨i + 1, zs, congrArg _ (by omega), HI.out, HZL.out, fun k hk => HZX.out k (by omega), H⟩
                      case measure => have := HI.out; simp [intOf]; omega
                  · obtain rfl : i = 34 := by omega
                    go_wp2
                    go_ret
                    exact ⟨rfl, H.fix.below⟩

end Go.Proofs.YtlgciddnpinpbaaGreatDoor

namespace Go.Proofs.YtlgciddnpinpbaaGreatDoor
open Go.RowKit
set_option linter.unusedSimpArgs false
set_option linter.unusedVariables false
set_option maxRecDepth 40000

theorem txnApart_many (w : World) (pa : Option Addr) (n ca : Nat) (pb : Option Addr) (m cb : Nat) (ab : Bool) (h : 20 < n ∨ 20 < m) (hg : errA.prop w) :
    Calls Tryz.prog 3 #[.slice pa n ca, .slice pb m cb, .bool ab] w fun e w' => e = .returned (.bool true) ∧ Below w.heap.size w w' := by
  have H := St.err hg
  clear hg
  by_cases h1 : 20 < n
  · have h2 : 20 < (n : Int) := by omega
    clear h h1
    go_enter Tryz.func3, Tryz.ntmps3
    go_wp2_with (first
      | (go_at_call 14; go_loud ((refine (begun19_calls _ (H.at 0 rfl)).mono ?_); rintro e W ⟨rfl, hb⟩; replace H := H.stay (Fix.of_below hb _); clear hb)))
    go_ret
    exact ⟨rfl, H.fix.below⟩
  · have h2 : ¬ 20 < (n : Int) := by omega
    have h3 : 20 < (m : Int) := by omega
    clear h h1
    go_enter Tryz.func3, Tryz.ntmps3
    go_wp2_with (first
      | (go_at_call 14; go_loud ((refine (begun19_calls _ (H.at 0 rfl)).mono ?_); rintro e W ⟨rfl, hb⟩; replace H := H.stay (Fix.of_below hb _); clear hb)))
    go_ret
    exact ⟨rfl, H.fix.below⟩

theorem txnApart_calls (w : World) (pa : Option Addr) (ca : Nat) (av : List UInt8) (pb : Option Addr) (cb : Nat) (bv : List UInt8) (ab : Bool) (hg : errA.prop w) (ha : (rdA pa (byteV av)).prop w) (hb : (rdA pb (byteV bv)).prop w) :
    Calls Tryz.prog 3 #[.slice pa av.length ca, .slice pb bv.length cb, .bool ab] w fun e w' => e = .returned (.bool true) ∧ Below w.heap.size w w' := by
  by_cases h : av.length ≤ 20 ∧ bv.length ≤ 20
  · exact txnApart_short w pa av ca pb bv cb ab h.1 h.2 hg ha hb
  · exact txnApart_many w pa av.length ca pb bv.length cb ab (by omega) hg

end Go.Proofs.YtlgciddnpinpbaaGreatDoor
