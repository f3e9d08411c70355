/- Texts of this proof, packed: The log's Read, as its callers have it and what follows it. -/
import Derived.Test.YtajlhloapglafaaGreatDoorPkLgRowRing3
import Derived.ProofKit
import Derived.OpenShut
import Derived.LaidMore
import Derived.Lay
import Derived.Deep.Grids
import Derived.Test.YtajlhloapglafaaGreatDoorRows
import Derived.ChangeSame
import Derived.ChangeVars
import Derived.JoinedOf
import Derived.RowKit
import Derived.RowKitTokens
import Derived.LaidLaws
import Derived.LaidHandle
import Derived.Stop.Joined

namespace Go.Proofs.YtajlhloapglafaaGreatDoor
open Go.RowKit
set_option linter.unusedSimpArgs false
set_option linter.unusedVariables false
set_option maxRecDepth 4000

/-- Block g is ours, and has the bytes l from place off on. -/
def ownB (g off : Nat) (l : List UInt8) : Asrt where
  own k := k = g
  rd _ := False
  prop W := ∃ pre junk : List Value, pre.length = off ∧ W.heap[g]? = some (.cells (pre ++ byteV l ++ junk).toArray 5 (0, 0))
  stable W W' h hp := by
    obtain ⟨pre, junk, h1, h2⟩ := hp
    exact ⟨pre, junk, h1, (h g (.inl rfl)).trans h2⟩
  bound W hp k hk := by
    obtain ⟨pre, junk, h1, h2⟩ := hp
    rcases hk with rfl | hk
    · exact (Array.getElem?_eq_some_iff.1 h2).1
    · exact hk.elim

theorem ownB_bytes {W : World} {g off : Nat} {l : List UInt8} (h : (ownB g off l).prop W) : BytesAt W g off l := by
  obtain ⟨pre, junk, h1, h2⟩ := h
  intro i hi
  refine row_cell h2 ?_
  rw [List.getElem?_toArray, List.append_assoc, List.getElem?_append_right (by omega), h1, Nat.add_sub_cancel_left, List.getElem?_append_left (by simpa using hi), byteV_get, List.getElem?_eq_getElem hi]
  rfl

theorem ownB_of_row {W : World} {g : Nat} {l : List UInt8} {junk : List Value} (h : W.heap[g]? = some (.cells (byteV l ++ junk).toArray 5 (0, 0))) : (ownB g 0 l).prop W := ⟨[], junk, rfl, h⟩
theorem ownB_of_drop {W : World} {g : Nat} {l : List UInt8} {junk : List Value} (k : Nat) (hk : k ≤ l.length) (h : W.heap[g]? = some (.cells (byteV l ++ junk).toArray 5 (0, 0))) : (ownB g k (l.drop k)).prop W :=
  ⟨byteV (l.take k), junk, by simp [byteV]; omega, by rw [h, ← List.take_append_drop k l]; simp [byteV]⟩
theorem ownB_lt {W : World} {g off : Nat} {l : List UInt8} (h : (ownB g off l).prop W) : g < W.heap.size := (ownB g off l).bound W h g (.inl rfl)

/-- A block's other name. -/
theorem St.recast {M0 R0 : Nat → Prop} {w0 W : World} {L : List Asrt} (H : St M0 R0 w0 W L) (i : Nat) {A A' : Asrt} (hi : L[i]? = some A) (hp : A.prop W → A'.prop W) (ho : ∀ k, A'.own k → A.own k) (hr : ∀ k, A'.rd k → A.own k ∨ A.rd k) : St M0 R0 w0 W (L.set i A') :=
  H.step i hi (Fix.refl _ _) (hp (H.at i hi)) ⟨fun k hk => .inl (ho k hk), fun k hk => by rcases hr k hk with h | h; exact .inl h; exact .inr (.inl h)⟩

theorem MapIs.look248 {W : World} {rd : Nat → Prop} {M : DataW Value} {f : Nat → Option (List UInt8)} {b : Nat} (h : MapIs W rd M f b 248) {gm n : Nat}
    (hm : W.ownsMap Tryz.prog 3 RV gm n M) (k : Nat) (hk : k < 1048576) {l : List UInt8} (hw : f k = some l) :
    ∃ gv off cap, (Instr.lookup 74 (.map (some gm)) (.int .i64 (k : Int)) true).run Tryz.prog W = .ok (.tuple #[.slice (some ⟨gv, off, none⟩) 248 cap, .bool true]) W ∧ 248 ≤ cap ∧ l.length = 248 ∧ BytesAt W gv off l ∧ gv < W.heap.size := by
  obtain ⟨v, hrun, _, hl, hby⟩ := h.look_yes hm k hk hw
  rcases hby with ⟨e, _⟩ | ⟨gv, off, cap, rfl, h2, h3, h4⟩
  · rw [e] at hl; simp at hl
  · rw [hl] at hrun h2
    refine ⟨gv, off, cap, hrun, h2, hl, h4, ?_⟩
    rcases h3 with h3 | h3
    · rw [h3] at hl; simp at hl
    · exact h.lt _ h3

theorem LogT.Ok.nn {t : LogT} {c : Nat} (h : t.Ok c) : t.n ≤ 1900 := by have := h.fine.fits; have := h.fine.top; omega

set_option maxHeartbeats 1000000 in
/-- Read, of a home that is there. -/
theorem Read_in {w : World} {g : Nat} {t : LogT} {c : Nat} (hb : Bundle w (t.L g)) (ht : t.Ok c) (z : Int) (k : Nat) (hz : (k : Int) = z) (hk : k < t.n) :
    Calls Tryz.prog 19 #[.pointer (some ⟨g, 0, none⟩), .int .i64 z] w fun e w' => ∃ gc off cap, e = .returned (.tuple #[.slice (some ⟨gc, off, none⟩) 248 cap, .int .i64 0]) ∧ (t.hom k).length = 248 ∧ 248 ≤ cap ∧ w.heap.size ≤ gc ∧
      BunTo w (ownL (t.L g)) (rdL (t.L g)) (t.L g ++ [ownB gc off (t.hom k)]) w' := by
  obtain ⟨gd, gm, M, rm, own, rd, X, D, n, N, u⟩ := t
  have hf : LogFine X n D N u := ht.fine
  have hk' : k < n := hk
  have hb' : Bundle w (logL g gd gm X M rm n D own rd) := hb
  have H := hb'.open_
  have HF := Lib.hid hf
  have HK := Lib.hid hk'
  subst hz
  have hki : (k : Int) < (n : Int) := by omega
  have hk0 : 0 ≤ (k : Int) := by omega
  have f0 : decide ((k : Int) < 0) = false := decide_eq_false (by omega)
  have f1 : decide ((n : Int) ≤ (k : Int)) = false := decide_eq_false (by omega)
  have f2 : ¬ n ≤ k := by omega
  unfold LogT.L LogT.hom homOf
  dsimp only
  clear hb hb' hf ht hk hk'
  cases hm : X.m k with
  | some l =>
    have HM := Lib.hid hm
    clear hm
    simp only [Option.getD_some]
    go_enter Tryz.func19, Tryz.ntmps19
    go_wp2_with (first
      | (go_at_call 51; go_loud ((refine (may_ok (g := g) (gd := gd) (gm := gm) (X := X) (M := M) (rm := rm) (n := n) (D := D) (own := own) (rd := rd) H.bundle HF.out.lives).mono ?_); rintro e W ⟨rfl, hto⟩; replace H := hto.front (R := []) H; clear hto; simp only [List.append_nil] at H))
      | (go_at_call 50; go_loud ((refine (homes_ok (g := g) (gd := gd) (gm := gm) (X := X) (M := M) (rm := rm) (n := n) (D := D) (own := own) (rd := rd) H.bundle HF.out.calm.len HF.out.fits HF.out.top).mono ?_); rintro e W ⟨rfl, hto⟩; replace H := hto.front (R := []) H; clear hto; simp only [List.append_nil] at H))
      | (refine wpList_load1_st rfl 74 _ rfl _ _ rfl _ _ _ (H.at 0 rfl) _ Tryz.underlying74 rfl _ (lRow8 _ _ _ _ _ _ _ _ _) ?_)
      | go_loud (obtain ⟨gv, offv, capv, hrun, hcv, hl, hbv, hlt⟩ := (H.at 2 rfl : MapIs _ rm M X.m n 248).look248 (H.at 1 rfl : World.ownsMap _ Tryz.prog 3 RV gm (Go.Maps.size M) M) k (by have := HF.out.fits; have := HF.out.top; have := HK.out; omega) HM.out; refine wpList_lookup_run rfl 74 _ _ _ rfl _ _ _ rfl rfl hrun ?_; clear hrun)
      | (go_at_call 54; go_loud ((refine (clone_n hbv hl (by omega) hlt).mono ?_); rintro e W2 ⟨gc, capc, junkc, rfl, hcc, hgc, hbc, hbl⟩)))
    refine bodyPost_ret (results_tmp2 rfl _ _ _) rfl ?_
    refine ⟨gc, 0, capc, rfl, hl, hcc, Nat.le_trans H.fix.size hgc, ?_⟩
    replace H := H.add (Fix.of_below hbl _) (ownB gc 0 l) (ownB_of_row hbc) (fun k hk => by rw [show k = gc from hk]; exact hgc) (fun k hk => hk.elim)
    exact H.bunTo
  | none =>
    have HM := Lib.hid hm
    have HKN := Lib.hid (show 2 + X.ring + k < D.last.length by have := HF.out.fits; have := HF.out.calm.len; have := HK.out; omega)
    clear hm
    obtain ⟨l, hl⟩ : ∃ l, D.sect (2 + X.ring + k) = l := ⟨_, rfl⟩
    rw [hl]
    have HS := Lib.hid hl
    clear hl
    simp only [Option.getD_none]
    go_enter Tryz.func19, Tryz.ntmps19
    go_wp2_with (first
      | (go_at_call 51; go_loud ((refine (may_ok (g := g) (gd := gd) (gm := gm) (X := X) (M := M) (rm := rm) (n := n) (D := D) (own := own) (rd := rd) H.bundle HF.out.lives).mono ?_); rintro e W ⟨rfl, hto⟩; replace H := hto.front (R := []) H; clear hto; simp only [List.append_nil] at H))
      | (go_at_call 50; go_loud ((refine (homes_ok (g := g) (gd := gd) (gm := gm) (X := X) (M := M) (rm := rm) (n := n) (D := D) (own := own) (rd := rd) H.bundle HF.out.calm.len HF.out.fits HF.out.top).mono ?_); rintro e W ⟨rfl, hto⟩; replace H := hto.front (R := []) H; clear hto; simp only [List.append_nil] at H))
      | (refine wpList_load1_st rfl 74 _ rfl _ _ rfl _ _ _ (H.at 0 rfl) _ Tryz.underlying74 rfl _ (lRow8 _ _ _ _ _ _ _ _ _) ?_)
      | go_loud (refine wpList_lookup_run rfl 74 _ _ _ rfl _ _ _ rfl rfl ((H.at 2 rfl : MapIs _ rm M X.m n 248).look_no (H.at 1 rfl : World.ownsMap _ Tryz.prog 3 RV gm (Go.Maps.size M) M) k (by have := HF.out.fits; have := HF.out.top; have := HK.out; omega) HM.out) ?_)
      | (go_at_call 56; go_loud ((refine (home_calls (g := g) (gd := gd) (gm := gm) (X := X) (M := M) (rm := rm) (n := n) (D := D) (own := own) (rd := rd) H.bundle _ k rfl (by have := HK.out; have := HF.out.fits; have := HF.out.top; omega) HF.out.r2).mono ?_); rintro e W' ⟨rfl, rfl⟩))
      | (go_at_call 55; go_loud ((refine (lread_ok (g := g) (gd := gd) (gm := gm) (X := X) (M := M) (rm := rm) (n := n) (D := D) (own := own) (rd := rd) H.bundle HF.out.calm.dead _ (2 + X.ring + k) (by omega) HKN.out).mono ?_); rintro e W2 ⟨gc, capc, junkc, rfl, hl, hcc, hgc, hto⟩; have hsz := H.fix.size; replace H := hto.front2 (R := []) (by rw [List.append_nil]; exact H); clear hto; rw [List.append_nil, HS.out] at H; rw [HS.out] at hl)))
    refine bodyPost_ret (results_tmp2 rfl _ _ _) rfl ?_
    refine ⟨gc, 8, capc - 8, rfl, by rw [List.length_drop, hl], by omega, Nat.le_trans hsz hgc, ?_⟩
    replace H := H.recast 4 (A' := ownB gc 8 (l.drop 8)) rfl (fun h => ownB_of_drop 8 (by omega) h) (fun k hk => hk) (fun k hk => hk.elim)
    exact H.bunTo

set_option maxHeartbeats 1000000 in
/-- Read, of a home that is not. -/
theorem Read_out {w : World} {g : Nat} {t : LogT} {c : Nat} (hb : Bundle w (t.L g)) (ht : t.Ok c) (z : Int) (hz : z < 0 ∨ (t.n : Int) ≤ z) :
    Calls Tryz.prog 19 #[.pointer (some ⟨g, 0, none⟩), .int .i64 z] w fun e w' => e = .returned (.tuple #[.slice none 0 0, .int .i64 1]) ∧
      BunTo w (ownL (t.L g)) (rdL (t.L g)) (t.L g) w' := by
  obtain ⟨gd, gm, M, rm, own, rd, X, D, n, N, u⟩ := t
  have hf : LogFine X n D N u := ht.fine
  have hz' : z < 0 ∨ (n : Int) ≤ z := hz
  have hb' : Bundle w (logL g gd gm X M rm n D own rd) := hb
  have H := hb'.open_
  have HF := Lib.hid hf
  unfold LogT.L
  dsimp only
  clear hb hb' hf ht hz
  by_cases h0 : z < 0
  · have f0 : decide (z < 0) = true := decide_eq_true h0
    clear hz'
    go_enter Tryz.func19, Tryz.ntmps19
    go_wp2_with (first
      | (go_at_call 51; go_loud ((refine (may_ok (g := g) (gd := gd) (gm := gm) (X := X) (M := M) (rm := rm) (n := n) (D := D) (own := own) (rd := rd) H.bundle HF.out.lives).mono ?_); rintro e W ⟨rfl, hto⟩; replace H := hto.front (R := []) H; clear hto; simp only [List.append_nil] at H)))
    refine bodyPost_ret (results_tmp2 rfl _ _ _) rfl ?_
    exact ⟨rfl, H.bunTo⟩
  · have f0 : decide (z < 0) = false := decide_eq_false h0
    have hz2 : (n : Int) ≤ z := hz'.resolve_left h0
    have f1 : decide ((n : Int) ≤ z) = true := decide_eq_true hz2
    clear hz'
    go_enter Tryz.func19, Tryz.ntmps19
    go_wp2_with (first
      | (go_at_call 51; go_loud ((refine (may_ok (g := g) (gd := gd) (gm := gm) (X := X) (M := M) (rm := rm) (n := n) (D := D) (own := own) (rd := rd) H.bundle HF.out.lives).mono ?_); rintro e W ⟨rfl, hto⟩; replace H := hto.front (R := []) H; clear hto; simp only [List.append_nil] at H))
      | (go_at_call 50; go_loud ((refine (homes_ok (g := g) (gd := gd) (gm := gm) (X := X) (M := M) (rm := rm) (n := n) (D := D) (own := own) (rd := rd) H.bundle HF.out.calm.len HF.out.fits HF.out.top).mono ?_); rintro e W ⟨rfl, hto⟩; replace H := hto.front (R := []) H; clear hto; simp only [List.append_nil] at H)))
    refine bodyPost_ret (results_tmp2 rfl _ _ _) rfl ?_
    exact ⟨rfl, H.bunTo⟩

end Go.Proofs.YtajlhloapglafaaGreatDoor

namespace Go.Proofs.YtajlhloapglafaaGreatDoor
open Go.RowKit
set_option linter.unusedSimpArgs false
set_option linter.unusedVariables false
set_option maxRecDepth 4000

section
variable {P : Program} {ops : Array Oper} {rest : List Oper} {o : Oper} {a : Act} {Q : Exit → Act → World → Prop}
variable {M0 R0 : Nat → Prop} {w0 W : World} {L : List Asrt}

/-- A row that is ours and grows: nil, or a block of its own; elements of s cells. -/
def ownS (e : TypeId) (s : Nat) (p : Option Addr) (n cap : Nat) (xs : List Value) : Asrt where
  own k := ∃ ad, p = some ad ∧ k = ad.block
  rd _ := False
  prop W := W.ownsRow 0 e s (.slice p n cap) n xs
  stable W W' h hp := by
    refine ⟨hp.1, ?_⟩
    rcases hp.2 with h0 | ⟨g, cap', cur, e1, hb, hg, r⟩
    · exact .inl h0
    · cases e1
      exact .inr ⟨g, cap, cur, rfl, hb, (h g (.inl ⟨_, rfl, rfl⟩)).trans hg, r⟩
  bound W hp k hk := by
    rcases hk with ⟨ad, rfl, rfl⟩ | hk
    · rcases hp.2 with ⟨e1, _⟩ | ⟨g, cap', cur, e1, hb, hg, r⟩
      · cases e1
      · cases e1
        exact (Array.getElem?_eq_some_iff.1 hg).1
    · exact hk.elim

theorem ownS_nil (e : TypeId) (s : Nat) (W : World) : (ownS e s none 0 0 []).prop W := ⟨by simp, .inl ⟨rfl, rfl⟩⟩

/-- A row of nothing is added. -/
theorem St.addNil (H : St M0 R0 w0 W L) (e : TypeId) (s : Nat) : St M0 R0 w0 W (L ++ [ownS e s none 0 0 []]) :=
  H.add (Fix.refl _ _) (ownS e s none 0 0 []) (ownS_nil e s W) (fun k ⟨ad, h, _⟩ => by cases h) (fun k hk => hk.elim)

theorem wp_append_ownS (H : St M0 R0 w0 W L) (ix : Nat) {K : Act → World → Prop} (s x : Operand) (T : TypeId)
    (ho : o.op = .call { callee := .builtin .append, args := #[s, x], argTypes := #[T, T] }) (e : TypeId) (ht : P.underlying T = some (.slice e)) (z : Value) (sz b : Nat) (hi : (P.info? e).map (fun i => (i.zero, i.size, i.bytes)) = some (some z, sz, b)) (hz1 : z.cells.size = sz) (hsz : 0 < sz)
    (p : Option Addr) (n cap : Nat) (hs : a.eval s = .slice p n cap) (xs : List Value) (hix : L[ix]? = some (ownS e sz p n cap xs))
    (ad : Addr) (m c : Nat) (hx : a.eval x = .slice (some ad) m c) (news : List Value) (hl : news.length = m * sz) (hnews : ∀ j u, news[j]? = some u → W.cell? (ad.add j) = some u) (h1 : ∀ u ∈ news, u.oneCell' = true)
    (hm : 0 < m) (h63 : n + m ≤ maxLen) (hbytes : (n + m) * b ≤ 140737488355328)
    (h : ∀ W' g' cap', St M0 R0 w0 W' (L.set ix (ownS e sz (some ⟨g', 0, none⟩) (n + m) cap' (xs ++ news))) → K (a.put o.dst (.slice (some ⟨g', 0, none⟩) (n + m) cap')) W') : o.wp P a W K Q := by
  obtain ⟨i, hii, hz, hsi, hby⟩ := info_parts hi
  have hown : W.ownsRow 0 e sz (.slice p n cap) n xs := H.at ix hix
  obtain ⟨g', cap', w', hrun, r1, r2, r3, r4⟩ := run_append_lies (P := P) W T o.type 0 e i z sz b ht hii hz hsi hby hz1 hsz (.slice p n cap) n xs hown ad m c news hl hnews h1 hm h63 hbytes (Nat.zero_le _) W.heap.size rfl
  have hgrow : Fix (ownS e sz p n cap xs).own W w' := ⟨r2.os, r2.tape, r2.output, r2.size, fun k hk hn => r2.block k hk (fun e1 => hn (by
    cases p with
    | none => simp [Value.ownBlock] at e1
    | some ad => simp [Value.ownBlock] at e1; exact ⟨ad, rfl, e1⟩))⟩
  have hnew : ∀ k, (ownS e sz (some ⟨g', 0, none⟩) (n + m) cap' (xs ++ news)).own k → (ownS e sz p n cap xs).own k ∨ W.heap.size ≤ k := by
    rintro k ⟨ad', e1, rfl⟩
    cases e1
    rcases r3 with r3 | r3
    · left
      cases p with
      | none => simp [Value.ownBlock] at r3
      | some ad => simp [Value.ownBlock] at r3; exact ⟨ad, rfl, r3.symm⟩
    · right; show W.heap.size ≤ g'; omega
  have H' := H.step ix hix (A' := ownS e sz (some ⟨g', 0, none⟩) (n + m) cap' (xs ++ news)) hgrow r1 ⟨hnew, fun k hk => hk.elim⟩
  unfold Oper.wp execOp
  simp only [ho, resolve, invoke, builtin, Sem.run_bind, Sem.run_pure, Result.andThen_ok, List.map_toArray, List.map_cons, List.map_nil, hs, hx, hrun]
  exact h _ _ _ H'

theorem wpList_append_ownS (H : St M0 R0 w0 W L) (ix : Nat) (hwt : Region.wanted o (yielded ops a.tmps) = true) (s x : Operand) (T : TypeId)
    (ho : o.op = .call { callee := .builtin .append, args := #[s, x], argTypes := #[T, T] }) (e : TypeId) (ht : P.underlying T = some (.slice e)) (z : Value) (sz b : Nat) (hi : (P.info? e).map (fun i => (i.zero, i.size, i.bytes)) = some (some z, sz, b)) (hz1 : z.cells.size = sz) (hsz : 0 < sz)
    (p : Option Addr) (n cap : Nat) (hs : a.eval s = .slice p n cap) (xs : List Value) (hix : L[ix]? = some (ownS e sz p n cap xs))
    (ad : Addr) (m c : Nat) (hx : a.eval x = .slice (some ad) m c) (news : List Value) (hl : news.length = m * sz) (hnews : ∀ j u, news[j]? = some u → W.cell? (ad.add j) = some u) (h1 : ∀ u ∈ news, u.oneCell' = true)
    (hm : 0 < m) (h63 : n + m ≤ maxLen) (hbytes : (n + m) * b ≤ 140737488355328)
    (h : ∀ W' g' cap', St M0 R0 w0 W' (L.set ix (ownS e sz (some ⟨g', 0, none⟩) (n + m) cap' (xs ++ news))) → wpList P ops Q rest (a.put o.dst (.slice (some ⟨g', 0, none⟩) (n + m) cap')) W') : wpList P ops Q (o :: rest) a W :=
  wpList_want hwt fun K hK => wp_append_ownS H ix s x T ho e ht z sz b hi hz1 hsz p n cap hs xs hix ad m c hx news hl hnews h1 hm h63 hbytes fun W' g' cap' H' => hK _ _ (h W' g' cap' H')

/-- A row that is ours, to be read. -/
theorem ownS_rd {W : World} {e : TypeId} {s : Nat} {p : Option Addr} {n cap : Nat} {xs : List Value} (h : (ownS e s p n cap xs).prop W) : (rdA p xs).prop W := by
  rcases h.2 with ⟨e1, h0⟩ | ⟨g, cap', cur, e1, hb, hg, h3, h4, h5, h6⟩
  · left
    have := h.1
    rw [h0, Nat.zero_mul] at this
    exact List.eq_nil_of_length_eq_zero this
  · cases e1
    right
    refine ⟨g, 0, rfl, (Array.getElem?_eq_some_iff.1 hg).1, ?_⟩
    intro i x hi
    rw [Nat.zero_add]
    refine row_cell hg ?_
    rw [← h6, List.getElem?_take] at hi
    split at hi
    · simpa using hi
    · cases hi

theorem ownS_rdown {e : TypeId} {s : Nat} {p : Option Addr} {n cap : Nat} {xs : List Value} : ∀ k, (rdA p xs).rd k → (ownS e s p n cap xs).own k := fun k ⟨_, h⟩ => h

theorem St.rdOf (H : St M0 R0 w0 W L) (i : Nat) {e : TypeId} {s : Nat} {p : Option Addr} {n cap : Nat} {xs : List Value} (hi : L[i]? = some (ownS e s p n cap xs)) : St M0 R0 w0 W (L.set i (rdA p xs)) :=
  H.recast i hi ownS_rd (fun k hk => hk.elim) (fun k hk => .inl (ownS_rdown k hk))
end

theorem PutsIs.more {W : World} {rd : Nat → Prop} {ps : List PutS} (h : PutsIs W rd ps) (hm : Nat) {g : Nat} {l : List UInt8} {cap : Nat} (hl : l.length = 248) (hc : 248 ≤ cap) (hb : BytesAt W g 0 l) (hg : g < W.heap.size) :
    PutsIs W (fun k => rd k ∨ k = g) (ps ++ [⟨hm, .slice (some ⟨g, 0, none⟩) 248 cap, l⟩]) := by
  refine ⟨fun x hx => ?_, fun k hk => ?_⟩
  · rcases List.mem_append.1 hx with hx | hx
    · exact (h.by_ x hx).same fun k hk => ⟨rfl, .inl hk⟩
    · obtain rfl := List.mem_singleton.1 hx
      exact .inr ⟨g, 0, cap, by rw [hl], by rw [hl]; exact hc, .inr (.inr rfl), hb⟩
  · rcases hk with hk | rfl
    · exact h.lt k hk
    · exact hg

theorem putsA_nil (W : World) : (putsA NoBlk []).prop W := ⟨fun x hx => (List.not_mem_nil hx).elim, fun k hk => hk.elim⟩

/-- The puts of a group, one more. -/
theorem St.putMore {M0 R0 : Nat → Prop} {w0 W : World} {L : List Asrt} (H : St M0 R0 w0 W L) (i j : Nat) {rp : Nat → Prop} {ps : List PutS} {g : Nat} {l : List UInt8} {junk : List Value} (hi : L[i]? = some (blk g (.cells (byteV l ++ junk).toArray 5 (0, 0)))) (hj : L[j]? = some (putsA rp ps)) (hne : i ≠ j)
    (h cap : Nat) (hl : l.length = 248) (hc : 248 ≤ cap) :
    St M0 R0 w0 W ((L.set i emp).set j (putsA (fun k => rp k ∨ k = g) (ps ++ [⟨h, .slice (some ⟨g, 0, none⟩) 248 cap, l⟩]))) := by
  have hg : W.heap[g]? = some (.cells (byteV l ++ junk).toArray 5 (0, 0)) := H.at i hi
  refine H.join i j hi hj ((H.at j hj : PutsIs W rp ps).more h hl hc (BytesAt.front hg) (Array.getElem?_eq_some_iff.1 hg).1) (fun k hk => hk.elim) (fun k hk => ?_)
  rcases hk with hk | rfl
  · exact .inl (.inr hk)
  · exact .inr (.inl rfl)

end Go.Proofs.YtajlhloapglafaaGreatDoor

namespace Go.Proofs.YtajlhloapglafaaGreatDoor
open Go.RowKit
set_option linter.unusedSimpArgs false
set_option linter.unusedVariables false
set_option maxRecDepth 4000

def noHome : List UInt8 := List.replicate 248 0
theorem noHome_len : noHome.length = 248 := List.length_replicate

/-- A log that is new. -/
structure LogT.New (t : LogT) (gd0 n0 ring0 : Nat) : Prop where
  ok : t.Ok 0
  gd : t.gd = gd0
  n : t.n = n0
  ring : t.X.ring = ring0
  turn : t.X.turn = 1
  free : t.X.free = (ring0 : Int)
  hom : ∀ k, k < n0 → t.hom k = noHome

theorem BunTo.single {W W' : World} {A : Asrt} {Ls : List Asrt} (h : BunTo W A.own A.rd Ls W') : BunTo W (ownL [A]) (rdL [A]) Ls W' :=
  ⟨h.holds, h.fix.mono fun k _ hk => ⟨A, List.mem_cons_self .., hk⟩, fun k hk => (h.owns k hk).imp (fun hk => ⟨A, List.mem_cons_self .., hk⟩) id, fun k hk => (h.reads k hk).imp (fun hk => ⟨A, List.mem_cons_self .., hk⟩) (fun h => h.imp (fun hk => ⟨A, List.mem_cons_self .., hk⟩) id)⟩

theorem noSect_drop : noSect.drop 8 = noHome := by simp [noSect, noHome]

theorem Open_new {w : World} {gd : Nat} {own rd : Nat → Prop} {N ring : Nat} (hd : DiskIs w gd (fmtD (DS.new N) N ring 6) own rd) (n : Nat) (hN : n + 2 + ring = N) (h1 : 8 ≤ ring) (h2 : ring ≤ 512) (h3 : 8 ≤ n) (h4 : N ≤ 1900) :
    Calls Tryz.prog 13 #[.pointer (some ⟨gd, 0, none⟩)] w fun e w' => ∃ g t, e = .returned (.tuple #[.pointer (some ⟨g, 0, none⟩), .int .i64 0]) ∧ LogT.New t gd n ring ∧
      BunTo w (ownL [dA gd (fmtD (DS.new N) N ring 6) own rd]) (rdL [dA gd (fmtD (DS.new N) N ring 6) own rd]) (t.L g) w' := by
  have hc0 : Calm (DS.new N) N 0 := ⟨List.length_replicate, rfl, rfl, rfl⟩
  have hc := fmt_calm (ring := ring) hc0 (by omega)
  have hfr := fmt_fresh (ring := ring) hc0 h1 h2 (by omega) h4
  refine (open_fresh hd hfr n).mono ?_
  rintro e w' ⟨g, gm, own', rd', rfl, hto⟩
  refine ⟨g, ⟨gd, gm, .map [], NoBlk, own', rd', LS.start (fmtD (DS.new N) N ring 6).lives ring, fmtD (DS.new N) N ring 6, n, N, 0 + N + 1⟩, rfl, ⟨⟨LS.start_fine hc h1 h2 n hN h3 h4, Nat.le_refl _, Nat.le_refl _, ?_⟩, rfl, rfl, rfl, rfl, rfl, ?_⟩, BunTo.single (A := dA gd _ own rd) hto⟩
  · show 0 + N + 1 ≤ 4000 + 2200 * 0; omega
  · intro k hk
    show ((fun _ => none : Nat → Option (List UInt8)) k).getD (((fmtD (DS.new N) N ring 6).sect (2 + ring + k)).drop 8) = _
    rw [hfr.rest _ (by omega) (by omega)]
    exact noSect_drop

theorem Format_new {w : World} {gd : Nat} {own rd : Nat → Prop} {N : Nat} (hd : DiskIs w gd (DS.new N) own rd) (z : Int) (ring : Nat) (hz : (ring : Int) = z) (h1 : 8 ≤ ring) (h2 : ring ≤ 512) (h3 : 8 + 2 + ring ≤ N) (h4 : N ≤ 1900) :
    Calls Tryz.prog 12 #[.pointer (some ⟨gd, 0, none⟩), .int .i64 z] w fun e w' => e = .returned (.int .i64 0) ∧ DiskTo w gd own rd (fmtD (DS.new N) N ring 6) w' :=
  format_calls hd (⟨List.length_replicate, rfl, rfl, rfl⟩ : Calm (DS.new N) N 0) (by omega) z ring hz h1 h2 h3 h4

theorem Homes_T {w : World} {g : Nat} {t : LogT} {c : Nat} (hb : Bundle w (t.L g)) (ht : t.Ok c) {z : Int} (hz : (t.n : Int) = z) :
    Calls Tryz.prog 14 #[.pointer (some ⟨g, 0, none⟩)] w fun e w' => e = .returned (.int .i64 z) ∧ BunTo w (ownL (t.L g)) (rdL (t.L g)) (t.L g) w' :=
  Homes_at (n := t.n) hb ht.fine.calm.len ht.fine.fits ht.fine.top hz

theorem Turn_T {w : World} {g : Nat} {t : LogT} (hb : Bundle w (t.L g)) {z : Int} (hz : (t.X.turn : Int) = z) :
    Calls Tryz.prog 18 #[.pointer (some ⟨g, 0, none⟩)] w fun e w' => e = .returned (.int .u64 z) ∧ w = w' :=
  Turn_at (n := t.n) hb hz

theorem Free_T {w : World} {g : Nat} {t : LogT} (hb : Bundle w (t.L g)) {z : Int} (hz : t.X.free = z) :
    Calls Tryz.prog 17 #[.pointer (some ⟨g, 0, none⟩)] w fun e w' => e = .returned (.int .i64 z) ∧ w = w' :=
  Free_at (n := t.n) hb hz

/-- A disk amid others comes to the front. -/
theorem St.last {M0 R0 : Nat → Prop} {w0 W : World} {A : List Asrt} {B : Asrt} (H : St M0 R0 w0 W (A ++ [B])) : St M0 R0 w0 W ([B] ++ A) := H.rotate

theorem news_of_row {W : World} {g : Nat} {vs : List Value} {t : TypeId} {fr : Nat × Nat} (hg : W.heap[g]? = some (.cells vs.toArray t fr)) : ∀ j u, vs[j]? = some u → W.cell? ((⟨g, 0, none⟩ : Addr).add j) = some u := by
  intro j u hu
  rw [Addr.add_lit, Nat.zero_add]
  exact row_cell hg (by simpa using hu)

theorem fill_put2 (h : Int) (v : Value) (hv : v.oneCell' = true) : Instr.fill (fun i => some (i * 2, 2)) ((Array.range (1 * 2)).map ((Value.agg #[.int .i64 0, .slice none 0 0]).cells[· % (Value.agg #[.int .i64 0, .slice none 0 0]).cells.size]!)) [(0, .agg #[.int .i64 h, v])] = some [.int .i64 h, v].toArray := by
  kernel_rfl

theorem info_put : (Tryz.prog.info? 36).map (fun i => (i.zero, i.size, i.bytes)) = some (some (.agg #[.int .i64 0, .slice none 0 0]), 2, 32) := by kernel_rfl
theorem putV_snoc (ps : List PutS) (x : PutS) : putV (ps ++ [x]) = putV ps ++ [.int .i64 (x.home : Int), x.val] := by simp [putV]

end Go.Proofs.YtajlhloapglafaaGreatDoor

namespace Go.Proofs.YtajlhloapglafaaGreatDoor
open Go.RowKit
set_option linter.unusedSimpArgs false
set_option linter.unusedVariables false
set_option maxRecDepth 40000

/-- Puts of the homes 0 .. j-1. -/
structure Zs (ps : List PutS) (j : Nat) : Prop where
  home : ps.map PutS.home = List.range j
  bs : ∀ x ∈ ps, x.bs.length = 248

theorem Zs.len {ps : List PutS} {j : Nat} (h : Zs ps j) : ps.length = j := by have := congrArg List.length h.home; simpa using this
theorem Zs.nil : Zs [] 0 := ⟨rfl, fun x hx => (List.not_mem_nil hx).elim⟩
theorem Zs.snoc {ps : List PutS} {j : Nat} (h : Zs ps j) (v : Value) (l : List UInt8) (hl : l.length = 248) : Zs (ps ++ [⟨j, v, l⟩]) (j + 1) := by
  refine ⟨by rw [List.map_append, h.home, List.range_succ]; rfl, fun x hx => ?_⟩
  rcases List.mem_append.1 hx with hx | hx
  · exact h.bs x hx
  · obtain rfl := List.mem_singleton.1 hx; exact hl
theorem Zs.good {ps : List PutS} {j : Nat} (h : Zs ps j) {n : Nat} (hn : j ≤ n) : GoodP ps n := by
  refine ⟨fun x hx => ?_, h.bs, by rw [h.home]; exact List.nodup_range⟩
  have : x.home ∈ ps.map PutS.home := List.mem_map.2 ⟨x, hx, rfl⟩
  rw [h.home] at this
  have := List.mem_range.1 this
  omega

theorem byteV_noHome : List.replicate 248 (Value.int .u8 0) = byteV noHome := by simp [byteV, noHome]

set_option maxHeartbeats 8000000 in
theorem logRing_short (p0 p2 : Option Addr) (c0 c2 : Nat) (sizes : List UInt8) (points : List Bool) (ring : UInt8) (w : World) (hl0 : sizes.length ≤ 30) (hl2 : points.length ≤ 30)
    (hg : errA.prop w) (ha0 : (rdA p0 (byteV sizes)).prop w) (ha2 : (rdA p2 (points.map Value.bool)).prop w) :
    Calls Tryz.prog 3 #[.slice p0 sizes.length c0, .int .u8 (ring.toNat : Int), .slice p2 points.length c2] w fun e w' => e = .returned (.bool true) ∧ Below w.heap.size w w' := by
  have H := St.reads_only (w := w) [rdA p0 (byteV sizes), rdA p2 (points.map Value.bool), errA] (by
    intro B hB
    simp only [List.mem_cons, List.not_mem_nil, or_false] at hB
    rcases hB with rfl | rfl | rfl
    · exact ⟨ha0, fun _ h => h⟩
    · exact ⟨ha2, fun _ h => h⟩
    · exact ⟨hg, fun _ h => h⟩)
  clear ha0 ha2 hg
  have hli0 : (sizes.length : Int) ≤ 30 := by omega
  have hli2 : (points.length : Int) ≤ 30 := by omega
  obtain ⟨r0, hr0, hr1⟩ : ∃ m : Nat, ((ring.toNat : Int)).tmod 40 = (m : Int) ∧ m < 40 := ⟨ring.toNat % 40, by rw [Int.tmod_eq_emod_of_nonneg (by omega)]; omega, by omega⟩
  have hrb : (ring.toNat : Int) < 256 := by have := ring.toNat_lt; omega
  have hrb0 : 0 ≤ (ring.toNat : Int) := by omega
  obtain ⟨r, hr⟩ : ∃ r, 8 + r0 = r := ⟨_, rfl⟩
  have hri : (8 : Int) + (r0 : Int) = (r : Int) := by omega
  have HR := Lib.hid (show 8 ≤ r ∧ r ≤ 47 by omega)
  have hr0i : (r0 : Int) < 40 := by omega
  have hr00 : 0 ≤ (r0 : Int) := by omega
  have hrl : (r : Int) ≤ 47 := by omega
  have hrg : 8 ≤ (r : Int) := by omega
  clear hr hr1
  go_enter Tryz.func3, Tryz.ntmps3
  go_wp2_with (first
    | (go_at_call 10; (with_reducible refine (begun_calls _).mono ?_); rintro e W ⟨rfl, hb⟩; replace H := H.stay (Fix.of_below hb _); clear hb)
    | (go_at_call 11; go_loud ((with_reducible refine (new_at 140 140 (by decide) (by omega) (by omega) _).mono ?_); rintro e W ⟨gd, own, rd, rfl, hd, hb, hn⟩; replace H := H.add (Fix.of_below hb NoBlk) (dA gd (DS.new 140) own rd) hd (fun k hk => hn k (.inl hk)) (fun k hk => .inl (hn k (.inr hk))); clear hd hb hn; replace H := H.last))
    | (go_at_call 12; go_loud ((refine (Format_new (H.at 0 rfl) _ r rfl (by have := HR.out; omega) (by have := HR.out; omega) (by have := HR.out; omega) (by omega)).mono ?_); rintro e W ⟨rfl, hto⟩; obtain ⟨own1, rd1, H'⟩ := DiskTo.step H 0 rfl hto; clear H; have H := H'; clear H' hto; simp only [List.set_cons_zero, List.cons_append, List.nil_append] at H))
    | (go_at_call 13; go_loud ((refine (Open_new (H.at 0 rfl) (138 - r) (by have := HR.out; omega) (by have := HR.out; omega) (by have := HR.out; omega) (by have := HR.out; omega) (by omega)).mono ?_); rintro e W ⟨g, t, rfl, hnew, hto⟩; replace H := hto.front (R := [rdA p0 (byteV sizes), rdA p2 (points.map Value.bool), errA]) H; clear hto))
    | (go_at_call 14; go_loud ((refine (Homes_T (H.take 4).bundle hnew.ok (z := 138 - (r : Int)) (by rw [hnew.n]; have := HR.out; omega)).mono ?_); rintro e W ⟨rfl, hto⟩; replace H := hto.front (R := [rdA p0 (byteV sizes), rdA p2 (points.map Value.bool), errA]) H; clear hto)))
  have HOK : LogT.Ok t 0 := hnew.ok
  have HNN := Lib.hid (show t.n = 138 - r from hnew.n)
  have HRR := Lib.hid (show t.X.ring = r from hnew.ring)
  have HTT := Lib.hid (show t.X.turn = 1 from hnew.turn)
  have HFF := Lib.hid (show t.X.free = (r : Int) from hnew.free)
  have HO := Lib.hid HOK
  clear hnew HOK
  go_loopw [11, 12, 13] (fun fr tu u wr => ∃ (i : Nat) (t : LogT), u = .int .i64 (i : Int) ∧ i ≤ sizes.length ∧ t.Ok (2 * i) ∧ t.n = 138 - r ∧ t.X.ring = r ∧ fr = .int .i64 t.X.free ∧ tu = .int .u64 (t.X.turn : Int) ∧
      St NoBlk (fun _ => True) w wr (t.L g ++ [rdA p0 (byteV sizes), rdA p2 (points.map Value.bool), errA])) (fun _ _ u _ => sizes.length - (intOf u).toNat)
  case atStart => exact ⟨0, t, rfl, Nat.zero_le _, HO.out, HNN.out, HRR.out, by rw [HFF.out], by rw [HTT.out]; rfl, H⟩
  case round =>
    clear H HNN HRR HTT HFF HO
    obtain ⟨i, t, rfl, hi, hok, hn, hring, rfl, rfl, H⟩ := hrel
    have HO := Lib.hid hok
    have HNN := Lib.hid hn
    have HRR := Lib.hid hring
    clear hok hn hring
    rcases Nat.lt_or_ge i sizes.length with hlt | hge
    · obtain ⟨ga, offa, rfl, hcell⟩ := rdA_at (H.at 4 rfl) (i := i) (x := .int .u8 (sizes[i].toNat : Int)) (by simp [byteV, hlt])
      have hii : (i : Int) < (sizes.length : Int) := by omega
      have hi0 : 0 ≤ (i : Int) := by omega
      have hbl : (sizes[i].toNat : Int) < 256 := by have := sizes[i].toNat_lt; omega
      obtain ⟨m, hm1, hm2⟩ : ∃ s : Nat, ((sizes[i].toNat : Int)).tmod 60 = (s : Int) ∧ s < 60 := ⟨sizes[i].toNat % 60, by rw [Int.tmod_eq_emod_of_nonneg (by omega)]; omega, by omega⟩
      have hmi : (m : Int) < 60 := by omega
      have hm0 : 0 ≤ (m : Int) := by omega
      replace H := St.swap (A := t.L g ++ [rdA (some ⟨ga, offa, none⟩) (byteV sizes), rdA p2 (points.map Value.bool)]) (E := [errA]) (R := [ownS 36 2 none 0 0 [], putsA NoBlk []]) (by
        have H1 := H.addNil 36 2
        have H2 := H1.add (Fix.refl _ _) (putsA NoBlk []) (putsA_nil _) (fun k hk => hk.elim) (fun k hk => hk.elim)
        exact H2)
      go_wp2
      go_loopw [15, 16] (fun pv u wr => ∃ (j : Nat) (p : Option Addr) (cap : Nat) (ps : List PutS) (rp : Nat → Prop), pv = .slice p j cap ∧ u = .int .i64 (j : Int) ∧ j ≤ m ∧ Zs ps j ∧
        St NoBlk (fun _ => True) w wr (t.L g ++ [rdA (some ⟨ga, offa, none⟩) (byteV sizes), rdA p2 (points.map Value.bool), ownS 36 2 p j cap (putV ps), putsA rp ps, errA])) (fun _ u _ => m - (intOf u).toNat)
      case atStart => exact ⟨0, none, 0, [], NoBlk, rfl, rfl, Nat.zero_le _, Zs.nil, H⟩
      case round =>
        clear H
        obtain ⟨j, p, cap, ps, rp, rfl, rfl, hj, hzs, H⟩ := hrel
        have HZ := Lib.hid hzs
        clear hzs
        rcases Nat.lt_or_ge j m with hjlt | hjge
        · have hji : (j : Int) < (m : Int) := by omega
          have hj0 : 0 ≤ (j : Int) := by omega
          have HJ := Lib.hid hjlt
          clear hj hjlt
          go_wp2_with (first
            | (refine wpList_make2_st H rfl 22 _ _ rfl _ Tryz.underlying22 _ _ info_u8 rfl 248 248 rfl rfl (by omega) (by omega) (by simp only [maxLen]; omega) ?_; clear H; intro W gz H; rw [byteV_noHome, ← List.append_nil (byteV noHome)] at H)
            | (refine wpList_buildslice_st H rfl 34 36 _ _ rfl Tryz.underlying34 _ size_put _ zero_put (by decide) (by decide) [(0, .agg #[.int .i64 (j : Int), .slice (some ⟨gz, 0, none⟩) 248 248])] (by simp [Act.eval]) _ (fill_put2 _ _ rfl) ?_; clear H; intro W gs H)
            | (refine wpList_append_ownS H 6 rfl _ _ 34 rfl _ Tryz.underlying34 _ 2 32 info_put rfl (by omega) p j cap rfl _ rfl _ 1 _ rfl [.int .i64 (j : Int), .slice (some ⟨gz, 0, none⟩) 248 248] rfl (news_of_row (H.at 10 rfl)) (by simp [Value.oneCell']) (by omega) (by simp only [maxLen]; omega) (by omega) ?_; clear H; intro W gp capp H))
          replace H := (H.putMore 9 7 rfl rfl (by decide) j 248 noHome_len (by omega)).take 9
          replace H : St NoBlk (fun _ => True) w W (t.L g ++ [rdA (some ⟨ga, offa, none⟩) (byteV sizes), rdA p2 (points.map Value.bool), ownS 36 2 (some ⟨gp, 0, none⟩) (j + 1) capp (putV ps ++ [.int .i64 (j : Int), .slice (some ⟨gz, 0, none⟩) 248 248]), putsA (fun k => rp k ∨ k = gz) (ps ++ [⟨j, .slice (some ⟨gz, 0, none⟩) 248 248, noHome⟩]), errA]) := H
          go_roundw
          case rel => exact ⟨j + 1, _, _, ps ++ [⟨j, .slice (some ⟨gz, 0, none⟩) 248 248, noHome⟩], _, rfl, congrArg _ (by omega), HJ.out, HZ.out.snoc _ _ noHome_len, by rw [putV_snoc]; exact H⟩
          case measure => have := HJ.out; simp [intOf]; omega
        · obtain rfl : j = m := by omega
          have hji : ¬ ((j : Int) < (j : Int)) := by omega
          replace H := H.rdOf 6 rfl
          replace H : St NoBlk (fun _ => True) w wr ((t.L g ++ [rdA (some ⟨ga, offa, none⟩) (byteV sizes), rdA p2 (points.map Value.bool)]) ++ [rdA p (putV ps), putsA rp ps, errA]) := H
          replace H := H.swap
          have HPL := Lib.hid HZ.out.len
          have HM := Lib.hid (show j ≤ 59 by omega)
          have HI := Lib.hid (show i < 30 by omega)
          by_cases hlong : r ≤ j
          · have hlong2 : (r : Int) ≤ (j : Int) := by omega
            go_upto_region 32 with (first
              | (go_at_call 15; go_loud ((refine (Commit_long (g := g) (t := t) (ps := ps) (p := p) (rp := rp) (H.take 7).bundle HO.out (HZ.out.good (by rw [HNN.out]; have := HR.out; have := HM.out; omega)) (by rw [HPL.out]; have := HM.out; omega) (by rw [HPL.out, HRR.out]; omega) HPL.out).mono ?_); rintro e W ⟨rfl, hto⟩; replace H := hto.front (R := [rdA (some ⟨ga, offa, none⟩) (byteV sizes), rdA p2 (points.map Value.bool)]) H; clear hto)))
            replace H := St.swap (A := t.L g) (E := [rdA p (putV ps), putsA rp ps, errA]) (R := [rdA (some ⟨ga, offa, none⟩) (byteV sizes), rdA p2 (points.map Value.bool)]) H
            replace H := (St.swap (A := t.L g ++ [rdA (some ⟨ga, offa, none⟩) (byteV sizes), rdA p2 (points.map Value.bool)]) (E := [rdA p (putV ps), putsA rp ps]) (R := [errA]) (by exact H)).take 7
            replace H : St NoBlk (fun _ => True) w W (t.L g ++ [rdA (some ⟨ga, offa, none⟩) (byteV sizes), rdA p2 (points.map Value.bool), errA]) := H
            have HOt := Lib.hid (HO.out.mono (c' := 2 * i + 1) (by omega))
            have HN1 := HNN
            have HR1 := HRR
            by_cases hpl : i < points.length
            · obtain ⟨gb, offb, rfl, hcell2⟩ := rdA_at (H.at 5 rfl) (i := i) (x := .bool points[i]) (by simp [hpl])
              have hpi : (i : Int) < (points.length : Int) := by omega
              cases hpb : points[i] with
              | true =>
                rw [hpb] at hcell2
                go_wp2_with (first
                  | (go_at_call 16; go_loud ((refine (Checkpoint_ok (t := t) (H.take 4).bundle HOt.out (by omega)).mono ?_); rintro e W2 ⟨rfl, t2, h1, h2, h3, h4, h5, h6, h7, hto⟩; replace H := hto.front (R := [rdA (some ⟨ga, offa, none⟩) (byteV sizes), rdA (some ⟨gb, offb, none⟩) (points.map Value.bool), errA]) H; clear hto; have HOu := Lib.hid h1; have HNu := Lib.hid (h3.trans HN1.out); have HRu := Lib.hid (h4.trans HR1.out); have HTu := Lib.hid (show (t2.X.turn : Int) = (t.X.turn : Int) from (congrArg (fun x : Nat => (x : Int)) h5).trans (rfl : (t.X.turn : Int) = (t.X.turn : Int))); have HFu := Lib.hid (show t2.X.free = (r : Int) by rw [h6, HR1.out]); clear h1 h2 h3 h4 h5 h6 h7))
                  | (go_at_call 17; go_loud ((refine (Free_T (t := t2) (H.take 4).bundle (z := (r : Int)) HFu.out).mono ?_); rintro e W' ⟨rfl, rfl⟩))
                  | (go_at_call 18; go_loud ((refine (Turn_T (t := t2) (H.take 4).bundle (z := (t.X.turn : Int)) HTu.out).mono ?_); rintro e W' ⟨rfl, rfl⟩)))
                go_roundw
                case rel => exact ⟨i + 1, t2, congrArg _ (by omega), hlt, HOu.out, HNu.out, HRu.out, congrArg _ HFu.out.symm, congrArg _ HTu.out.symm, H⟩
                case measure => simp [intOf]; omega
              | false =>
                rw [hpb] at hcell2
                go_wp2_with (first
                  | (go_at_call 17; go_loud ((refine (Free_T (t := t) (H.take 4).bundle (z := t.X.free) (rfl : t.X.free = t.X.free)).mono ?_); rintro e W' ⟨rfl, rfl⟩))
                  | (go_at_call 18; go_loud ((refine (Turn_T (t := t) (H.take 4).bundle (z := (t.X.turn : Int)) (rfl : (t.X.turn : Int) = (t.X.turn : Int))).mono ?_); rintro e W' ⟨rfl, rfl⟩)))
                go_roundw
                case rel => exact ⟨i + 1, t, congrArg _ (by omega), hlt, HOt.out.mono (by omega), HN1.out, HR1.out, congrArg _ ((rfl : t.X.free = t.X.free)).symm, congrArg _ ((rfl : (t.X.turn : Int) = (t.X.turn : Int))).symm, H⟩
                case measure => simp [intOf]; omega
            · have hpi : ¬ ((i : Int) < (points.length : Int)) := by omega
              have hpi2 : decide ((i : Int) < (points.length : Int)) = false := decide_eq_false hpi
              go_wp2_with (first
                | (go_at_call 17; go_loud ((refine (Free_T (t := t) (H.take 4).bundle (z := t.X.free) (rfl : t.X.free = t.X.free)).mono ?_); rintro e W' ⟨rfl, rfl⟩))
                | (go_at_call 18; go_loud ((refine (Turn_T (t := t) (H.take 4).bundle (z := (t.X.turn : Int)) (rfl : (t.X.turn : Int) = (t.X.turn : Int))).mono ?_); rintro e W' ⟨rfl, rfl⟩)))
              go_roundw
              case rel => exact ⟨i + 1, t, congrArg _ (by omega), hlt, HOt.out.mono (by omega), HN1.out, HR1.out, congrArg _ ((rfl : t.X.free = t.X.free)).symm, congrArg _ ((rfl : (t.X.turn : Int) = (t.X.turn : Int))).symm, H⟩
              case measure => simp [intOf]; omega
          · have hlong2 : ¬ ((r : Int) ≤ (j : Int)) := by omega
            have hlong3 : (j : Int) < (r : Int) := by omega
            by_cases hz : j = 0
            · subst hz
              obtain rfl : ps = [] := List.eq_nil_of_length_eq_zero HPL.out
              replace H := St.swap (A := t.L g) (E := [rdA p (putV []), putsA rp [], errA]) (R := [rdA (some ⟨ga, offa, none⟩) (byteV sizes), rdA p2 (points.map Value.bool)]) H
              replace H := St.swap (A := t.L g) (E := [rdA (some ⟨ga, offa, none⟩) (byteV sizes), rdA p2 (points.map Value.bool)]) (R := [rdA p (putV []), putsA rp [], errA]) (by exact H)
              go_upto_region 32 with (first
                | (go_at_call 15; go_loud ((refine (Commit_none (g := g) (t := t) (p := p) (rp := rp) (H.take 6).bundle HO.out).mono ?_); rintro e W ⟨rfl, hto⟩; replace H := hto.front (R := [errA, rdA (some ⟨ga, offa, none⟩) (byteV sizes), rdA p2 (points.map Value.bool)]) H; clear hto)))
              obtain ⟨ps, hps⟩ : ∃ ps : List PutS, [] = ps := ⟨_, rfl⟩
              rw [hps] at H
              clear hps
              replace H := St.swap (A := t.L g) (E := [rdA p (putV ps), putsA rp ps, errA]) (R := [rdA (some ⟨ga, offa, none⟩) (byteV sizes), rdA p2 (points.map Value.bool)]) H
              replace H := (St.swap (A := t.L g ++ [rdA (some ⟨ga, offa, none⟩) (byteV sizes), rdA p2 (points.map Value.bool)]) (E := [rdA p (putV ps), putsA rp ps]) (R := [errA]) (by exact H)).take 7
              replace H : St NoBlk (fun _ => True) w W (t.L g ++ [rdA (some ⟨ga, offa, none⟩) (byteV sizes), rdA p2 (points.map Value.bool), errA]) := H
              have HOt := Lib.hid (HO.out.mono (c' := 2 * i + 1) (by omega))
              have HN1 := HNN
              have HR1 := HRR
              by_cases hpl : i < points.length
              · obtain ⟨gb, offb, rfl, hcell2⟩ := rdA_at (H.at 5 rfl) (i := i) (x := .bool points[i]) (by simp [hpl])
                have hpi : (i : Int) < (points.length : Int) := by omega
                cases hpb : points[i] with
                | true =>
                  rw [hpb] at hcell2
                  go_wp2_with (first
                    | (go_at_call 16; go_loud ((refine (Checkpoint_ok (t := t) (H.take 4).bundle HOt.out (by omega)).mono ?_); rintro e W2 ⟨rfl, t2, h1, h2, h3, h4, h5, h6, h7, hto⟩; replace H := hto.front (R := [rdA (some ⟨ga, offa, none⟩) (byteV sizes), rdA (some ⟨gb, offb, none⟩) (points.map Value.bool), errA]) H; clear hto; have HOu := Lib.hid h1; have HNu := Lib.hid (h3.trans HN1.out); have HRu := Lib.hid (h4.trans HR1.out); have HTu := Lib.hid (show (t2.X.turn : Int) = (t.X.turn : Int) from (congrArg (fun x : Nat => (x : Int)) h5).trans (rfl : (t.X.turn : Int) = (t.X.turn : Int))); have HFu := Lib.hid (show t2.X.free = (r : Int) by rw [h6, HR1.out]); clear h1 h2 h3 h4 h5 h6 h7))
                    | (go_at_call 17; go_loud ((refine (Free_T (t := t2) (H.take 4).bundle (z := (r : Int)) HFu.out).mono ?_); rintro e W' ⟨rfl, rfl⟩))
                    | (go_at_call 18; go_loud ((refine (Turn_T (t := t2) (H.take 4).bundle (z := (t.X.turn : Int)) HTu.out).mono ?_); rintro e W' ⟨rfl, rfl⟩)))
                  go_roundw
                  case rel => exact ⟨i + 1, t2, congrArg _ (by omega), hlt, HOu.out, HNu.out, HRu.out, congrArg _ HFu.out.symm, congrArg _ HTu.out.symm, H⟩
                  case measure => simp [intOf]; omega
                | false =>
                  rw [hpb] at hcell2
                  go_wp2_with (first
                    | (go_at_call 17; go_loud ((refine (Free_T (t := t) (H.take 4).bundle (z := t.X.free) (rfl : t.X.free = t.X.free)).mono ?_); rintro e W' ⟨rfl, rfl⟩))
                    | (go_at_call 18; go_loud ((refine (Turn_T (t := t) (H.take 4).bundle (z := (t.X.turn : Int)) (rfl : (t.X.turn : Int) = (t.X.turn : Int))).mono ?_); rintro e W' ⟨rfl, rfl⟩)))
                  go_roundw
                  case rel => exact ⟨i + 1, t, congrArg _ (by omega), hlt, HOt.out.mono (by omega), HN1.out, HR1.out, congrArg _ ((rfl : t.X.free = t.X.free)).symm, congrArg _ ((rfl : (t.X.turn : Int) = (t.X.turn : Int))).symm, H⟩
                  case measure => simp [intOf]; omega
              · have hpi : ¬ ((i : Int) < (points.length : Int)) := by omega
                have hpi2 : decide ((i : Int) < (points.length : Int)) = false := decide_eq_false hpi
                go_wp2_with (first
                  | (go_at_call 17; go_loud ((refine (Free_T (t := t) (H.take 4).bundle (z := t.X.free) (rfl : t.X.free = t.X.free)).mono ?_); rintro e W' ⟨rfl, rfl⟩))
                  | (go_at_call 18; go_loud ((refine (Turn_T (t := t) (H.take 4).bundle (z := (t.X.turn : Int)) (rfl : (t.X.turn : Int) = (t.X.turn : Int))).mono ?_); rintro e W' ⟨rfl, rfl⟩)))
                go_roundw
                case rel => exact ⟨i + 1, t, congrArg _ (by omega), hlt, HOt.out.mono (by omega), HN1.out, HR1.out, congrArg _ ((rfl : t.X.free = t.X.free)).symm, congrArg _ ((rfl : (t.X.turn : Int) = (t.X.turn : Int))).symm, H⟩
                case measure => simp [intOf]; omega
            · have hzi : 0 < (j : Int) := by omega
              have hzi2 : ¬ ((j : Int) ≤ 0) := by omega
              have hf0 : 0 ≤ t.X.free := HO.out.fine.free.1
              have hf1 : t.X.free ≤ 47 := by have := HO.out.fine.free.2; have := HRR.out; have := HR.out; omega
              have ht0 : 0 ≤ (t.X.turn : Int) := by omega
              have ht1 : (t.X.turn : Int) < 1000 := by have := HO.out.turn; omega
              by_cases hroom : t.X.free < (j : Int) + 1
              · go_upto_region 32 with (first
                | (go_at_call 15; go_loud ((refine (Commit_ok (g := g) (t := t) (ps := ps) (p := p) (rp := rp) (H.take 6).bundle HO.out (by omega) (GoodP.good (HZ.out.good (by rw [HNN.out]; have := HR.out; have := HM.out; omega)) (by rw [HPL.out]; have := HM.out; omega) (by rw [HPL.out, HRR.out]; omega)) (by rw [HPL.out]; omega) HPL.out).mono ?_); rintro e W ⟨rfl, t1, h1, h2, h3, h4, h5, h6, h7, hto⟩; replace H := hto.front (R := [errA, rdA (some ⟨ga, offa, none⟩) (byteV sizes), rdA p2 (points.map Value.bool)]) H; clear hto; have HOt := Lib.hid h1; have HN1 := Lib.hid (h3.trans HNN.out); have HR1 := Lib.hid (h4.trans HRR.out); have HTZ := Lib.hid (show (t1.X.turn : Int) = (t.X.turn : Int) + 1 by rw [h5]; rfl); have HFZ := Lib.hid (show t1.X.free = (r : Int) - (j : Int) - 1 by rw [h6, HPL.out]; unfold LS.roomy; rw [if_pos (by omega)]; show (t.X.ring : Int) - _ = _; rw [HRR.out]; omega); clear h1 h2 h3 h4 h5 h6 h7)))
                replace H := St.swap (A := t1.L g) (E := [rdA p (putV ps), putsA rp ps, errA]) (R := [rdA (some ⟨ga, offa, none⟩) (byteV sizes), rdA p2 (points.map Value.bool)]) H
                replace H := (St.swap (A := t1.L g ++ [rdA (some ⟨ga, offa, none⟩) (byteV sizes), rdA p2 (points.map Value.bool)]) (E := [rdA p (putV ps), putsA rp ps]) (R := [errA]) (by exact H)).take 7
                replace H : St NoBlk (fun _ => True) w W (t1.L g ++ [rdA (some ⟨ga, offa, none⟩) (byteV sizes), rdA p2 (points.map Value.bool), errA]) := H
                by_cases hpl : i < points.length
                · obtain ⟨gb, offb, rfl, hcell2⟩ := rdA_at (H.at 5 rfl) (i := i) (x := .bool points[i]) (by simp [hpl])
                  have hpi : (i : Int) < (points.length : Int) := by omega
                  cases hpb : points[i] with
                  | true =>
                    rw [hpb] at hcell2
                    go_wp2_with (first
                      | (go_at_call 16; go_loud ((refine (Checkpoint_ok (t := t1) (H.take 4).bundle HOt.out (by omega)).mono ?_); rintro e W2 ⟨rfl, t2, h1, h2, h3, h4, h5, h6, h7, hto⟩; replace H := hto.front (R := [rdA (some ⟨ga, offa, none⟩) (byteV sizes), rdA (some ⟨gb, offb, none⟩) (points.map Value.bool), errA]) H; clear hto; have HOu := Lib.hid h1; have HNu := Lib.hid (h3.trans HN1.out); have HRu := Lib.hid (h4.trans HR1.out); have HTu := Lib.hid (show (t2.X.turn : Int) = (t.X.turn : Int) + 1 from (congrArg (fun x : Nat => (x : Int)) h5).trans HTZ.out); have HFu := Lib.hid (show t2.X.free = (r : Int) by rw [h6, HR1.out]); clear h1 h2 h3 h4 h5 h6 h7))
                      | (go_at_call 17; go_loud ((refine (Free_T (t := t2) (H.take 4).bundle (z := (r : Int)) HFu.out).mono ?_); rintro e W' ⟨rfl, rfl⟩))
                      | (go_at_call 18; go_loud ((refine (Turn_T (t := t2) (H.take 4).bundle (z := (t.X.turn : Int) + 1) HTu.out).mono ?_); rintro e W' ⟨rfl, rfl⟩)))
                    go_roundw
                    case rel => exact ⟨i + 1, t2, congrArg _ (by omega), hlt, HOu.out, HNu.out, HRu.out, congrArg _ HFu.out.symm, congrArg _ HTu.out.symm, H⟩
                    case measure => simp [intOf]; omega
                  | false =>
                    rw [hpb] at hcell2
                    go_wp2_with (first
                      | (go_at_call 17; go_loud ((refine (Free_T (t := t1) (H.take 4).bundle (z := (r : Int) - (j : Int) - 1) HFZ.out).mono ?_); rintro e W' ⟨rfl, rfl⟩))
                      | (go_at_call 18; go_loud ((refine (Turn_T (t := t1) (H.take 4).bundle (z := (t.X.turn : Int) + 1) HTZ.out).mono ?_); rintro e W' ⟨rfl, rfl⟩)))
                    go_roundw
                    case rel => exact ⟨i + 1, t1, congrArg _ (by omega), hlt, HOt.out.mono (by omega), HN1.out, HR1.out, congrArg _ (HFZ.out).symm, congrArg _ (HTZ.out).symm, H⟩
                    case measure => simp [intOf]; omega
                · have hpi : ¬ ((i : Int) < (points.length : Int)) := by omega
                  have hpi2 : decide ((i : Int) < (points.length : Int)) = false := decide_eq_false hpi
                  go_wp2_with (first
                    | (go_at_call 17; go_loud ((refine (Free_T (t := t1) (H.take 4).bundle (z := (r : Int) - (j : Int) - 1) HFZ.out).mono ?_); rintro e W' ⟨rfl, rfl⟩))
                    | (go_at_call 18; go_loud ((refine (Turn_T (t := t1) (H.take 4).bundle (z := (t.X.turn : Int) + 1) HTZ.out).mono ?_); rintro e W' ⟨rfl, rfl⟩)))
                  go_roundw
                  case rel => exact ⟨i + 1, t1, congrArg _ (by omega), hlt, HOt.out.mono (by omega), HN1.out, HR1.out, congrArg _ (HFZ.out).symm, congrArg _ (HTZ.out).symm, H⟩
                  case measure => simp [intOf]; omega
              · go_upto_region 32 with (first
                | (go_at_call 15; go_loud ((refine (Commit_ok (g := g) (t := t) (ps := ps) (p := p) (rp := rp) (H.take 6).bundle HO.out (by omega) (GoodP.good (HZ.out.good (by rw [HNN.out]; have := HR.out; have := HM.out; omega)) (by rw [HPL.out]; have := HM.out; omega) (by rw [HPL.out, HRR.out]; omega)) (by rw [HPL.out]; omega) HPL.out).mono ?_); rintro e W ⟨rfl, t1, h1, h2, h3, h4, h5, h6, h7, hto⟩; replace H := hto.front (R := [errA, rdA (some ⟨ga, offa, none⟩) (byteV sizes), rdA p2 (points.map Value.bool)]) H; clear hto; have HOt := Lib.hid h1; have HN1 := Lib.hid (h3.trans HNN.out); have HR1 := Lib.hid (h4.trans HRR.out); have HTZ := Lib.hid (show (t1.X.turn : Int) = (t.X.turn : Int) + 1 by rw [h5]; rfl); have HFZ := Lib.hid (show t1.X.free = t.X.free - (j : Int) - 1 by rw [h6, HPL.out]; unfold LS.roomy; rw [if_neg (by omega)]; omega); clear h1 h2 h3 h4 h5 h6 h7)))
                replace H := St.swap (A := t1.L g) (E := [rdA p (putV ps), putsA rp ps, errA]) (R := [rdA (some ⟨ga, offa, none⟩) (byteV sizes), rdA p2 (points.map Value.bool)]) H
                replace H := (St.swap (A := t1.L g ++ [rdA (some ⟨ga, offa, none⟩) (byteV sizes), rdA p2 (points.map Value.bool)]) (E := [rdA p (putV ps), putsA rp ps]) (R := [errA]) (by exact H)).take 7
                replace H : St NoBlk (fun _ => True) w W (t1.L g ++ [rdA (some ⟨ga, offa, none⟩) (byteV sizes), rdA p2 (points.map Value.bool), errA]) := H
                by_cases hpl : i < points.length
                · obtain ⟨gb, offb, rfl, hcell2⟩ := rdA_at (H.at 5 rfl) (i := i) (x := .bool points[i]) (by simp [hpl])
                  have hpi : (i : Int) < (points.length : Int) := by omega
                  cases hpb : points[i] with
                  | true =>
                    rw [hpb] at hcell2
                    go_wp2_with (first
                      | (go_at_call 16; go_loud ((refine (Checkpoint_ok (t := t1) (H.take 4).bundle HOt.out (by omega)).mono ?_); rintro e W2 ⟨rfl, t2, h1, h2, h3, h4, h5, h6, h7, hto⟩; replace H := hto.front (R := [rdA (some ⟨ga, offa, none⟩) (byteV sizes), rdA (some ⟨gb, offb, none⟩) (points.map Value.bool), errA]) H; clear hto; have HOu := Lib.hid h1; have HNu := Lib.hid (h3.trans HN1.out); have HRu := Lib.hid (h4.trans HR1.out); have HTu := Lib.hid (show (t2.X.turn : Int) = (t.X.turn : Int) + 1 from (congrArg (fun x : Nat => (x : Int)) h5).trans HTZ.out); have HFu := Lib.hid (show t2.X.free = (r : Int) by rw [h6, HR1.out]); clear h1 h2 h3 h4 h5 h6 h7))
                      | (go_at_call 17; go_loud ((refine (Free_T (t := t2) (H.take 4).bundle (z := (r : Int)) HFu.out).mono ?_); rintro e W' ⟨rfl, rfl⟩))
                      | (go_at_call 18; go_loud ((refine (Turn_T (t := t2) (H.take 4).bundle (z := (t.X.turn : Int) + 1) HTu.out).mono ?_); rintro e W' ⟨rfl, rfl⟩)))
                    go_roundw
                    case rel => exact ⟨i + 1, t2, congrArg _ (by omega), hlt, HOu.out, HNu.out, HRu.out, congrArg _ HFu.out.symm, congrArg _ HTu.out.symm, H⟩
                    case measure => simp [intOf]; omega
                  | false =>
                    rw [hpb] at hcell2
                    go_wp2_with (first
                      | (go_at_call 17; go_loud ((refine (Free_T (t := t1) (H.take 4).bundle (z := t.X.free - (j : Int) - 1) HFZ.out).mono ?_); rintro e W' ⟨rfl, rfl⟩))
                      | (go_at_call 18; go_loud ((refine (Turn_T (t := t1) (H.take 4).bundle (z := (t.X.turn : Int) + 1) HTZ.out).mono ?_); rintro e W' ⟨rfl, rfl⟩)))
                    go_roundw
                    case rel => exact ⟨i + 1, t1, congrArg _ (by omega), hlt, HOt.out.mono (by omega), HN1.out, HR1.out, congrArg _ (HFZ.out).symm, congrArg _ (HTZ.out).symm, H⟩
                    case measure => simp [intOf]; omega
                · have hpi : ¬ ((i : Int) < (points.length : Int)) := by omega
                  have hpi2 : decide ((i : Int) < (points.length : Int)) = false := decide_eq_false hpi
                  go_wp2_with (first
                    | (go_at_call 17; go_loud ((refine (Free_T (t := t1) (H.take 4).bundle (z := t.X.free - (j : Int) - 1) HFZ.out).mono ?_); rintro e W' ⟨rfl, rfl⟩))
                    | (go_at_call 18; go_loud ((refine (Turn_T (t := t1) (H.take 4).bundle (z := (t.X.turn : Int) + 1) HTZ.out).mono ?_); rintro e W' ⟨rfl, rfl⟩)))
                  go_roundw
                  case rel => exact ⟨i + 1, t1, congrArg _ (by omega), hlt, HOt.out.mono (by omega), HN1.out, HR1.out, congrArg _ (HFZ.out).symm, congrArg _ (HTZ.out).symm, H⟩
                  case measure => simp [intOf]; omega
    · obtain rfl : i = sizes.length := by omega
      have hji : ¬ ((sizes.length : Int) < (sizes.length : Int)) := by omega
      go_wp2
      go_ret
      exact ⟨rfl, H.fix.below⟩

theorem logRing_calls (p0 : Option Addr) (c0 : Nat) (sizes : List UInt8) (ring : UInt8) (p2 : Option Addr) (c2 : Nat) (points : List Bool) (w : World)
    (hg : errA.prop w) (ha0 : (rdA p0 (byteV sizes)).prop w) (ha2 : (rdA p2 (points.map Value.bool)).prop w) :
    Calls Tryz.prog 3 #[.slice p0 sizes.length c0, .int .u8 (ring.toNat : Int), .slice p2 points.length c2] w fun e w' => e = .returned (.bool true) ∧ Below w.heap.size w w' := by
  by_cases h : sizes.length ≤ 30 ∧ points.length ≤ 30
  · exact logRing_short p0 p2 c0 c2 sizes points ring w h.1 h.2 hg ha0 ha2
  · have H := St.nil NoBlk NoBlk w
    have hc : 30 < (sizes.length : Int) ∨ ((sizes.length : Int) ≤ 30 ∧ 30 < (points.length : Int)) := by omega
    clear h
    rcases hc with h0 | ⟨h0, h1⟩
    all_goals
      go_enter Tryz.func3, Tryz.ntmps3
      go_wp2_with (first | (go_at_call 10; (with_reducible refine (begun_calls _).mono ?_); rintro e W ⟨rfl, hb⟩; replace H := H.stay (Fix.of_below hb _); clear hb))
      go_ret
      exact ⟨rfl, H.fix.below⟩

end Go.Proofs.YtajlhloapglafaaGreatDoor

namespace Go.Proofs.YtajlhloapglafaaGreatDoor
open Go.ChangeShapes Go.WideShapes Go.ChangeAt Go.RowKit
set_option linter.unusedSimpArgs false
set_option linter.unusedVariables false
set_option maxRecDepth 40000


theorem open_bytesA {H : Type} {enc : TypeId × Value → H} {W : World} {base : Nat} {v : Value} {d : DataW H} {p : List MemPlace} (hval : Value.okWide Tryz.prog W .any base 22 v) (h : DataW.Trod enc Tryz.prog W 0 (fun _ => true) true 22 v d p) :
    ∃ q l cap, v = .slice q l.length cap ∧ (rdA q (byteV l)).prop W := by
  obtain ⟨a1, len, cap, rfl⟩ := okWide_slice Tryz.underlying22 hval
  obtain ⟨fuel, hf⟩ := h
  have hc : Tryz.prog.cellsOf 5 = 1 := by kernel_rfl
  rcases open_ints Tryz.underlying22 Tryz.underlying5 hc hf with ⟨hcs, hx⟩ | ⟨a, len', cap', zs, hcs, _, hl, hm, hz, hx, hcell, hwz⟩
  · simp [Value.cells] at hcs
    obtain ⟨rfl, rfl, rfl⟩ := hcs
    exact ⟨none, [], 0, rfl, .inl rfl⟩
  · simp [Value.cells] at hcs
    obtain ⟨rfl, rfl, rfl⟩ := hcs
    simp only [if_true] at hz
    have hlen : ((zs.take len).map fun n => UInt8.ofNat n.toNat).length = len := by simp; omega
    refine ⟨some a, (zs.take len).map fun n => UInt8.ofNat n.toNat, cap, by rw [hlen], ?_⟩
    by_cases h0 : len = 0
    · left; subst h0; simp [byteV]
    · obtain ⟨ab, ao, spot⟩ := a
      have hspot : spot = none := by simpa [Addr.add] using World.cell?_spot (hcell 0 (by omega))
      subst hspot
      refine .inr ⟨ab, ao, rfl, ?_, fun i x hi => ?_⟩
      · have := World.block_lt_of_cell? W _ (hcell 0 (by omega))
        simpa [Addr.add] using this
      · have hi1 : i < len := by have := (List.getElem?_eq_some_iff.1 hi).1; simp only [byteV, List.length_map] at this; simp at this; omega
        have hci := hcell i (by omega)
        rw [Addr.add_lit] at hci
        rw [hci]
        have hzi : i < zs.length := by omega
        have hw := bounds_u8 (hwz _ (List.getElem_mem hzi))
        rw [byteV_get] at hi
        simp only [List.getElem?_map, List.getElem?_take_of_lt hi1, List.getElem?_eq_getElem hzi, Option.map_some, Option.some.injEq] at hi
        rw [← hi, List.getD_eq_getElem?_getD, List.getElem?_eq_getElem hzi, Option.getD_some]
        congr 2
        rw [UInt8.toNat_ofNat']
        omega

theorem open_boolsA {H : Type} {enc : TypeId × Value → H} {W : World} {base : Nat} {v : Value} {d : DataW H} {p : List MemPlace} (hval : Value.okWide Tryz.prog W .any base 23 v) (h : DataW.Trod enc Tryz.prog W 0 (fun _ => true) true 23 v d p) :
    ∃ q l cap, v = .slice q (List.length l) cap ∧ (rdA q (l.map Value.bool)).prop W := by
  obtain ⟨a1, len, cap, rfl⟩ := okWide_slice Tryz.underlying23 hval
  obtain ⟨fuel, hf⟩ := h
  have hc : Tryz.prog.cellsOf 4 = 1 := by kernel_rfl
  rcases Go.Deep.open_bools Tryz.underlying23 Tryz.underlying4 hc hf with ⟨hcs, hx⟩ | ⟨a, len', cap', B, hcs, _, hl, hm, hx, hcell⟩
  · simp [Value.cells] at hcs
    obtain ⟨rfl, rfl, rfl⟩ := hcs
    exact ⟨none, [], 0, rfl, .inl rfl⟩
  · simp [Value.cells] at hcs
    obtain ⟨rfl, rfl, rfl⟩ := hcs
    refine ⟨some a, (List.range len).map B, cap, by simp, ?_⟩
    by_cases h0 : len = 0
    · left; subst h0; simp
    · obtain ⟨ab, ao, spot⟩ := a
      have hspot : spot = none := by simpa [Addr.add] using World.cell?_spot (hcell 0 (by omega))
      subst hspot
      refine .inr ⟨ab, ao, rfl, ?_, fun i x hi => ?_⟩
      · have := World.block_lt_of_cell? W _ (hcell 0 (by omega))
        simpa [Addr.add] using this
      · have hi1 : i < len := by have := (List.getElem?_eq_some_iff.1 hi).1; simpa using this
        have hci := hcell i (by omega)
        rw [Addr.add_lit] at hci
        rw [hci, ← hi]
        simp [hi1]

end Go.Proofs.YtajlhloapglafaaGreatDoor

namespace Go.Proofs.YtajlhloapglafaaGreatDoor
open Go.ChangeShapes Go.WideShapes Go.RowKit
set_option maxRecDepth 100000

theorem own : ownKnob Tryz.prog.godebug = none := by kernel_rfl
theorem laidOut : laidOutB Tryz.prog = true := by kernel_rfl
def errLaid : List (String × DataW Unit) := [("errors.errorType", Rows.laid_errors_errorType)]
theorem hd_et : Tryz.prog.globalNamed "errors.errorType" = some 0 := by kernel_rfl
theorem hd_rt : (Tryz.prog.cutTypes.find? (·.1 == "internal/reflectlite.rtype")).map (·.2) = some 153 := by kernel_rfl
theorem hd_one : ((List.range 217).filter fun t => Tryz.prog.rowNamed t [101, 114, 114, 111, 114]) = [86] := by kernel_rfl
theorem hd_size : Tryz.prog.types.size = 217 := by kernel_rfl

theorem handle_of_laid {W : World} (h : laidMetH Tryz.prog errLaid W) : errA.prop W := by
  have h' : laidMet Tryz.prog [] W ∧ handlesMet Tryz.prog errLaid W := h
  obtain ⟨name, u, ty, e1, e2, e3, e4, e5⟩ := h'.2 _ (List.mem_singleton.2 rfl)
  have en : name = [101, 114, 114, 111, 114] := (Option.some.inj e1).symm
  subst en
  obtain rfl := Option.some.inj (hd_rt.symm.trans e2)
  have hm : ty ∈ (List.range 217).filter fun t => Tryz.prog.rowNamed t [101, 114, 114, 111, 114] := List.mem_filter.2 ⟨List.mem_range.2 (by rw [← hd_size]; exact e3), e4⟩
  rw [hd_one] at hm
  obtain rfl := List.mem_singleton.1 hm
  have hh : typeHandle Tryz.prog 86 = .pointer (some ⟨1, 86, none⟩) := by kernel_rfl
  rw [hh] at e5
  have hc : W.cell? ⟨0, 0, none⟩ = some (.iface 153 (.agg #[.pointer (some ⟨1, 86, none⟩)])) := by simpa using World.var?_cell hd_et e5 0
  refine ⟨?_, hc⟩
  rcases Nat.eq_zero_or_pos W.heap.size with h0 | h
  · simp [World.cell?, h0] at hc
  · exact h

/-- A world that meets the condition. -/
noncomputable def laidWorld (os : Os) : World :=
  let w0 := World.holding Tryz.prog os ⟨#[], #[], []⟩
  { w0 with heap := w0.heap.modify 0 fun
      | .cells _ t frozen => .cells #[.iface 153 (.agg #[.pointer (some ⟨1, 86, none⟩)])] t frozen
      | o => o }
theorem laidWorld_met (os : Os) (args : Array Value) : laidMetH Tryz.prog errLaid ((laidWorld os).forCall (fun _ _ => 0) ⟨#[], args, []⟩).memory :=
  laidMetH_of_parts (laidMet_nil _ _) (by kernel_rfl)

end Go.Proofs.YtajlhloapglafaaGreatDoor
