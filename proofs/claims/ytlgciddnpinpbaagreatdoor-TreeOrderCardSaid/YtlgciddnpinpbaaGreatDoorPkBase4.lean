/- Texts of this proof, packed: Rows that are ours and grow, of elements of some cells each; the puts of a group that grows and what follows it. -/
import Derived.Test.YtlgciddnpinpbaaGreatDoorPkBase3
import Derived.WalkKit
import Derived.LaidEql
import Derived.Stop.Asserts
import Derived.RowKitTokens
import Derived.ProofKit
import Derived.OpenShut
import Derived.LaidMore
import Derived.Lay
import Derived.Deep.Grids
import Derived.Test.YtlgciddnpinpbaaGreatDoorRows
import Derived.ChangeSame
import Derived.ChangeVars
import Derived.JoinedOf
import Derived.RowKit
import Derived.LaidLaws
import Derived.LaidHandle
import Derived.Stop.Joined
import Derived.Laws.ResultCell
import Derived.Laws.Rows

namespace Go.Proofs.YtlgciddnpinpbaaGreatDoor
open Go.RowKit
set_option linter.unusedSimpArgs false
set_option linter.unusedVariables false
set_option maxRecDepth 4000

section
variable {P : Program} {ops : Array Oper} {rest : List Oper} {o : Oper} {a : Act} {Q : Exit → Act → World → Prop}
variable {M0 R0 : Nat → Prop} {w0 W : World} {L : List Asrt}

/-- A row that is ours and grows: nil, or a block of its own; elements of s cells. -/
def ownS (e : TypeId) (s : Nat) (p : Option Addr) (n cap : Nat) (xs : List Value) : Asrt where
  own k := ∃ ad, p = some ad ∧ k = ad.block
  rd _ := False
  prop W := W.ownsRow 0 e s (.slice p n cap) n xs
  stable W W' h hp := by
    refine ⟨hp.1, ?_⟩
    rcases hp.2 with h0 | ⟨g, cap', cur, e1, hb, hg, r⟩
    · exact .inl h0
    · cases e1
      exact .inr ⟨g, cap, cur, rfl, hb, (h g (.inl ⟨_, rfl, rfl⟩)).trans hg, r⟩
  bound W hp k hk := by
    rcases hk with ⟨ad, rfl, rfl⟩ | hk
    · rcases hp.2 with ⟨e1, _⟩ | ⟨g, cap', cur, e1, hb, hg, r⟩
      · cases e1
      · cases e1
        exact (Array.getElem?_eq_some_iff.1 hg).1
    · exact hk.elim

theorem ownS_nil (e : TypeId) (s : Nat) (W : World) : (ownS e s none 0 0 []).prop W := ⟨by simp, .inl ⟨rfl, rfl⟩⟩

/-- A row of nothing is added. -/
theorem St.addNil (H : St M0 R0 w0 W L) (e : TypeId) (s : Nat) : St M0 R0 w0 W (L ++ [ownS e s none 0 0 []]) :=
  H.add (Fix.refl _ _) (ownS e s none 0 0 []) (ownS_nil e s W) (fun k ⟨ad, h, _⟩ => by cases h) (fun k hk => hk.elim)

theorem wp_append_ownS (H : St M0 R0 w0 W L) (ix : Nat) {K : Act → World → Prop} (s x : Operand) (T : TypeId)
    (ho : o.op = .call { callee := .builtin .append, args := #[s, x], argTypes := #[T, T] }) (e : TypeId) (ht : P.underlying T = some (.slice e)) (z : Value) (sz b : Nat) (hi : (P.info? e).map (fun i => (i.zero, i.size, i.bytes)) = some (some z, sz, b)) (hz1 : z.cells.size = sz) (hsz : 0 < sz)
    (p : Option Addr) (n cap : Nat) (hs : a.eval s = .slice p n cap) (xs : List Value) (hix : L[ix]? = some (ownS e sz p n cap xs))
    (ad : Addr) (m c : Nat) (hx : a.eval x = .slice (some ad) m c) (news : List Value) (hl : news.length = m * sz) (hnews : ∀ j u, news[j]? = some u → W.cell? (ad.add j) = some u) (h1 : ∀ u ∈ news, u.oneCell' = true)
    (hm : 0 < m) (h63 : n + m ≤ maxLen) (hbytes : (n + m) * b ≤ 140737488355328)
    (h : ∀ W' g' cap', St M0 R0 w0 W' (L.set ix (ownS e sz (some ⟨g', 0, none⟩) (n + m) cap' (xs ++ news))) → K (a.put o.dst (.slice (some ⟨g', 0, none⟩) (n + m) cap')) W') : o.wp P a W K Q := by
  obtain ⟨i, hii, hz, hsi, hby⟩ := info_parts hi
  have hown : W.ownsRow 0 e sz (.slice p n cap) n xs := H.at ix hix
  obtain ⟨g', cap', w', hrun, r1, r2, r3, r4⟩ := run_append_lies (P := P) W T o.type 0 e i z sz b ht hii hz hsi hby hz1 hsz (.slice p n cap) n xs hown ad m c news hl hnews h1 hm h63 hbytes (Nat.zero_le _) W.heap.size rfl
  have hgrow : Fix (ownS e sz p n cap xs).own W w' := ⟨r2.os, r2.tape, r2.output, r2.size, fun k hk hn => r2.block k hk (fun e1 => hn (by
    cases p with
    | none => simp [Value.ownBlock] at e1
    | some ad => simp [Value.ownBlock] at e1; exact ⟨ad, rfl, e1⟩))⟩
  have hnew : ∀ k, (ownS e sz (some ⟨g', 0, none⟩) (n + m) cap' (xs ++ news)).own k → (ownS e sz p n cap xs).own k ∨ W.heap.size ≤ k := by
    rintro k ⟨ad', e1, rfl⟩
    cases e1
    rcases r3 with r3 | r3
    · left
      cases p with
      | none => simp [Value.ownBlock] at r3
      | some ad => simp [Value.ownBlock] at r3; exact ⟨ad, rfl, r3.symm⟩
    · right; show W.heap.size ≤ g'; omega
  have H' := H.step ix hix (A' := ownS e sz (some ⟨g', 0, none⟩) (n + m) cap' (xs ++ news)) hgrow r1 ⟨hnew, fun k hk => hk.elim⟩
  unfold Oper.wp execOp
  simp only [ho, resolve, invoke, builtin, Sem.run_bind, Sem.run_pure, Result.andThen_ok, List.map_toArray, List.map_cons, List.map_nil, hs, hx, hrun]
  exact h _ _ _ H'

theorem wpList_append_ownS (H : St M0 R0 w0 W L) (ix : Nat) (hwt : Region.wanted o (yielded ops a.tmps) = true) (s x : Operand) (T : TypeId)
    (ho : o.op = .call { callee := .builtin .append, args := #[s, x], argTypes := #[T, T] }) (e : TypeId) (ht : P.underlying T = some (.slice e)) (z : Value) (sz b : Nat) (hi : (P.info? e).map (fun i => (i.zero, i.size, i.bytes)) = some (some z, sz, b)) (hz1 : z.cells.size = sz) (hsz : 0 < sz)
    (p : Option Addr) (n cap : Nat) (hs : a.eval s = .slice p n cap) (xs : List Value) (hix : L[ix]? = some (ownS e sz p n cap xs))
    (ad : Addr) (m c : Nat) (hx : a.eval x = .slice (some ad) m c) (news : List Value) (hl : news.length = m * sz) (hnews : ∀ j u, news[j]? = some u → W.cell? (ad.add j) = some u) (h1 : ∀ u ∈ news, u.oneCell' = true)
    (hm : 0 < m) (h63 : n + m ≤ maxLen) (hbytes : (n + m) * b ≤ 140737488355328)
    (h : ∀ W' g' cap', St M0 R0 w0 W' (L.set ix (ownS e sz (some ⟨g', 0, none⟩) (n + m) cap' (xs ++ news))) → wpList P ops Q rest (a.put o.dst (.slice (some ⟨g', 0, none⟩) (n + m) cap')) W') : wpList P ops Q (o :: rest) a W :=
  wpList_want hwt fun K hK => wp_append_ownS H ix s x T ho e ht z sz b hi hz1 hsz p n cap hs xs hix ad m c hx news hl hnews h1 hm h63 hbytes fun W' g' cap' H' => hK _ _ (h W' g' cap' H')

/-- A row that is ours, to be read. -/
theorem ownS_rd {W : World} {e : TypeId} {s : Nat} {p : Option Addr} {n cap : Nat} {xs : List Value} (h : (ownS e s p n cap xs).prop W) : (rdA p xs).prop W := by
  rcases h.2 with ⟨e1, h0⟩ | ⟨g, cap', cur, e1, hb, hg, h3, h4, h5, h6⟩
  · left
    have := h.1
    rw [h0, Nat.zero_mul] at this
    exact List.eq_nil_of_length_eq_zero this
  · cases e1
    right
    refine ⟨g, 0, rfl, (Array.getElem?_eq_some_iff.1 hg).1, ?_⟩
    intro i x hi
    rw [Nat.zero_add]
    refine row_cell hg ?_
    rw [← h6, List.getElem?_take] at hi
    split at hi
    · simpa using hi
    · cases hi

theorem ownS_rdown {e : TypeId} {s : Nat} {p : Option Addr} {n cap : Nat} {xs : List Value} : ∀ k, (rdA p xs).rd k → (ownS e s p n cap xs).own k := fun k ⟨_, h⟩ => h

theorem St.rdOf (H : St M0 R0 w0 W L) (i : Nat) {e : TypeId} {s : Nat} {p : Option Addr} {n cap : Nat} {xs : List Value} (hi : L[i]? = some (ownS e s p n cap xs)) : St M0 R0 w0 W (L.set i (rdA p xs)) :=
  H.recast i hi ownS_rd (fun k hk => hk.elim) (fun k hk => .inl (ownS_rdown k hk))
end

theorem PutsIs.more {W : World} {rd : Nat → Prop} {ps : List PutS} (h : PutsIs W rd ps) (hm : Nat) {g : Nat} {l : List UInt8} {cap : Nat} (hl : l.length = 248) (hc : 248 ≤ cap) (hb : BytesAt W g 0 l) (hg : g < W.heap.size) :
    PutsIs W (fun k => rd k ∨ k = g) (ps ++ [⟨hm, .slice (some ⟨g, 0, none⟩) 248 cap, l⟩]) := by
  refine ⟨fun x hx => ?_, fun k hk => ?_⟩
  · rcases List.mem_append.1 hx with hx | hx
    · exact (h.by_ x hx).same fun k hk => ⟨rfl, .inl hk⟩
    · obtain rfl := List.mem_singleton.1 hx
      exact .inr ⟨g, 0, cap, by rw [hl], by rw [hl]; exact hc, .inr (.inr rfl), hb⟩
  · rcases hk with hk | rfl
    · exact h.lt k hk
    · exact hg

theorem putsA_nil (W : World) : (putsA NoBlk []).prop W := ⟨fun x hx => (List.not_mem_nil hx).elim, fun k hk => hk.elim⟩

/-- The puts of a group, one more. -/
theorem St.putMore {M0 R0 : Nat → Prop} {w0 W : World} {L : List Asrt} (H : St M0 R0 w0 W L) (i j : Nat) {rp : Nat → Prop} {ps : List PutS} {g : Nat} {l : List UInt8} {junk : List Value} (hi : L[i]? = some (blk g (.cells (byteV l ++ junk).toArray 5 (0, 0)))) (hj : L[j]? = some (putsA rp ps)) (hne : i ≠ j)
    (h cap : Nat) (hl : l.length = 248) (hc : 248 ≤ cap) :
    St M0 R0 w0 W ((L.set i emp).set j (putsA (fun k => rp k ∨ k = g) (ps ++ [⟨h, .slice (some ⟨g, 0, none⟩) 248 cap, l⟩]))) := by
  have hg : W.heap[g]? = some (.cells (byteV l ++ junk).toArray 5 (0, 0)) := H.at i hi
  refine H.join i j hi hj ((H.at j hj : PutsIs W rp ps).more h hl hc (BytesAt.front hg) (Array.getElem?_eq_some_iff.1 hg).1) (fun k hk => hk.elim) (fun k hk => ?_)
  rcases hk with hk | rfl
  · exact .inl (.inr hk)
  · exact .inr (.inl rfl)

end Go.Proofs.YtlgciddnpinpbaaGreatDoor

namespace Go.Proofs.YtlgciddnpinpbaaGreatDoor
open Go.RowKit
set_option linter.unusedSimpArgs false
set_option linter.unusedVariables false
set_option maxRecDepth 4000

def noHome : List UInt8 := List.replicate 248 0
theorem noHome_len : noHome.length = 248 := List.length_replicate

/-- A log that is new. -/
structure LogT.New (t : LogT) (gd0 n0 ring0 : Nat) : Prop where
  ok : t.Ok 0
  gd : t.gd = gd0
  n : t.n = n0
  ring : t.X.ring = ring0
  turn : t.X.turn = 1
  free : t.X.free = (ring0 : Int)
  hom : ∀ k, k < n0 → t.hom k = noHome

theorem BunTo.single {W W' : World} {A : Asrt} {Ls : List Asrt} (h : BunTo W A.own A.rd Ls W') : BunTo W (ownL [A]) (rdL [A]) Ls W' :=
  ⟨h.holds, h.fix.mono fun k _ hk => ⟨A, List.mem_cons_self .., hk⟩, fun k hk => (h.owns k hk).imp (fun hk => ⟨A, List.mem_cons_self .., hk⟩) id, fun k hk => (h.reads k hk).imp (fun hk => ⟨A, List.mem_cons_self .., hk⟩) (fun h => h.imp (fun hk => ⟨A, List.mem_cons_self .., hk⟩) id)⟩

theorem noSect_drop : noSect.drop 8 = noHome := by simp [noSect, noHome]

theorem Open_new {w : World} {gd : Nat} {own rd : Nat → Prop} {N ring : Nat} (hd : DiskIs w gd (fmtD (DS.new N) N ring 6) own rd) (n : Nat) (hN : n + 2 + ring = N) (h1 : 8 ≤ ring) (h2 : ring ≤ 512) (h3 : 8 ≤ n) (h4 : N ≤ 1900) :
    Calls Tryz.prog 60 #[.pointer (some ⟨gd, 0, none⟩)] w fun e w' => ∃ g t, e = .returned (.tuple #[.pointer (some ⟨g, 0, none⟩), .int .i64 0]) ∧ LogT.New t gd n ring ∧
      BunTo w (ownL [dA gd (fmtD (DS.new N) N ring 6) own rd]) (rdL [dA gd (fmtD (DS.new N) N ring 6) own rd]) (t.L g) w' := by
  have hc0 : Calm (DS.new N) N 0 := ⟨List.length_replicate, rfl, rfl, rfl⟩
  have hc := fmt_calm (ring := ring) hc0 (by omega)
  have hfr := fmt_fresh (ring := ring) hc0 h1 h2 (by omega) h4
  refine (open_fresh hd hfr n).mono ?_
  rintro e w' ⟨g, gm, own', rd', rfl, hto⟩
  refine ⟨g, ⟨gd, gm, .map [], NoBlk, own', rd', LS.start (fmtD (DS.new N) N ring 6).lives ring, fmtD (DS.new N) N ring 6, n, N, 0 + N + 1⟩, rfl, ⟨⟨LS.start_fine hc h1 h2 n hN h3 h4, Nat.le_refl _, Nat.le_refl _, ?_⟩, rfl, rfl, rfl, rfl, rfl, ?_⟩, BunTo.single (A := dA gd _ own rd) hto⟩
  · show 0 + N + 1 ≤ 4000 + 2200 * 0; omega
  · intro k hk
    show ((fun _ => none : Nat → Option (List UInt8)) k).getD (((fmtD (DS.new N) N ring 6).sect (2 + ring + k)).drop 8) = _
    rw [hfr.rest _ (by omega) (by omega)]
    exact noSect_drop

theorem Format_new {w : World} {gd : Nat} {own rd : Nat → Prop} {N : Nat} (hd : DiskIs w gd (DS.new N) own rd) (z : Int) (ring : Nat) (hz : (ring : Int) = z) (h1 : 8 ≤ ring) (h2 : ring ≤ 512) (h3 : 8 + 2 + ring ≤ N) (h4 : N ≤ 1900) :
    Calls Tryz.prog 59 #[.pointer (some ⟨gd, 0, none⟩), .int .i64 z] w fun e w' => e = .returned (.int .i64 0) ∧ DiskTo w gd own rd (fmtD (DS.new N) N ring 6) w' :=
  format_calls hd (⟨List.length_replicate, rfl, rfl, rfl⟩ : Calm (DS.new N) N 0) (by omega) z ring hz h1 h2 h3 h4

theorem Homes_T {w : World} {g : Nat} {t : LogT} {c : Nat} (hb : Bundle w (t.L g)) (ht : t.Ok c) {z : Int} (hz : (t.n : Int) = z) :
    Calls Tryz.prog 23 #[.pointer (some ⟨g, 0, none⟩)] w fun e w' => e = .returned (.int .i64 z) ∧ BunTo w (ownL (t.L g)) (rdL (t.L g)) (t.L g) w' :=
  Homes_at (n := t.n) hb ht.fine.calm.len ht.fine.fits ht.fine.top hz

theorem Turn_T {w : World} {g : Nat} {t : LogT} (hb : Bundle w (t.L g)) {z : Int} (hz : (t.X.turn : Int) = z) :
    Calls Tryz.prog 57 #[.pointer (some ⟨g, 0, none⟩)] w fun e w' => e = .returned (.int .u64 z) ∧ w = w' :=
  Turn_at (n := t.n) hb hz


/-- A disk amid others comes to the front. -/
theorem St.last {M0 R0 : Nat → Prop} {w0 W : World} {A : List Asrt} {B : Asrt} (H : St M0 R0 w0 W (A ++ [B])) : St M0 R0 w0 W ([B] ++ A) := H.rotate

theorem news_of_row {W : World} {g : Nat} {vs : List Value} {t : TypeId} {fr : Nat × Nat} (hg : W.heap[g]? = some (.cells vs.toArray t fr)) : ∀ j u, vs[j]? = some u → W.cell? ((⟨g, 0, none⟩ : Addr).add j) = some u := by
  intro j u hu
  rw [Addr.add_lit, Nat.zero_add]
  exact row_cell hg (by simpa using hu)

theorem fill_put2 (h : Int) (v : Value) (hv : v.oneCell' = true) : Instr.fill (fun i => some (i * 2, 2)) ((Array.range (1 * 2)).map ((Value.agg #[.int .i64 0, .slice none 0 0]).cells[· % (Value.agg #[.int .i64 0, .slice none 0 0]).cells.size]!)) [(0, .agg #[.int .i64 h, v])] = some [.int .i64 h, v].toArray := by
  kernel_rfl

theorem info_put : (Tryz.prog.info? 127).map (fun i => (i.zero, i.size, i.bytes)) = some (some (.agg #[.int .i64 0, .slice none 0 0]), 2, 32) := by kernel_rfl
theorem putV_snoc (ps : List PutS) (x : PutS) : putV (ps ++ [x]) = putV ps ++ [.int .i64 (x.home : Int), x.val] := by simp [putV]

end Go.Proofs.YtlgciddnpinpbaaGreatDoor

namespace Go.Proofs.YtlgciddnpinpbaaGreatDoor
open Go.RowKit Go.Extern.Stop Go.Stop Go.Extern
set_option linter.unusedSimpArgs false
set_option linter.unusedVariables false
set_option maxRecDepth 4000

theorem AsT.valueOf27 (t : Addr) (w : World) : (ReflectliteValue.unpack (.iface 164 (.pointer (some t)))).run Tryz.prog w
    = .ok (.agg #[.pointer (some ⟨2, 164, none⟩), .pointer (some ⟨w.heap.size, 0, none⟩), .int .u64 150]) (w.alloc (.cells #[.pointer (some t)] 164)) := by kernel_rfl
theorem AsT.type27 (a : Addr) (w : World) : (ReflectliteValue.methodAny (ReflectliteValue.valueError "reflectlite.Value.Type" 0) (fun t _ _ _ => ReflectliteType.toType t) #[.agg #[.pointer (some ⟨2, 164, none⟩), .pointer (some a), .int .u64 150]]).run Tryz.prog w
    = .ok (.iface 253 (.agg #[.pointer (some ⟨2, 164, none⟩)])) w := by kernel_rfl
theorem AsT.methodKind (h : Value) (w : World) : (Go.method 428 253 (.agg #[h]) "Kind").run Tryz.prog w = .ok (225, h) w := by kernel_rfl
theorem AsT.kind27 (w : World) : ((ReflectliteType.abiMethod fun t => (fun a : Nat => Value.int IntKind.u8 (a : Int)) <$> Rtype.kind t) #[.pointer (some ⟨2, 164, none⟩)]).run Tryz.prog w = .ok (.int .u8 22) w := by kernel_rfl
theorem AsT.kind25 (w : World) : ((ReflectliteType.abiMethod fun t => (fun a : Nat => Value.int IntKind.u8 (a : Int)) <$> Rtype.kind t) #[.pointer (some ⟨2, 118, none⟩)]).run Tryz.prog w = .ok (.int .u8 22) w := by kernel_rfl

theorem AsT.parts27 (a : Addr) (w : World) : (ReflectliteValue.parts (.agg #[.pointer (some ⟨2, 164, none⟩), .pointer (some a), .int .u64 150])).run Tryz.prog w = .ok (some (164, a, 150)) w := by kernel_rfl
theorem AsT.isNil27 (a p : Addr) (W : World) (ha : W.cell? a = some (.pointer (some p))) :
    (ReflectliteValue.method (ReflectliteValue.valueError "reflectlite.Value.IsNil" 0) ReflectliteValue.isNil #[.agg #[.pointer (some ⟨2, 164, none⟩), .pointer (some a), .int .u64 150]]).run Tryz.prog W = .ok (.bool false) W := by
  rw [rlm]
  simp only [Sem.run_bind, AsT.parts27, Result.andThen]
  simp [ReflectliteValue.isNil, loadVar, isAgg, underlying, Tryz.underlying164, ha, Result.andThen]

theorem AsT.methodElem (h : Value) (w : World) : (Go.method 428 253 (.agg #[h]) "Elem").run Tryz.prog w = .ok (246, .agg #[h]) w := by kernel_rfl
theorem AsT.methodImplements (h : Value) (w : World) : (Go.method 428 253 (.agg #[h]) "Implements").run Tryz.prog w = .ok (247, .agg #[h]) w := by kernel_rfl
theorem AsT.methodAssignableTo (h : Value) (w : World) : (Go.method 428 253 (.agg #[h]) "AssignableTo").run Tryz.prog w = .ok (244, .agg #[h]) w := by kernel_rfl
theorem AsT.elem27 (w : World) : (ReflectliteType.method ReflectliteType.elem #[.agg #[.pointer (some ⟨2, 164, none⟩)]]).run Tryz.prog w = .ok (.iface 253 (.agg #[.pointer (some ⟨2, 118, none⟩)])) w := by kernel_rfl
theorem AsT.implements25 (w : World) : (ReflectliteType.relation "Implements" ReflectliteType.implements_ #[.agg #[.pointer (some ⟨2, 118, none⟩)], .iface 253 (.agg #[.pointer (some ⟨2, 114, none⟩)])]).run Tryz.prog w = .ok (.bool true) w := by kernel_rfl
theorem AsT.typeOf25 (v : Value) (w : World) : (ReflectliteType.typeOf #[.iface 118 v]).run Tryz.prog w = .ok (.iface 253 (.agg #[.pointer (some ⟨2, 118, none⟩)])) w := by kernel_rfl
theorem AsT.assignable25 (w : World) : (ReflectliteType.relation "AssignableTo" ReflectliteType.assignableTo #[.agg #[.pointer (some ⟨2, 118, none⟩)], .iface 253 (.agg #[.pointer (some ⟨2, 118, none⟩)])]).run Tryz.prog w = .ok (.bool true) w := by kernel_rfl
theorem AsT.valueOf25 (e : Addr) (w : World) : (ReflectliteValue.unpack (.iface 118 (.pointer (some e)))).run Tryz.prog w
    = .ok (.agg #[.pointer (some ⟨2, 118, none⟩), .pointer (some ⟨w.heap.size, 0, none⟩), .int .u64 150]) (w.alloc (.cells #[.pointer (some e)] 118)) := by kernel_rfl

theorem AsT.elemOf27 (w : World) : (Rtype.elem? 164).run Tryz.prog w = .ok (some 118) w := by kernel_rfl
theorem AsT.mk25 (p : Addr) (w : World) : (ReflectliteValue.mk 118 p ReflectliteValue.flagAddr).run Tryz.prog w = .ok (.agg #[.pointer (some ⟨2, 118, none⟩), .pointer (some p), .int .u64 406]) w := by kernel_rfl
theorem AsT.elemV27 (a p : Addr) (W : World) (ha : W.cell? a = some (.pointer (some p))) :
    (ReflectliteValue.method (ReflectliteValue.valueError "reflectlite.Value.Elem" 0) ReflectliteValue.elem #[.agg #[.pointer (some ⟨2, 164, none⟩), .pointer (some a), .int .u64 150]]).run Tryz.prog W
      = .ok (.agg #[.pointer (some ⟨2, 118, none⟩), .pointer (some p), .int .u64 406]) W := by
  rw [rlm]
  simp only [Sem.run_bind, AsT.parts27, Result.andThen]
  simp [ReflectliteValue.elem, loadVar, isAgg, underlying, Tryz.underlying164, ha, Result.andThen, AsT.elemOf27, AsT.mk25]
theorem AsT.parts25a (a : Addr) (w : World) : (ReflectliteValue.parts (.agg #[.pointer (some ⟨2, 118, none⟩), .pointer (some a), .int .u64 406])).run Tryz.prog w = .ok (some (118, a, 406)) w := by kernel_rfl
theorem AsT.parts25 (a : Addr) (w : World) : (ReflectliteValue.parts (.agg #[.pointer (some ⟨2, 118, none⟩), .pointer (some a), .int .u64 150])).run Tryz.prog w = .ok (some (118, a, 150)) w := by kernel_rfl
theorem AsT.direct25 (w : World) : (Rtype.directlyAssignable 118 118).run Tryz.prog w = .ok true w := by kernel_rfl
theorem AsT.size25 (w : World) : (sizeOf 118).run Tryz.prog w = .ok 1 w := by kernel_rfl
theorem AsT.set25 (ta b e : Addr) (old : Value) (W : World) (hb : W.cell? b = some (.pointer (some e))) (ht : W.cell? ta = some old) (hf : W.frozen? ta = false) :
    (ReflectliteValue.set #[.agg #[.pointer (some ⟨2, 118, none⟩), .pointer (some ta), .int .u64 406], .agg #[.pointer (some ⟨2, 118, none⟩), .pointer (some b), .int .u64 150]]).run Tryz.prog W
      = .ok (.tuple #[]) (W.setCell ta (.pointer (some e))) := by
  rw [rls]
  simp only [Sem.run_bind, AsT.parts25a, AsT.parts25, Result.andThen]
  simp [ReflectliteValue.flagAddr, loadVar, isAgg, underlying, Tryz.underlying118, hb, Result.andThen, AsT.direct25, storeVar, Value.cells, storeCells, Addr.add]
  rw [run_store Tryz.prog W ta _ _ (by rfl)]
  simp [ht, hf]

set_option maxHeartbeats 4000000 in
theorem as_hitT (e t : Addr) (old : Value) (w : World) (hg : w.cell? ⟨0, 0, none⟩ = some (.iface 253 (.agg #[.pointer (some ⟨2, 114, none⟩)]))) (ht0 : w.cell? t = some old) (hf0 : w.frozen? t = false) :
    Calls Tryz.prog 102 #[.iface 118 (.pointer (some e)), .iface 164 (.pointer (some t))] w fun ev w' => ev = .returned (.bool true) ∧ w' = ((((w.alloc (.cells #[.pointer (some t)] 164)).alloc (.cells #[.pointer (some ⟨2, 164, none⟩), .pointer (some ⟨w.heap.size, 0, none⟩), .int .u64 150] 207)).alloc (.cells #[.pointer (some ⟨2, 164, none⟩), .pointer (some ⟨w.heap.size, 0, none⟩), .int .u64 150] 207)).alloc (.cells #[.pointer (some e)] 118)).setCell t (.pointer (some e)) := by
  have h6 := @run_callFunc_extern Tryz.prog 136 _ (fun args => ReflectliteValue.unpack (args.getD 0 (.tuple #[]))) Tryz.func136 (by kernel_rfl) (by kernel_rfl) (by kernel_rfl) (by kernel_rfl)
  have h7 := @run_callFunc_extern Tryz.prog 137 _ (ReflectliteValue.methodAny (ReflectliteValue.valueError "reflectlite.Value.Type" 0) (fun t _ _ _ => ReflectliteType.toType t)) Tryz.func137 (by kernel_rfl) (by kernel_rfl) (by kernel_rfl) (by kernel_rfl)
  have h8 := @run_callFunc_extern Tryz.prog 138 _ (ReflectliteValue.method (ReflectliteValue.valueError "reflectlite.Value.IsNil" 0) ReflectliteValue.isNil) Tryz.func138 (by kernel_rfl) (by kernel_rfl) (by kernel_rfl) (by kernel_rfl)
  have h27 := @run_callFunc_extern Tryz.prog 225 _ (ReflectliteType.abiMethod fun t => do pure (.int .u8 (← Rtype.kind t))) Tryz.func225 (by kernel_rfl) (by kernel_rfl) (by kernel_rfl) (by kernel_rfl)
  have h37 := @run_callFunc_extern Tryz.prog 246 _ (ReflectliteType.method ReflectliteType.elem) Tryz.func246 (by kernel_rfl) (by kernel_rfl) (by kernel_rfl) (by kernel_rfl)
  have h38 := @run_callFunc_extern Tryz.prog 247 _ (ReflectliteType.relation "Implements" ReflectliteType.implements_) Tryz.func247 (by kernel_rfl) (by kernel_rfl) (by kernel_rfl) (by kernel_rfl)
  have h10 := @run_callFunc_extern Tryz.prog 174 _ ReflectliteType.typeOf Tryz.func174 (by kernel_rfl) (by kernel_rfl) (by kernel_rfl) (by kernel_rfl)
  have h35 := @run_callFunc_extern Tryz.prog 244 _ (ReflectliteType.relation "AssignableTo" ReflectliteType.assignableTo) Tryz.func244 (by kernel_rfl) (by kernel_rfl) (by kernel_rfl) (by kernel_rfl)
  have h11 := @run_callFunc_extern Tryz.prog 175 _ (ReflectliteValue.method (ReflectliteValue.valueError "reflectlite.Value.Elem" 0) ReflectliteValue.elem) Tryz.func175 (by kernel_rfl) (by kernel_rfl) (by kernel_rfl) (by kernel_rfl)
  have h12 := @run_callFunc_extern Tryz.prog 176 _ ReflectliteValue.set Tryz.func176 (by kernel_rfl) (by kernel_rfl) (by kernel_rfl) (by kernel_rfl)
  have tO := AsT.typeOf25
  have mA := AsT.methodAssignableTo
  have a25 := AsT.assignable25
  have v25 := AsT.valueOf25
  have f6 := AsT.valueOf27
  have f7 := AsT.type27
  have mK := AsT.methodKind
  have mE := AsT.methodElem
  have mI := AsT.methodImplements
  have k27 := AsT.kind27
  have k25 := AsT.kind25
  have e27 := AsT.elem27
  have i25 := AsT.implements25
  have n8 := AsT.isNil27 ⟨w.heap.size, 0, none⟩ t ((w.alloc (.cells #[.pointer (some t)] 164)).alloc (.cells #[.pointer (some ⟨2, 164, none⟩), .pointer (some ⟨w.heap.size, 0, none⟩), .int .u64 150] 207)) (by simp)
  have hlt : 0 < w.heap.size := by
    rcases Nat.eq_zero_or_pos w.heap.size with h0 | h
    · simp [World.cell?, h0] at hg
    · exact h
  have hg2 : ((w.alloc (.cells #[.pointer (some t)] 164)).alloc (.cells #[.pointer (some ⟨2, 164, none⟩), .pointer (some ⟨w.heap.size, 0, none⟩), .int .u64 150] 207)).cell? ⟨0, 0, none⟩ = some (.iface 253 (.agg #[.pointer (some ⟨2, 114, none⟩)])) := by
    rw [World.cell?_alloc_lt _ _ ⟨0, 0, none⟩ (by simp), World.cell?_alloc_lt _ _ ⟨0, 0, none⟩ hlt]; exact hg
  have htl : t.block < w.heap.size := by
    rcases Nat.lt_or_ge t.block w.heap.size with h | h
    · exact h
    · simp [World.cell?, Array.getElem?_eq_none h] at ht0
  have el := AsT.elemV27 ⟨w.heap.size, 0, none⟩ t (((w.alloc (.cells #[.pointer (some t)] 164)).alloc (.cells #[.pointer (some ⟨2, 164, none⟩), .pointer (some ⟨w.heap.size, 0, none⟩), .int .u64 150] 207)).alloc (.cells #[.pointer (some ⟨2, 164, none⟩), .pointer (some ⟨w.heap.size, 0, none⟩), .int .u64 150] 207)) (by rw [World.cell?_alloc_lt _ _ ⟨w.heap.size, 0, none⟩ (by simp; omega)]; simp)
  have st := AsT.set25 t ⟨w.heap.size + 1 + 1 + 1, 0, none⟩ e old ((((w.alloc (.cells #[.pointer (some t)] 164)).alloc (.cells #[.pointer (some ⟨2, 164, none⟩), .pointer (some ⟨w.heap.size, 0, none⟩), .int .u64 150] 207)).alloc (.cells #[.pointer (some ⟨2, 164, none⟩), .pointer (some ⟨w.heap.size, 0, none⟩), .int .u64 150] 207)).alloc (.cells #[.pointer (some e)] 118))
    (by rw [World.cell?_alloc_at _ _ _ _ (by simp)]; rfl)
    (by rw [World.cell?_alloc_lt _ _ t (by simp; omega), World.cell?_alloc_lt _ _ t (by simp; omega), World.cell?_alloc_lt _ _ t (by simp; omega), World.cell?_alloc_lt _ _ t htl]; exact ht0)
    (by rw [World.frozen?_alloc_old _ _ t (by simp; omega), World.frozen?_alloc_old _ _ t (by simp; omega), World.frozen?_alloc_old _ _ t (by simp; omega), World.frozen?_alloc_old _ _ t (Nat.ne_of_lt htl)]; exact hf0)
  go_enter Tryz.func102, Tryz.ntmps102
  go_wp2
  refine wp_loop_rounds 1 ?_
  rw [rounds_succ]
  go_wp2
  go_ret
  exact ⟨rfl, rfl⟩

theorem zero_faultT : (Tryz.prog.info? 118).bind (·.zero) = some (.pointer none) := by kernel_rfl

theorem code_nilT (w : World) : Calls Tryz.prog 62 #[.nilIface] w fun e w' => e = .returned (.int .i64 0) ∧ Below w.heap.size w w' := by
  have H := St.nil NoBlk NoBlk w
  go_enter Tryz.func62, Tryz.ntmps62
  go_wp2_with (first
    | (refine wpList_alloc_st H rfl 118 rfl _ zero_faultT ?_; clear H; intro W gf H)
    | (go_at_call 102; (with_reducible refine (as_nil _ _).mono ?_); rintro e W' ⟨rfl, rfl⟩))
  go_ret
  exact ⟨rfl, H.fix.below⟩

def faultVT (g : Nat) : Value := .iface 118 (.pointer (some ⟨g, 0, none⟩))
def faultOT (c : Int) (inner : Value) : Obj := .cells #[.int .i64 c, inner] 120 (0, 0)

theorem zero_faultST : (Tryz.prog.info? 120).bind (·.zero) = some (.agg #[.int .i64 0, .nilIface]) := by kernel_rfl

/-- errors.As of a fault, into a variable of ours. -/
theorem as_faultT {M0 R0 : Nat → Prop} {w0 W : World} {L : List Asrt} (H : St M0 R0 w0 W L) (i : Nat) {gt : Nat} {old : Value} (hi : L[i]? = some (blk gt (.cells #[old] 118 (0, 0)))) (hg : errA.prop W) (ge : Nat) :
    Calls Tryz.prog 102 #[faultVT ge, .iface 164 (.pointer (some ⟨gt, 0, none⟩))] W fun ev w' => ev = .returned (.bool true) ∧ St M0 R0 w0 w' (L.set i (blk gt (.cells #[.pointer (some ⟨ge, 0, none⟩)] 118 (0, 0)))) := by
  have hb : W.heap[gt]? = some (.cells #[old] 118 (0, 0)) := H.at i hi
  have hc : W.cell? ⟨gt, 0, none⟩ = some old := by rw [cell_of_row W gt 0 _ _ _ hb]; rfl
  have hf : W.frozen? ⟨gt, 0, none⟩ = false := frozen_of_row W gt 0 _ _ hb
  refine (as_hitT ⟨ge, 0, none⟩ ⟨gt, 0, none⟩ old W hg.2 hc hf).mono ?_
  rintro ev w' ⟨rfl, rfl⟩
  refine ⟨rfl, ?_⟩
  have H1 := (((H.stay (Fix.alloc NoBlk _ (.cells #[.pointer (some ⟨gt, 0, none⟩)] 164))).stay (Fix.alloc NoBlk _ (.cells #[.pointer (some ⟨2, 164, none⟩), .pointer (some ⟨W.heap.size, 0, none⟩), .int .u64 150] 207))).stay (Fix.alloc NoBlk _ (.cells #[.pointer (some ⟨2, 164, none⟩), .pointer (some ⟨W.heap.size, 0, none⟩), .int .u64 150] 207))).stay (Fix.alloc NoBlk _ (.cells #[.pointer (some ⟨ge, 0, none⟩)] 118))
  exact H1.setCell i hi 0 _

theorem code_faultT (ge : Nat) (c : Int) (inner : Value) (w : World) (hg : errA.prop w) (he : w.heap[ge]? = some (faultOT c inner)) :
    Calls Tryz.prog 62 #[faultVT ge] w fun e w' => e = .returned (.int .i64 c) ∧ Below w.heap.size w w' := by
  have H : St NoBlk (fun _ => True) w w [errA, imm ge (faultOT c inner)] := St.reads_only [errA, imm ge (faultOT c inner)] (by
    intro B hB
    simp only [List.mem_cons, List.not_mem_nil, or_false] at hB
    rcases hB with rfl | rfl
    · exact ⟨hg, fun _ h => h⟩
    · exact ⟨he, fun _ h => h⟩)
  clear hg he
  unfold faultVT
  go_enter Tryz.func62, Tryz.ntmps62
  go_wp2_with (first
    | (refine wpList_alloc_st H rfl 118 rfl _ zero_faultT ?_; clear H; intro W gf H; simp only [List.cons_append, List.nil_append] at H)
    | (go_at_call 102; go_loud ((refine (as_faultT H 2 rfl (H.at 0 rfl) ge).mono ?_); rintro e W' ⟨rfl, H1⟩; clear H; have H := H1; clear H1; simp only [List.set_cons_zero, List.set_cons_succ] at H))
    | (refine wpList_load1_st rfl 118 _ rfl _ _ rfl _ _ _ (H.at 2 rfl) _ Tryz.underlying118 rfl _ rfl ?_)
    | (refine wpList_load1_st rfl 31 _ rfl _ _ rfl _ _ _ (H.at 1 rfl : _ = some (faultOT c inner)) _ Tryz.underlying31 rfl _ rfl ?_))
  go_ret
  exact ⟨rfl, H.fix.below⟩

end Go.Proofs.YtlgciddnpinpbaaGreatDoor

namespace Go.Proofs.YtlgciddnpinpbaaGreatDoor
open Go.RowKit
set_option linter.unusedSimpArgs false
set_option linter.unusedVariables false
set_option maxRecDepth 4000

theorem St.err {w : World} (hg : errA.prop w) : St NoBlk (fun _ => True) w w [errA] :=
  St.reads_only [errA] (by
    intro B hB
    obtain rfl := List.mem_singleton.1 hB
    exact ⟨hg, fun _ h => h⟩)

/-- An assertion that reads what another one reads. -/
theorem St.share {M0 R0 : Nat → Prop} {w0 W : World} {L : List Asrt} (H : St M0 R0 w0 W L) (i : Nat) {B : Asrt} (hi : L[i]? = some B) (hB : ∀ k, ¬ B.own k) (A : Asrt) (hp : A.prop W) (ho : ∀ k, ¬ A.own k) (hr : ∀ k, A.rd k → B.rd k) : St M0 R0 w0 W (L ++ [A]) :=
  H.add (Fix.refl _ _) A hp (fun k hk => (ho k hk).elim) (fun k hk => .inr ⟨H.reads i B hi k (hr k hk), fun C hC => by
    obtain ⟨j, hj⟩ := List.getElem?_of_mem hC
    by_cases e : j = i
    · subst e; rw [hi] at hj; cases hj; exact hB k
    · exact fun hc => (H.apart j i C B hj hi e).2.1 k hc (hr k hk)⟩)

/-- A map of slices, by the plain words of a log that has it. -/
def mLS (f : Nat → Option (List UInt8)) : LS := { lives := 0, s := 0, turn := 0, place := 0, ring := 0, free := 0, m := f }
def keysOf (f : Nat → Option (List UInt8)) (n : Nat) : List Nat := (List.range n).filter fun k => (f k).isSome
theorem keysOf_len (f : Nat → Option (List UInt8)) (n : Nat) : (keysOf f n).length ≤ n := keys_len (mLS f) n
theorem mem_keysOf {f : Nat → Option (List UInt8)} {n k : Nat} : k ∈ keysOf f n ↔ k < n ∧ (f k).isSome = true := by
  unfold keysOf
  rw [List.mem_filter, List.mem_range]

theorem MapIs.keysP {W : World} {rd : Nat → Prop} {M : DataW Value} {f : Nat → Option (List UInt8)} {b : Nat} (h : MapIs W rd M f b 248) {gm n : Nat}
    (hm : W.ownsMap Tryz.prog 3 RV gm n M) {ss : List Int} (hs : ss.Perm (intKeys M)) : ss.mergeSort (fun x y => decide (x ≤ y)) = (keysOf f b).map fun k : Nat => (k : Int) :=
  MapIs.keys_perm (X := mLS f) h hm hs

theorem intKeys_len {M : DataW Value} {W : World} {gm n : Nat} (hm : W.ownsMap Tryz.prog 3 RV gm n M) : (intKeys M).length = Go.Maps.size M := by
  obtain ⟨es, rfl, _⟩ := hm.tidy keyedInt
  obtain ⟨es', hD', hko⟩ := hm.keysOf
  obtain rfl : es = es' := by simpa using hD'
  simp [intKeys, Go.Maps.size]

theorem MapIs.size_keys {W : World} {rd : Nat → Prop} {M : DataW Value} {f : Nat → Option (List UInt8)} {b : Nat} (h : MapIs W rd M f b 248) {gm n : Nat}
    (hm : W.ownsMap Tryz.prog 3 RV gm n M) : Go.Maps.size M = (keysOf f b).length := by
  have h1 := h.keysP hm (ss := intKeys M) (List.Perm.refl _)
  have h2 := congrArg List.length h1
  rw [List.length_mergeSort, List.length_map, intKeys_len hm] at h2
  exact h2

theorem keyZ_is (z : Int) (h1 : -9223372036854775808 ≤ z) (h2 : z ≤ 9223372036854775807) : keyOf Tryz.prog 3 (.int .i64 z) = some (.int .i64 z) := by
  refine Go.Maps.keyOf_int_mk Tryz.underlying3 ?_
  simp only [Lit.wf, IntKind.min, IntKind.max, IntKind.signed, IntKind.bits, Bool.and_eq_true, decide_eq_true_eq]
  refine ⟨?_, ?_⟩ <;> simp <;> omega

/-- A number that is no home is no key. -/
theorem MapIs.look_off {W : World} {rd : Nat → Prop} {M : DataW Value} {f : Nat → Option (List UInt8)} {b len : Nat} (h : MapIs W rd M f b len) {gm n : Nat}
    (hm : W.ownsMap Tryz.prog 3 RV gm n M) (z : Int) (hz : z < 0 ∨ (b : Int) ≤ z) (h1 : -9223372036854775808 ≤ z) (h2 : z ≤ 9223372036854775807) :
    (Instr.lookup 110 (.map (some gm)) (.int .i64 z) true).run Tryz.prog W = .ok (.tuple #[.slice none 0 0, .bool false]) W := by
  have hno : Go.Maps.has M (.int .i64 z) = false := by
    cases hh : Go.Maps.has M (.int .i64 z) with
    | false => rfl
    | true =>
      obtain ⟨k, hk, e⟩ := h.keys _ hh
      simp only [keyI, Lit.int.injEq, true_and] at e
      omega
  obtain ⟨v, ps, hrun, hv⟩ := hm.look_ok keyedInt Tryz.underlying110 (zero_bytes W) (zd := .held (.slice none 0 0)) (zp := []) rfl (keyZ_is z h1 h2)
  rw [Go.Maps.atKey_of_not_has hno] at hv
  simp [RV] at hv
  rw [hrun, hv.1, hno]

/-- A transaction in memory: all that its assertions name. -/
structure TxT where
  gl : Nat
  gm : Nat
  M : DataW Value
  rm : Nat → Prop
  f : Nat → Option (List UInt8)
  over : Bool
  n : Nat

def tRow (lv mv : Value) (over : Bool) : List Value := [lv, mv, .bool over]
theorem tRow0 (a b : Value) (c : Bool) : (tRow a b c).toArray[0]? = some a := rfl
theorem tRow1 (a b : Value) (c : Bool) : (tRow a b c).toArray[1]? = some b := rfl
theorem tRow2 (a b : Value) (c : Bool) : (tRow a b c).toArray[2]? = some (.bool c) := rfl
theorem tSet2 (a b : Value) (c d : Bool) : (tRow a b c).toArray.setIfInBounds 2 (.bool d) = (tRow a b d).toArray := rfl

def TxT.L (x : TxT) (g : Nat) : List Asrt :=
  [blk g (.cells (tRow (.pointer (some ⟨x.gl, 0, none⟩)) (.map (some x.gm)) x.over).toArray 112 (0, 0)), mapA x.gm (Go.Maps.size x.M) x.M, mapIsA x.rm x.M x.f x.n 248]

/-- What a transaction reads. -/
def TxT.view (x : TxT) (t : LogT) (k : Nat) : List UInt8 := (x.f k).getD (t.hom k)

/-- The puts of what it wrote. -/
structure PutsOf (ps : List PutS) (f : Nat → Option (List UInt8)) (ks : List Nat) : Prop where
  home : ps.map PutS.home = ks
  bs : ∀ x ∈ ps, f x.home = some x.bs

theorem PutsOf.len {ps : List PutS} {f : Nat → Option (List UInt8)} {ks : List Nat} (h : PutsOf ps f ks) : ps.length = ks.length := by have := congrArg List.length h.home; simpa using this
theorem PutsOf.nil (f : Nat → Option (List UInt8)) : PutsOf [] f [] := ⟨rfl, fun x hx => (List.not_mem_nil hx).elim⟩
theorem PutsOf.snoc {ps : List PutS} {f : Nat → Option (List UInt8)} {ks : List Nat} (h : PutsOf ps f ks) (k : Nat) (v : Value) {l : List UInt8} (hl : f k = some l) : PutsOf (ps ++ [⟨k, v, l⟩]) f (ks ++ [k]) := by
  refine ⟨by rw [List.map_append, h.home]; rfl, fun x hx => ?_⟩
  rcases List.mem_append.1 hx with hx | hx
  · exact h.bs x hx
  · obtain rfl := List.mem_singleton.1 hx; exact hl

theorem PutsOf.good {ps : List PutS} {f : Nat → Option (List UInt8)} {n : Nat} (h : PutsOf ps f (keysOf f n)) (hf : ∀ k l, f k = some l → l.length = 248) : GoodP ps n := by
  refine ⟨fun x hx => ?_, fun x hx => hf _ _ (h.bs x hx), by rw [h.home]; exact List.nodup_range.sublist List.filter_sublist⟩
  have : x.home ∈ ps.map PutS.home := List.mem_map.2 ⟨x, hx, rfl⟩
  rw [h.home] at this
  exact (mem_keysOf.1 this).1

theorem putH_at : ∀ (ps : List PutS) (h : Nat → List UInt8) (f : Nat → Option (List UInt8)) (k : Nat), (∀ x ∈ ps, f x.home = some x.bs) → (f k = none → k ∉ ps.map PutS.home) → (∀ l, f k = some l → k ∈ ps.map PutS.home ∨ h k = l) → putH h ps k = (f k).getD (h k)
  | [], h, f, k, _, _, h3 => by
    cases hk : f k with
    | none => rfl
    | some l => rcases h3 l hk with h4 | h4; exact (List.not_mem_nil h4).elim; rw [putH, h4]; rfl
  | x :: ps, h, f, k, h1, h2, h3 => by
    rw [putH]
    have key := putH_at ps (fun j => if j = x.home then x.bs else h j) f k (fun y hy => h1 y (List.mem_cons_of_mem _ hy)) (fun e hm => h2 e (by rw [List.map_cons]; exact List.mem_cons_of_mem _ hm)) (fun l hl => by
      rcases h3 l hl with h4 | h4
      · rw [List.map_cons] at h4
        rcases List.mem_cons.1 h4 with h5 | h5
        · right
          show (if k = x.home then x.bs else h k) = l
          rw [if_pos h5]
          have := h1 x (List.mem_cons_self ..)
          rw [← h5, hl] at this
          exact (Option.some.inj this).symm
        · exact .inl h5
      · by_cases e : k = x.home
        · right
          show (if k = x.home then x.bs else h k) = l
          rw [if_pos e]
          have := h1 x (List.mem_cons_self ..)
          rw [← e, hl] at this
          exact (Option.some.inj this).symm
        · right
          show (if k = x.home then x.bs else h k) = l
          rw [if_neg e]; exact h4)
    rw [key]
    cases hk : f k with
    | some l => rfl
    | none =>
      have hne : ¬ k = x.home := fun e => h2 hk (by rw [List.map_cons, e]; exact List.mem_cons_self ..)
      show (if k = x.home then x.bs else h k) = h k
      rw [if_neg hne]

/-- What the homes are behind a transaction's puts. -/
theorem putH_keys {ps : List PutS} {f : Nat → Option (List UInt8)} {n : Nat} (h : PutsOf ps f (keysOf f n)) (hm : Nat → List UInt8) (k : Nat) (hk : k < n) : putH hm ps k = (f k).getD (hm k) := by
  refine putH_at ps hm f k h.bs (fun e hmem => ?_) (fun l hl => .inl ?_)
  · rw [h.home] at hmem
    have := (mem_keysOf.1 hmem).2
    rw [e] at this; cases this
  · rw [h.home]
    exact mem_keysOf.2 ⟨hk, by rw [hl]; rfl⟩

end Go.Proofs.YtlgciddnpinpbaaGreatDoor

namespace Go.Proofs.YtlgciddnpinpbaaGreatDoor
open Go.RowKit
set_option linter.unusedSimpArgs false
set_option linter.unusedVariables false
set_option maxRecDepth 4000

theorem tmay_ok {w : World} {g : Nat} {t : LogT} {x : TxT} {c : Nat} (hb : Bundle w (t.L x.gl ++ x.L g)) (ht : t.Ok c) (ho : x.over = false) :
    Calls Tryz.prog 61 #[.pointer (some ⟨g, 0, none⟩)] w fun e w' => e = .returned .nilIface ∧ BunTo w (ownL (t.L x.gl ++ x.L g)) (rdL (t.L x.gl ++ x.L g)) (t.L x.gl ++ x.L g) w' := by
  have H := hb.open_
  have HO := Lib.hid ht
  obtain ⟨gl, gm, M, rm, f, over, n⟩ := x
  have ho' : over = false := ho
  subst ho'
  have hn0 : ((t.n : Int) == 0) = false := beq_eq_false_iff_ne.2 (by have := ht.fine.n1; omega)
  have hn1 : ¬ ((t.n : Int) = 0) := by have := ht.fine.n1; omega
  have hn2 : t.n ≠ 0 := by omega
  clear hb ht ho
  go_enter Tryz.func61, Tryz.ntmps61
  go_wp2_with (first
    | (refine wpList_load1_st rfl 25 _ rfl _ _ rfl _ _ _ (H.at 4 rfl) _ Tryz.underlying25 rfl _ (tRow0 _ _ _) ?_)
    | (refine wpList_load1_st rfl 4 _ rfl _ _ rfl _ _ _ (H.at 4 rfl) _ Tryz.underlying4 rfl _ (tRow2 _ _ _) ?_)
    | (go_at_call 23; go_loud ((refine (Homes_T (t := t) (H.take 4).bundle HO.out rfl).mono ?_); rintro e W ⟨rfl, hto⟩; replace H := hto.front (R := TxT.L ⟨gl, gm, M, rm, f, false, n⟩ g) H; clear hto)))
  go_ret
  exact ⟨rfl, H.bunTo⟩

/-- A fault, made. -/
theorem tmay_over {w : World} {g : Nat} {t : LogT} {x : TxT} {c : Nat} (hb : Bundle w (t.L x.gl ++ x.L g)) (ht : t.Ok c) (ho : x.over = true) :
    Calls Tryz.prog 61 #[.pointer (some ⟨g, 0, none⟩)] w fun e w' => ∃ ge, e = .returned (faultVT ge) ∧ w'.heap[ge]? = some (faultOT 15 .nilIface) ∧ BunTo w (ownL (t.L x.gl ++ x.L g)) (rdL (t.L x.gl ++ x.L g)) (t.L x.gl ++ x.L g) w' := by
  have H := hb.open_
  have HO := Lib.hid ht
  obtain ⟨gl, gm, M, rm, f, over, n⟩ := x
  have ho' : over = true := ho
  subst ho'
  have hn0 : ((t.n : Int) == 0) = false := beq_eq_false_iff_ne.2 (by have := ht.fine.n1; omega)
  have hn1 : ¬ ((t.n : Int) = 0) := by have := ht.fine.n1; omega
  have hn2 : t.n ≠ 0 := by omega
  clear hb ht ho
  go_enter Tryz.func61, Tryz.ntmps61
  go_wp2_with (first
    | (refine wpList_load1_st rfl 25 _ rfl _ _ rfl _ _ _ (H.at 4 rfl) _ Tryz.underlying25 rfl _ (tRow0 _ _ _) ?_)
    | (refine wpList_load1_st rfl 4 _ rfl _ _ rfl _ _ _ (H.at 4 rfl) _ Tryz.underlying4 rfl _ (tRow2 _ _ _) ?_)
    | (go_at_call 23; go_loud ((refine (Homes_T (t := t) (H.take 4).bundle HO.out rfl).mono ?_); rintro e W ⟨rfl, hto⟩; replace H := hto.front (R := TxT.L ⟨gl, gm, M, rm, f, true, n⟩ g) H; clear hto))
    | (refine wpList_alloc_st H rfl 120 rfl _ zero_faultST ?_; clear H; intro W ge H)
    | (refine wpList_store1_st H 7 rfl 31 _ _ rfl _ _ (.int .i64 15) rfl rfl rfl _ _ rfl rfl (by simp [Value.cells]) ?_; clear H; intro W H)
    | (refine wpList_box_st H rfl 120 _ rfl (.agg #[.int .i64 15, .nilIface]) rfl ?_; clear H; intro W ge H))
  go_ret
  exact ⟨ge, rfl, H.at 7 rfl, (H.take 7).bunTo⟩

theorem tmay_nil (w : World) : Calls Tryz.prog 61 #[.pointer none] w fun e w' => ∃ ge, e = .returned (faultVT ge) ∧ w'.heap[ge]? = some (faultOT 1 .nilIface) ∧ Below w.heap.size w w' := by
  have H := St.nil NoBlk NoBlk w
  go_enter Tryz.func61, Tryz.ntmps61
  go_wp2_with (first
    | (refine wpList_alloc_st H rfl 120 rfl _ zero_faultST ?_; clear H; intro W ge H)
    | (refine wpList_store1_st H 0 rfl 31 _ _ rfl _ _ (.int .i64 1) rfl rfl rfl _ _ rfl rfl (by simp [Value.cells]) ?_; clear H; intro W H)
    | (refine wpList_box_st H rfl 120 _ rfl (.agg #[.int .i64 1, .nilIface]) rfl ?_; clear H; intro W ge H))
  go_ret
  exact ⟨ge, rfl, H.at 0 rfl, H.fix.below⟩

theorem begin_calls {w : World} (v : Option Addr) :
    Calls Tryz.prog 16 #[.pointer v] w fun e w' => ∃ g gm, e = .returned (.pointer (some ⟨g, 0, none⟩)) ∧ w.heap.size ≤ g ∧ w.heap.size ≤ gm ∧ g ≠ gm ∧ Below w.heap.size w w' ∧
      w'.heap[g]? = some (.cells (tRow (.pointer v) (.map (some gm)) false).toArray 112 (0, 0)) ∧ (mapA gm 0 (.map [])).prop w' := by
  have H := St.nil NoBlk NoBlk w
  go_enter Tryz.func16, Tryz.ntmps16
  go_wp2_with (first
    | (refine wpList_makemap_st H rfl 110 rfl ?_; clear H; intro W gm H)
    | (refine wpList_box_st H rfl 112 _ rfl _ rfl ?_; clear H; intro W g H))
  go_ret
  refine ⟨g, gm, rfl, ?_, ?_, ?_, H.fix.below, H.at 1 rfl, H.at 0 rfl⟩
  · rcases H.mine 1 _ rfl g rfl with h | h; exact h; exact h.elim
  · rcases H.mine 0 _ rfl gm rfl with h | h; exact h; exact h.elim
  · exact fun e => (H.apart 1 0 _ _ rfl rfl (by decide)).1 g rfl e

/-- A transaction that is new, beside what there is. -/
def TxT.new (gl gm n : Nat) : TxT := ⟨gl, gm, .map [], NoBlk, fun _ => none, false, n⟩

theorem St.begun {M0 R0 : Nat → Prop} {w0 W W' : World} {L : List Asrt} (H : St M0 R0 w0 W L) {g gm gl : Nat} (n : Nat) (hb : Below W.heap.size W W') (h1 : W.heap.size ≤ g) (h2 : W.heap.size ≤ gm) (h3 : g ≠ gm)
    (hg : W'.heap[g]? = some (.cells (tRow (.pointer (some ⟨gl, 0, none⟩)) (.map (some gm)) false).toArray 112 (0, 0))) (hm : (mapA gm 0 (.map [])).prop W') : St M0 R0 w0 W' (L ++ (TxT.new gl gm n).L g) := by
  have hB : Bundle W' ((TxT.new gl gm n).L g) := by
    refine ⟨fun i A hi => ?_, fun i j A B hi hj hne => ?_⟩
    · rcases i with _ | _ | _ | i
      · cases hi; exact hg
      · cases hi; exact hm
      · cases hi; exact MapIs.empty W' n 248
      · simp [TxT.L] at hi
    · rcases i with _ | _ | _ | i
      · rcases j with _ | _ | _ | j
        · exact (hne rfl).elim
        · cases hi; cases hj; exact ⟨fun k hk hk2 => h3 (hk.symm.trans hk2), fun k _ hk2 => hk2.elim, fun k _ hk2 => hk2.elim⟩
        · cases hi; cases hj; exact ⟨fun k _ hk2 => hk2.elim, fun k _ hk2 => hk2.elim, fun k _ hk2 => hk2.elim⟩
        · simp [TxT.L] at hj
      · rcases j with _ | _ | _ | j
        · cases hi; cases hj; exact ⟨fun k hk hk2 => h3 (hk2.symm.trans hk), fun k _ hk2 => hk2.elim, fun k _ hk2 => hk2.elim⟩
        · exact (hne rfl).elim
        · cases hi; cases hj; exact ⟨fun k _ hk2 => hk2.elim, fun k _ hk2 => hk2.elim, fun k _ hk2 => hk2.elim⟩
        · simp [TxT.L] at hj
      · rcases j with _ | _ | _ | j
        · cases hi; cases hj; exact ⟨fun k hk => hk.elim, fun k hk => hk.elim, fun k _ hk2 => hk2.elim⟩
        · cases hi; cases hj; exact ⟨fun k hk => hk.elim, fun k hk => hk.elim, fun k _ hk2 => hk2.elim⟩
        · exact (hne rfl).elim
        · simp [TxT.L] at hj
      · simp [TxT.L] at hi
  have H1 := H.add (Fix.of_below hb NoBlk) (bun ((TxT.new gl gm n).L g)) hB (fun k ⟨A, hA, hk⟩ => by
    obtain ⟨i, hi⟩ := List.getElem?_of_mem hA
    rcases i with _ | _ | _ | i
    · cases hi; rw [show k = g from hk]; exact h1
    · cases hi; rw [show k = gm from hk]; exact h2
    · cases hi; exact hk.elim
    · simp [TxT.L] at hi) (fun k ⟨A, hA, hk⟩ => by
    obtain ⟨i, hi⟩ := List.getElem?_of_mem hA
    rcases i with _ | _ | _ | i
    · cases hi; exact hk.elim
    · cases hi; exact hk.elim
    · cases hi; exact hk.elim
    · simp [TxT.L] at hi)
  exact H1.unbun

theorem thomes_calls {w : World} {g : Nat} {t : LogT} {x : TxT} {c : Nat} (hb : Bundle w (t.L x.gl ++ x.L g)) (ht : t.Ok c) {z : Int} (hz : (t.n : Int) = z) :
    Calls Tryz.prog 27 #[.pointer (some ⟨g, 0, none⟩)] w fun e w' => e = .returned (.int .i64 z) ∧ BunTo w (ownL (t.L x.gl ++ x.L g)) (rdL (t.L x.gl ++ x.L g)) (t.L x.gl ++ x.L g) w' := by
  have H := hb.open_
  have HO := Lib.hid ht
  have HZ := Lib.hid hz
  obtain ⟨gl, gm, M, rm, f, over, n⟩ := x
  clear hb ht hz
  go_enter Tryz.func27, Tryz.ntmps27
  go_wp2_with (first
    | (refine wpList_load1_st rfl 25 _ rfl _ _ rfl _ _ _ (H.at 4 rfl) _ Tryz.underlying25 rfl _ (tRow0 _ _ _) ?_)
    | (go_at_call 23; go_loud ((refine (Homes_T (t := t) (H.take 4).bundle HO.out HZ.out).mono ?_); rintro e W ⟨rfl, hto⟩; replace H := hto.front (R := TxT.L ⟨gl, gm, M, rm, f, over, n⟩ g) H; clear hto)))
  go_ret
  exact ⟨rfl, H.bunTo⟩

set_option maxHeartbeats 1000000 in
/-- Read, of a home that is there. -/
theorem tread_in {w : World} {g : Nat} {t : LogT} {x : TxT} {c : Nat} (hb : Bundle w (t.L x.gl ++ x.L g)) (ht : t.Ok c) (ho : x.over = false) (hn : x.n = t.n) (z : Int) (k : Nat) (hz : (k : Int) = z) (hk : k < t.n) :
    Calls Tryz.prog 19 #[.pointer (some ⟨g, 0, none⟩), .int .i64 z] w fun e w' => ∃ gc off cap, e = .returned (.tuple #[.slice (some ⟨gc, off, none⟩) 248 cap, .int .i64 0]) ∧ (x.view t k).length = 248 ∧ 248 ≤ cap ∧ w.heap.size ≤ gc ∧
      BunTo w (ownL (t.L x.gl ++ x.L g)) (rdL (t.L x.gl ++ x.L g)) ((t.L x.gl ++ x.L g) ++ [ownB gc off (x.view t k)]) w' := by
  subst hz
  have HMAY := Lib.hid (tmay_ok hb ht ho)
  have H := hb.open_
  have HO := Lib.hid ht
  have HK := Lib.hid hk
  have HN9 := Lib.hid ht.nn
  obtain ⟨gl, gm, M, rm, f, over, n⟩ := x
  have ho' : over = false := ho
  subst ho'
  have hn' : n = t.n := hn
  subst hn'
  clear hb ht ho hk hn
  unfold TxT.view
  dsimp only
  cases hf : f k with
  | some l =>
    have HF := Lib.hid hf
    clear hf
    simp only [Option.getD_some]
    go_enter Tryz.func19, Tryz.ntmps19
    go_wp2_with (first
      | (go_at_call 61; go_loud ((refine HMAY.out.mono ?_); rintro e W ⟨rfl, hto⟩; clear H; have H := hto.st; clear hto))
      | (refine wpList_load1_st rfl 110 _ rfl _ _ rfl _ _ _ (H.at 4 rfl) _ Tryz.underlying110 rfl _ (tRow1 _ _ _) ?_)
      | go_loud (obtain ⟨gv, offv, capv, hrun, hcv, hl, hbv, hlt⟩ := (H.at 6 rfl : MapIs _ rm M f t.n 248).look248 (H.at 5 rfl : World.ownsMap _ Tryz.prog 3 RV gm (Go.Maps.size M) M) k (by have := HN9.out; have := HK.out; omega) HF.out; refine wpList_lookup_run rfl 110 _ _ _ rfl _ _ _ rfl rfl hrun ?_; clear hrun)
      | (go_at_call 63; go_loud ((refine (clone_n hbv hl (by omega) hlt).mono ?_); rintro e W2 ⟨gc, capc, junkc, rfl, hcc, hgc, hbc, hbl⟩)))
    refine bodyPost_ret (results_tmp2 rfl _ _ _) rfl ?_
    refine ⟨gc, 0, capc, rfl, hl, hcc, Nat.le_trans H.fix.size hgc, ?_⟩
    replace H := H.add (Fix.of_below hbl _) (ownB gc 0 l) (ownB_of_row hbc) (fun k hk => by rw [show k = gc from hk]; exact hgc) (fun k hk => hk.elim)
    exact H.bunTo
  | none =>
    have HF := Lib.hid hf
    clear hf
    simp only [Option.getD_none]
    go_enter Tryz.func19, Tryz.ntmps19
    go_wp2_with (first
      | (go_at_call 61; go_loud ((refine HMAY.out.mono ?_); rintro e W ⟨rfl, hto⟩; clear H; have H := hto.st; clear hto))
      | (refine wpList_load1_st rfl 110 _ rfl _ _ rfl _ _ _ (H.at 4 rfl) _ Tryz.underlying110 rfl _ (tRow1 _ _ _) ?_)
      | (refine wpList_load1_st rfl 25 _ rfl _ _ rfl _ _ _ (H.at 4 rfl) _ Tryz.underlying25 rfl _ (tRow0 _ _ _) ?_)
      | go_loud (refine wpList_lookup_run rfl 110 _ _ _ rfl _ _ _ rfl rfl ((H.at 6 rfl : MapIs _ rm M f t.n 248).look_no (H.at 5 rfl : World.ownsMap _ Tryz.prog 3 RV gm (Go.Maps.size M) M) k (by have := HN9.out; have := HK.out; omega) HF.out) ?_)
      | (go_at_call 22; go_loud ((refine (Read_in (t := t) (H.take 4).bundle HO.out _ k rfl HK.out).mono ?_); rintro e W2 ⟨gc, off, capc, rfl, hl, hcc, hgc, hto⟩; have hsz := H.fix.size; replace H := hto.front2 (R := TxT.L ⟨gl, gm, M, rm, f, false, t.n⟩ g) H; clear hto)))
    refine bodyPost_ret (results_tmp2 rfl _ _ _) rfl ?_
    exact ⟨gc, off, capc, rfl, hl, hcc, Nat.le_trans hsz hgc, H.bunTo⟩

end Go.Proofs.YtlgciddnpinpbaaGreatDoor

namespace Go.Proofs.YtlgciddnpinpbaaGreatDoor
open Go.RowKit
set_option linter.unusedSimpArgs false
set_option linter.unusedVariables false
set_option maxRecDepth 4000

set_option maxHeartbeats 1000000 in
theorem tread_out {w : World} {g : Nat} {t : LogT} {x : TxT} {c : Nat} (hb : Bundle w (t.L x.gl ++ x.L g)) (ht : t.Ok c) (ho : x.over = false) (hn : x.n = t.n) (z : Int) (hz : z < 0 ∨ (t.n : Int) ≤ z) (h1 : -9223372036854775808 ≤ z) (h2 : z ≤ 9223372036854775807) :
    Calls Tryz.prog 19 #[.pointer (some ⟨g, 0, none⟩), .int .i64 z] w fun e w' => e = .returned (.tuple #[.slice none 0 0, .int .i64 1]) ∧
      BunTo w (ownL (t.L x.gl ++ x.L g)) (rdL (t.L x.gl ++ x.L g)) (t.L x.gl ++ x.L g) w' := by
  have HMAY := Lib.hid (tmay_ok hb ht ho)
  have H := hb.open_
  have HO := Lib.hid ht
  obtain ⟨gl, gm, M, rm, f, over, n⟩ := x
  have ho' : over = false := ho
  subst ho'
  have hn' : n = t.n := hn
  subst hn'
  have HZ := Lib.hid hz
  have HZ1 := Lib.hid h1
  have HZ2 := Lib.hid h2
  clear hb ht ho hn hz h1 h2
  go_enter Tryz.func19, Tryz.ntmps19
  go_wp2_with (first
    | (go_at_call 61; go_loud ((refine HMAY.out.mono ?_); rintro e W ⟨rfl, hto⟩; clear H; have H := hto.st; clear hto))
    | (refine wpList_load1_st rfl 110 _ rfl _ _ rfl _ _ _ (H.at 4 rfl) _ Tryz.underlying110 rfl _ (tRow1 _ _ _) ?_)
    | (refine wpList_load1_st rfl 25 _ rfl _ _ rfl _ _ _ (H.at 4 rfl) _ Tryz.underlying25 rfl _ (tRow0 _ _ _) ?_)
    | go_loud (refine wpList_lookup_run rfl 110 _ _ _ rfl _ _ _ rfl rfl ((H.at 6 rfl : MapIs _ rm M f t.n 248).look_off (H.at 5 rfl : World.ownsMap _ Tryz.prog 3 RV gm (Go.Maps.size M) M) z HZ.out HZ1.out HZ2.out) ?_)
    | (go_at_call 22; go_loud ((refine (Read_out (t := t) (H.take 4).bundle HO.out _ HZ.out).mono ?_); rintro e W2 ⟨rfl, hto⟩; replace H := hto.front (R := TxT.L ⟨gl, gm, M, rm, f, false, t.n⟩ g) H; clear hto)))
  refine bodyPost_ret (results_tmp2 rfl _ _ _) rfl ?_
  exact ⟨rfl, H.bunTo⟩

set_option maxHeartbeats 1000000 in
theorem tread_over {w : World} {g : Nat} {t : LogT} {x : TxT} {c : Nat} (hb : Bundle w (t.L x.gl ++ x.L g ++ [errA])) (ht : t.Ok c) (ho : x.over = true) (z : Int) :
    Calls Tryz.prog 19 #[.pointer (some ⟨g, 0, none⟩), .int .i64 z] w fun e w' => e = .returned (.tuple #[.slice none 0 0, .int .i64 15]) ∧
      BunTo w (ownL (t.L x.gl ++ x.L g ++ [errA])) (rdL (t.L x.gl ++ x.L g ++ [errA])) (t.L x.gl ++ x.L g ++ [errA]) w' := by
  have H := hb.open_
  have HO := Lib.hid ht
  have HX := Lib.hid ho
  clear hb ht ho
  go_enter Tryz.func19, Tryz.ntmps19
  go_wp2_with (first
    | (go_at_call 61; go_loud ((refine (tmay_over (t := t) (x := x) (H.take 7).bundle HO.out HX.out).mono ?_); rintro e W ⟨ge, rfl, hgo, hto⟩; replace H := hto.front (R := [errA]) H; clear hto; unfold faultVT))
    | (go_at_call 62; go_loud ((refine (code_faultT ge 15 .nilIface _ (H.at 7 rfl) hgo).mono ?_); rintro e W2 ⟨rfl, hbl⟩; replace H := H.stay (Fix.of_below hbl _); clear hbl)))
  refine bodyPost_ret (results_tmp2 rfl _ _ _) rfl ?_
  exact ⟨rfl, H.bunTo⟩

theorem tread_nil (v : Int) (w : World) (hg : errA.prop w) : Calls Tryz.prog 19 #[.pointer none, .int .i64 v] w fun e w' => e = .returned (.tuple #[.slice none 0 0, .int .i64 1]) ∧ Below w.heap.size w w' := by
  have H := St.err hg
  go_enter Tryz.func19, Tryz.ntmps19
  go_wp2_with (first
    | (go_at_call 61; go_loud ((refine (tmay_nil _).mono ?_); rintro e W ⟨ge, rfl, hgo, hbl⟩; replace H := H.stay (Fix.of_below hbl _); clear hbl; unfold faultVT))
    | (go_at_call 62; go_loud ((refine (code_faultT ge 1 .nilIface _ (H.at 0 rfl) hgo).mono ?_); rintro e W2 ⟨rfl, hbl⟩; replace H := H.stay (Fix.of_below hbl _); clear hbl)))
  refine bodyPost_ret (results_tmp2 rfl _ _ _) rfl ?_
  exact ⟨rfl, H.fix.below⟩

theorem twrites_calls {w : World} {g : Nat} {t : LogT} {x : TxT} (hb : Bundle w (t.L x.gl ++ x.L g)) {z : Int} (hz : z = if x.over then 0 else ((keysOf x.f x.n).length : Int)) :
    Calls Tryz.prog 26 #[.pointer (some ⟨g, 0, none⟩)] w fun e w' => e = .returned (.int .i64 z) ∧ w = w' := by
  have H := hb.open_
  obtain ⟨gl, gm, M, rm, f, over, n⟩ := x
  have hlen : ∀ ty, (Builtin.len_ #[110] ty #[.map (some gm)]).run Tryz.prog w = .ok (.int .i64 ((keysOf f n).length : Int)) w := fun ty => by
    rw [← (H.at 6 rfl : MapIs w rm M f n 248).size_keys (H.at 5 rfl : w.ownsMap Tryz.prog 3 RV gm (Go.Maps.size M) M)]
    exact (H.at 5 rfl : w.ownsMap Tryz.prog 3 RV gm (Go.Maps.size M) M).len Tryz.underlying110 ty
  obtain ⟨kk, hkk⟩ : ∃ kk, (keysOf f n).length = kk := ⟨_, rfl⟩
  rw [hkk] at hlen
  clear hb
  cases over with
  | true =>
    have hz' : z = 0 := hz
    subst hz'
    clear hkk hz hlen
    go_enter Tryz.func26, Tryz.ntmps26
    go_wp2_with (first
      | (refine wpList_load1_st rfl 4 _ rfl _ _ rfl _ _ _ (H.at 4 rfl) _ Tryz.underlying4 rfl _ (tRow2 _ _ _) ?_))
    go_ret
    exact ⟨rfl, rfl⟩
  | false =>
    have hz' : z = (kk : Int) := by rw [← hkk]; exact hz
    subst hz'
    clear hkk hz
    go_enter Tryz.func26, Tryz.ntmps26
    go_wp2_with (first
      | (refine wpList_load1_st rfl 4 _ rfl _ _ rfl _ _ _ (H.at 4 rfl) _ Tryz.underlying4 rfl _ (tRow2 _ _ _) ?_)
      | (refine wpList_load1_st rfl 110 _ rfl _ _ rfl _ _ _ (H.at 4 rfl) _ Tryz.underlying110 rfl _ (tRow1 _ _ _) ?_))
    go_ret
    exact ⟨rfl, rfl⟩

theorem twrites_nil (w : World) : Calls Tryz.prog 26 #[.pointer none] w fun e w' => e = .returned (.int .i64 0) ∧ w = w' := by
  go_enter Tryz.func26, Tryz.ntmps26
  go_wp2
  go_ret
  exact ⟨rfl, rfl⟩

theorem thomes_nil (w : World) : Calls Tryz.prog 27 #[.pointer none] w fun e w' => e = .returned (.int .i64 0) ∧ w = w' := by
  go_enter Tryz.func27, Tryz.ntmps27
  go_wp2
  go_ret
  exact ⟨rfl, rfl⟩

theorem tabort_nil (w : World) : Calls Tryz.prog 21 #[.pointer none] w fun e w' => e = .returned (.tuple #[]) ∧ w = w' := by
  go_enter Tryz.func21, Tryz.ntmps21
  go_wp2
  exact bodyPost_end (v := .tuple #[]) (results_none rfl) rfl ⟨rfl, rfl⟩

/-- A transaction that is over. -/
def TxT.done (x : TxT) : TxT := { x with over := true }

theorem tabort_calls {w : World} {g : Nat} {x : TxT} (hb : Bundle w (x.L g)) :
    Calls Tryz.prog 21 #[.pointer (some ⟨g, 0, none⟩)] w fun e w' => e = .returned (.tuple #[]) ∧ BunTo w (ownL (x.L g)) (rdL (x.L g)) (x.done.L g) w' := by
  have H := hb.open_
  obtain ⟨gl, gm, M, rm, f, over, n⟩ := x
  clear hb
  go_enter Tryz.func21, Tryz.ntmps21
  go_wp2_with (first
    | (refine wpList_store1_st H 0 rfl 4 _ _ rfl _ _ (.bool true) rfl rfl rfl _ _ rfl rfl (by simp [tRow]) ?_; clear H; intro W H))
  exact bodyPost_end (v := .tuple #[]) (results_none rfl) rfl ⟨rfl, St.bunTo H⟩

end Go.Proofs.YtlgciddnpinpbaaGreatDoor

namespace Go.Proofs.YtlgciddnpinpbaaGreatDoor
open Go.RowKit
set_option linter.unusedSimpArgs false
set_option linter.unusedVariables false
set_option maxRecDepth 4000

/-- A transaction that has written once more. -/
def TxT.wrote (x : TxT) (k : Nat) (l : List UInt8) (M' : DataW Value) (rm' : Nat → Prop) : TxT := { x with M := M', rm := rm', f := fun j => if j = k then some l else x.f j }

theorem view_wrote (x : TxT) (t : LogT) (k : Nat) (l : List UInt8) (M' : DataW Value) (rm' : Nat → Prop) (j : Nat) : (x.wrote k l M' rm').view t j = if j = k then l else x.view t j := by
  show ((if j = k then some l else x.f j)).getD (t.hom j) = _
  by_cases e : j = k
  · rw [if_pos e, if_pos e]; rfl
  · rw [if_neg e, if_neg e]; rfl

set_option maxHeartbeats 1000000 in
theorem twrite_ok {w : World} {g : Nat} {t : LogT} {x : TxT} {c : Nat} {B : Asrt} (hb : Bundle w ((t.L x.gl ++ x.L g) ++ [B])) (ht : t.Ok c) (ho : x.over = false) (hn : x.n = t.n) (z : Int) (k : Nat) (hz : (k : Int) = z) (hk : k < t.n)
    {g0 off cap : Nat} {l : List UInt8} (hB : ∀ W, B.prop W → BytesAt W g0 off l ∧ g0 < W.heap.size) (hl : l.length = 248) :
    Calls Tryz.prog 17 #[.pointer (some ⟨g, 0, none⟩), .int .i64 z, .slice (some ⟨g0, off, none⟩) 248 cap] w fun e w' => e = .returned (.int .i64 0) ∧ ∃ M' rm',
      BunTo w (ownL ((t.L x.gl ++ x.L g) ++ [B])) (rdL ((t.L x.gl ++ x.L g) ++ [B])) ((t.L x.gl ++ (x.wrote k l M' rm').L g) ++ [B]) w' := by
  subst hz
  have H := hb.open_
  have HO := Lib.hid ht
  have HK := Lib.hid hk
  have HN9 := Lib.hid ht.nn
  have HBB := Lib.hid hB
  have HL := Lib.hid hl
  obtain ⟨gl, gm, M, rm, f, over, n⟩ := x
  have ho' : over = false := ho
  subst ho'
  have hn' : n = t.n := hn
  subst hn'
  have f0 : decide ((k : Int) < 0) = false := decide_eq_false (by omega)
  have f1 : decide ((t.n : Int) ≤ (k : Int)) = false := decide_eq_false (by omega)
  have f2 : ¬ t.n ≤ k := by omega
  have f3 : ¬ ((k : Int) < 0) := by omega
  have HOF := Lib.hid (show (TxT.mk gl gm M rm f false t.n).over = false from rfl)
  clear hb ht ho hk hn hB hl
  go_enter Tryz.func17, Tryz.ntmps17
  go_upto_region 8 with (first
    | (go_at_call 61; go_loud ((refine (tmay_ok (t := t) (x := ⟨gl, gm, M, rm, f, false, t.n⟩) (H.take 7).bundle HO.out HOF.out).mono ?_); rintro e W ⟨rfl, hto⟩; replace H := hto.front (R := [B]) H; clear hto))
    | (refine wpList_load1_st rfl 25 _ rfl _ _ rfl _ _ _ (H.at 4 rfl) _ Tryz.underlying25 rfl _ (tRow0 _ _ _) ?_)
    | (go_at_call 23; go_loud ((refine (Homes_T (t := t) (H.take 4).bundle HO.out rfl).mono ?_); rintro e W ⟨rfl, hto⟩; replace H := hto.front (R := TxT.L ⟨gl, gm, M, rm, f, false, t.n⟩ g ++ [B]) H; clear hto)))
  replace H := H.drew
  replace H : St _ _ w _ (t.L gl ++ [blk g (.cells (tRow (.pointer (some ⟨gl, 0, none⟩)) (.map (some gm)) false).toArray 112 (0, 0)), mapA gm (Go.Maps.size M) M, mapIsA rm M f t.n 248, B]) := H
  have HMp := Lib.hid (H.at 5 rfl : World.ownsMap _ Tryz.prog 3 RV gm (Go.Maps.size M) M).isMap
  refine wp_region_held_drew (S := fun w' => w'.cell? ⟨g, 1, none⟩ = some (.map (some gm))) (by kernel_rfl) (row_cell (H.at 4 rfl) (tRow1 _ _ _)) (fun hHeld => ?_)
  (refine wpAnyH_take (i := 0) (v := ?_) rfl (by kernel_rfl) (by kernel_rfl) (by kernel_rfl) (fun _ _ _ h => h) (Or.inl ⟨by rfl, ?_⟩) (by assumption) ?_; rotate_left; focus (intro w hSw; (try dsimp only at hSw); go_simp; all_goals (with_reducible rfl))); (try simp only [Act.put, List.setIfInBounds_toArray, List.set_cons_zero, List.set_cons_succ, List.getElem_toArray, List.getElem_cons_succ, List.getElem_cons_zero])
  (refine wpAnyH_take (i := 1) (v := ?_) rfl (by kernel_rfl) (by kernel_rfl) (by kernel_rfl) (fun _ _ _ h => h) (Or.inl ⟨by rfl, ?_⟩) (by assumption) ?_; rotate_left; focus (intro w hSw; (try dsimp only at hSw); go_simp; all_goals (with_reducible rfl))); (try simp only [Act.put, List.setIfInBounds_toArray, List.set_cons_zero, List.set_cons_succ, List.getElem_toArray, List.getElem_cons_succ, List.getElem_cons_zero])
  (refine wpAnyH_take (i := 2) (v := ?_) rfl (by kernel_rfl) (by kernel_rfl) (by kernel_rfl) (fun _ _ _ h => h) (Or.inl ⟨by rfl, ?_⟩) (by assumption) ?_; rotate_left; focus (intro w hSw; (try dsimp only at hSw); go_simp; all_goals (with_reducible rfl))); (try simp only [Act.put, List.setIfInBounds_toArray, List.set_cons_zero, List.set_cons_succ, List.getElem_toArray, List.getElem_cons_succ, List.getElem_cons_zero])
  (refine wpAnyH_take (i := 3) rfl (by kernel_rfl) (by kernel_rfl) (by kernel_rfl) (fun _ _ _ h => h) ((yieldsIf_load1 (by rfl) 110 _ rfl _ _ (by rfl) _ Tryz.underlying110 rfl _ (fun w h => h))) (by assumption) ?_); (try simp only [Act.put, List.setIfInBounds_toArray, List.set_cons_zero, List.set_cons_succ, List.getElem_toArray, List.getElem_cons_succ, List.getElem_cons_zero])
  (refine wpAnyH_take (i := 4) (v := ?_) rfl (by kernel_rfl) (by kernel_rfl) (by kernel_rfl) (fun _ _ _ h => h) (Or.inl ⟨by rfl, ?_⟩) (by assumption) ?_; rotate_left; focus (intro w hSw; (try dsimp only at hSw); go_simp; all_goals (with_reducible rfl))); (try simp only [Act.put, List.setIfInBounds_toArray, List.set_cons_zero, List.set_cons_succ, List.getElem_toArray, List.getElem_cons_succ, List.getElem_cons_zero])
  (refine wpAnyH_take (i := 5) (v := ?_) rfl (by kernel_rfl) (by kernel_rfl) (by kernel_rfl) (fun _ _ _ h => h) (Or.inl ⟨by rfl, ?_⟩) (by assumption) ?_; rotate_left; focus (intro w hSw; (try dsimp only at hSw); go_simp; all_goals (with_reducible rfl))); (try simp only [Act.put, List.setIfInBounds_toArray, List.set_cons_zero, List.set_cons_succ, List.getElem_toArray, List.getElem_cons_succ, List.getElem_cons_zero])
  (refine wpAnyH_ready (rs := [6]) (by kernel_rfl) (by simp) (AllReadyH.cons rfl (fun K hK => ?_) AllReadyH.nil)); (rw [if_pos (by rfl)]); (go_simp; go_at_call 63; (refine (clone_n (HBB.out _ (H.at 7 rfl)).1 HL.out (by omega) (HBB.out _ (H.at 7 rfl)).2).mono ?_); rintro e W1 ⟨gc, capc, junkc, rfl, hcc, hgc, hbc, hbl⟩; replace H := H.add (Fix.of_below hbl _) (blk gc _) hbc (fun k hk => by rw [show k = gc from hk]; exact hgc) (fun k hk => hk.elim); clear hbc hbl; (try go_wp2_with fail); refine hK.out _ _ (row_cell (H.at 4 rfl) (tRow1 _ _ _)) (fun hHeld2 => ?_); clear hK K)
  (try simp only [Act.put, List.setIfInBounds_toArray, List.set_cons_zero, List.set_cons_succ, List.getElem_toArray, List.getElem_cons_succ, List.getElem_cons_zero])
  (refine wpAnyH_ready (rs := [7]) (by kernel_rfl) (by simp) (AllReadyH.cons rfl (fun K hK => ?_) AllReadyH.nil)); (rw [if_pos (by rfl)]); (obtain ⟨W3, hrun, H3⟩ := H.mapStore 5 rfl (by have := (H.at 6 rfl : MapIs _ rm M f t.n 248).size_le (H.at 5 rfl); have := HN9.out; omega) k (by have := HK.out; have := HN9.out; omega) (.slice (some ⟨gc, 0, none⟩) 248 capc); refine wp_mapupdate_run 110 _ _ _ rfl _ _ _ (by rfl) (by rfl) (by rfl) hrun ?_; refine hK.out _ _ (row_cell (H3.at 4 rfl) (tRow1 _ _ _)) (fun hHeld3 => ?_); clear hK K hrun)
  (try simp only [Act.put, List.setIfInBounds_toArray, List.set_cons_zero, List.set_cons_succ, List.getElem_toArray, List.getElem_cons_succ, List.getElem_cons_zero])
  (refine wpAnyH_done (by kernel_rfl) ?_ _)
  clear hHeld hHeld2 hHeld3 H
  have J := H3.join 8 6 (A' := mapIsA (fun k => rm k ∨ k = gc) (M.put (keyI k) (.held (.slice (some ⟨gc, 0, none⟩) 248 capc))) (fun j => if j = k then some l else f j) t.n 248) rfl rfl
    ((H3.at 6 rfl : MapIs _ rm M f t.n 248).put HMp.out (fun k hk => .inl hk) (fun k hk => by
      rcases hk with hk | rfl
      · exact (H3.at 6 rfl : MapIs _ rm M f t.n 248).lt k hk
      · exact (Array.getElem?_eq_some_iff.1 (H3.at 8 rfl : _ = some _)).1) HL.out (.inr ⟨gc, 0, capc, by rw [HL.out], by rw [HL.out]; exact hcc, .inr (.inr rfl), BytesAt.front (H3.at 8 rfl)⟩) k HK.out) (fun k hk => hk.elim) (fun k hk => by
      rcases hk with hk | rfl
      · exact .inl (.inr hk)
      · exact .inr (.inl rfl))
  clear H3
  have H := J.take 8
  clear J
  go_wp2
  go_ret
  exact ⟨rfl, _, _, St.bunTo (L := (t.L gl ++ ((TxT.mk gl gm M rm f false t.n).wrote k l (M.put (keyI k) (.held (.slice (some ⟨gc, 0, none⟩) 248 capc))) (fun k => rm k ∨ k = gc)).L g) ++ [B]) H⟩

set_option maxHeartbeats 1000000 in
/-- Write, of a home that is not there, or of bytes that are too few or too many. -/
theorem twrite_no {w : World} {g : Nat} {t : LogT} {x : TxT} {c : Nat} (hb : Bundle w (t.L x.gl ++ x.L g)) (ht : t.Ok c) (ho : x.over = false) (z : Int) (p : Option Addr) (n cap : Nat) (r : Int) (hr : if z < 0 ∨ (t.n : Int) ≤ z then r = 1 else n ≠ 248 ∧ r = 13) :
    Calls Tryz.prog 17 #[.pointer (some ⟨g, 0, none⟩), .int .i64 z, .slice p n cap] w fun e w' => e = .returned (.int .i64 r) ∧
      BunTo w (ownL (t.L x.gl ++ x.L g)) (rdL (t.L x.gl ++ x.L g)) (t.L x.gl ++ x.L g) w' := by
  have H := hb.open_
  have HO := Lib.hid ht
  obtain ⟨gl, gm, M, rm, f, over, n0⟩ := x
  have ho' : over = false := ho
  subst ho'
  have HOF := Lib.hid (show (TxT.mk gl gm M rm f false n0).over = false from rfl)
  clear hb ht ho
  by_cases h0 : z < 0
  · rw [if_pos (.inl h0)] at hr
    subst hr
    have f0 : decide (z < 0) = true := decide_eq_true h0
    go_enter Tryz.func17, Tryz.ntmps17
    go_wp2_with (first
      | (go_at_call 61; go_loud ((refine (tmay_ok (t := t) (x := ⟨gl, gm, M, rm, f, false, n0⟩) H.bundle HO.out HOF.out).mono ?_); rintro e W ⟨rfl, hto⟩; replace H := hto.front (R := []) (by rw [List.append_nil]; exact H); clear hto; rw [List.append_nil] at H)))
    go_ret
    exact ⟨rfl, H.bunTo⟩
  · have f0 : decide (z < 0) = false := decide_eq_false h0
    by_cases h1 : (t.n : Int) ≤ z
    · rw [if_pos (.inr h1)] at hr
      subst hr
      have f1 : decide ((t.n : Int) ≤ z) = true := decide_eq_true h1
      go_enter Tryz.func17, Tryz.ntmps17
      go_wp2_with (first
        | (go_at_call 61; go_loud ((refine (tmay_ok (t := t) (x := ⟨gl, gm, M, rm, f, false, n0⟩) H.bundle HO.out HOF.out).mono ?_); rintro e W ⟨rfl, hto⟩; replace H := hto.front (R := []) (by rw [List.append_nil]; exact H); clear hto; rw [List.append_nil] at H))
        | (refine wpList_load1_st rfl 25 _ rfl _ _ rfl _ _ _ (H.at 4 rfl) _ Tryz.underlying25 rfl _ (tRow0 _ _ _) ?_)
        | (go_at_call 23; go_loud ((refine (Homes_T (t := t) (H.take 4).bundle HO.out rfl).mono ?_); rintro e W ⟨rfl, hto⟩; replace H := hto.front (R := TxT.L ⟨gl, gm, M, rm, f, false, n0⟩ g) H; clear hto)))
      go_ret
      exact ⟨rfl, H.bunTo⟩
    · rw [if_neg (by omega)] at hr
      obtain ⟨hne, rfl⟩ := hr
      have f1 : decide ((t.n : Int) ≤ z) = false := decide_eq_false h1
      have f3 : ((n : Int) == 248) = false := beq_eq_false_iff_ne.2 (by omega)
      have f4 : ((n : Int) != 248) = true := by rw [bne, f3]; rfl
      have f5 : ¬ ((n : Int) = 248) := by omega
      go_enter Tryz.func17, Tryz.ntmps17
      go_wp2_with (first
        | (go_at_call 61; go_loud ((refine (tmay_ok (t := t) (x := ⟨gl, gm, M, rm, f, false, n0⟩) H.bundle HO.out HOF.out).mono ?_); rintro e W ⟨rfl, hto⟩; replace H := hto.front (R := []) (by rw [List.append_nil]; exact H); clear hto; rw [List.append_nil] at H))
        | (refine wpList_load1_st rfl 25 _ rfl _ _ rfl _ _ _ (H.at 4 rfl) _ Tryz.underlying25 rfl _ (tRow0 _ _ _) ?_)
        | (go_at_call 23; go_loud ((refine (Homes_T (t := t) (H.take 4).bundle HO.out rfl).mono ?_); rintro e W ⟨rfl, hto⟩; replace H := hto.front (R := TxT.L ⟨gl, gm, M, rm, f, false, n0⟩ g) H; clear hto)))
      go_ret
      exact ⟨rfl, H.bunTo⟩

theorem twrite_over {w : World} {g : Nat} {t : LogT} {x : TxT} {c : Nat} (hb : Bundle w (t.L x.gl ++ x.L g ++ [errA])) (ht : t.Ok c) (ho : x.over = true) (z : Int) (v : Value) :
    Calls Tryz.prog 17 #[.pointer (some ⟨g, 0, none⟩), .int .i64 z, v] w fun e w' => e = .returned (.int .i64 15) ∧
      BunTo w (ownL (t.L x.gl ++ x.L g ++ [errA])) (rdL (t.L x.gl ++ x.L g ++ [errA])) (t.L x.gl ++ x.L g ++ [errA]) w' := by
  have H := hb.open_
  have HO := Lib.hid ht
  have HX := Lib.hid ho
  clear hb ht ho
  go_enter Tryz.func17, Tryz.ntmps17
  go_wp2_with (first
    | (go_at_call 61; go_loud ((refine (tmay_over (t := t) (x := x) (H.take 7).bundle HO.out HX.out).mono ?_); rintro e W ⟨ge, rfl, hgo, hto⟩; replace H := hto.front (R := [errA]) H; clear hto; unfold faultVT))
    | (go_at_call 62; go_loud ((refine (code_faultT ge 15 .nilIface _ (H.at 7 rfl) hgo).mono ?_); rintro e W2 ⟨rfl, hbl⟩; replace H := H.stay (Fix.of_below hbl _); clear hbl)))
  go_ret
  exact ⟨rfl, H.bunTo⟩

theorem twrite_nil (z : Int) (v : Value) (w : World) (hg : errA.prop w) : Calls Tryz.prog 17 #[.pointer none, .int .i64 z, v] w fun e w' => e = .returned (.int .i64 1) ∧ Below w.heap.size w w' := by
  have H := St.err hg
  go_enter Tryz.func17, Tryz.ntmps17
  go_wp2_with (first
    | (go_at_call 61; go_loud ((refine (tmay_nil _).mono ?_); rintro e W ⟨ge, rfl, hgo, hbl⟩; replace H := H.stay (Fix.of_below hbl _); clear hbl; unfold faultVT))
    | (go_at_call 62; go_loud ((refine (code_faultT ge 1 .nilIface _ (H.at 0 rfl) hgo).mono ?_); rintro e W2 ⟨rfl, hbl⟩; replace H := H.stay (Fix.of_below hbl _); clear hbl)))
  go_ret
  exact ⟨rfl, H.fix.below⟩

end Go.Proofs.YtlgciddnpinpbaaGreatDoor

namespace Go.Proofs.YtlgciddnpinpbaaGreatDoor
open Go.RowKit
set_option linter.unusedSimpArgs false
set_option linter.unusedVariables false
set_option maxRecDepth 4000

/-- The puts' slices are the map's. -/
def ValsOf (ps : List PutS) (M : DataW Value) : Prop := ∀ x ∈ ps, M.atKey (keyI x.home) (.held (.slice none 0 0)) = .held x.val

theorem ValsOf.snoc {ps : List PutS} {M : DataW Value} (h : ValsOf ps M) {k : Nat} {v : Value} {l : List UInt8} (hv : M.atKey (keyI k) (.held (.slice none 0 0)) = .held v) : ValsOf (ps ++ [⟨k, v, l⟩]) M := by
  intro x hx
  rcases List.mem_append.1 hx with hx | hx
  · exact h x hx
  · obtain rfl := List.mem_singleton.1 hx; exact hv

theorem MapIs.puts {W : World} {rd : Nat → Prop} {M : DataW Value} {f : Nat → Option (List UInt8)} {n : Nat} (h : MapIs W rd M f n 248) {ps : List PutS} {ks : List Nat} (hp : PutsOf ps f ks) (hv : ValsOf ps M) : (putsA rd ps).prop W := by
  refine ⟨fun x hx => ?_, h.lt⟩
  rcases h.waits x.home with ⟨_, h1⟩ | ⟨v, l, _, h2, h3, h4, h5⟩
  · rw [hp.bs x hx] at h1; cases h1
  · rw [hp.bs x hx] at h3
    cases h3
    rw [hv x hx] at h2
    cases h2
    exact h5

theorem MapIs.lens {W : World} {rd : Nat → Prop} {M : DataW Value} {f : Nat → Option (List UInt8)} {n : Nat} (h : MapIs W rd M f n 248) : ∀ k l, f k = some l → l.length = 248 := by
  intro k l hk
  rcases h.waits k with ⟨_, h1⟩ | ⟨v, l', _, _, h3, h4, _⟩
  · rw [hk] at h1; cases h1
  · rw [hk] at h3; cases h3; exact h4

/-- What Commit makes of a log. -/
structure Committed (t t' : LogT) (x : TxT) (c : Nat) : Prop where
  ok : t'.Ok (c + 1)
  gd : t'.gd = t.gd
  n : t'.n = t.n
  ring : t'.X.ring = t.X.ring
  turn : t'.X.turn = if 0 < (keysOf x.f x.n).length ∧ (keysOf x.f x.n).length ≤ 119 ∧ (keysOf x.f x.n).length < t.X.ring then t.X.turn + 1 else t.X.turn
  hom : ∀ k, k < t.n → t'.hom k = if (keysOf x.f x.n).length ≤ 119 ∧ (keysOf x.f x.n).length < t.X.ring then x.view t k else t.hom k

def commitC (t : LogT) (x : TxT) : Int := if (keysOf x.f x.n).length ≤ 119 ∧ (keysOf x.f x.n).length < t.X.ring then 0 else 4

theorem keysOf_nil {f : Nat → Option (List UInt8)} {n : Nat} (h : (keysOf f n).length = 0) (k : Nat) (hk : k < n) : f k = none := by
  cases hf : f k with
  | none => rfl
  | some l =>
    have := mem_keysOf (f := f) (n := n) (k := k)
    rw [List.eq_nil_of_length_eq_zero h, hf] at this
    exact (List.not_mem_nil (this.2 ⟨hk, rfl⟩)).elim

set_option maxHeartbeats 4000000 in
theorem tcommit_calls {w : World} {g : Nat} {t : LogT} {x : TxT} {c : Nat} (hb : Bundle w (t.L x.gl ++ x.L g ++ [errA])) (ht : t.Ok c) (hc : c < 400) (ho : x.over = false) (hn : x.n = t.n) :
    Calls Tryz.prog 20 #[.pointer (some ⟨g, 0, none⟩)] w fun e w' => e = .returned (.int .i64 (commitC t x)) ∧ ∃ t', Committed t t' x c ∧
      BunTo w (ownL (t.L x.gl ++ x.L g ++ [errA])) (rdL (t.L x.gl ++ x.L g ++ [errA])) (t'.L x.gl ++ x.done.L g ++ [errA]) w' := by
  have H := hb.open_
  obtain ⟨gl, gm, M, rm, f, over, n⟩ := x
  have ho' : over = false := ho
  subst ho'
  have hn' : n = t.n := hn
  subst hn'
  have HOF := Lib.hid (show (TxT.mk gl gm M rm f false t.n).over = false from rfl)
  have HO := Lib.hid ht
  have HC := Lib.hid hc
  have HN9 := Lib.hid ht.nn
  obtain ⟨O, hO⟩ : ∃ O, ownL (t.L gl ++ (TxT.mk gl gm M rm f false t.n).L g ++ [errA]) = O := ⟨_, rfl⟩
  obtain ⟨R, hR⟩ : ∃ R, rdL (t.L gl ++ (TxT.mk gl gm M rm f false t.n).L g ++ [errA]) = R := ⟨_, rfl⟩
  show Calls _ _ _ _ fun e w' => _ ∧ ∃ t', Committed t t' (TxT.mk gl gm M rm f false t.n) c ∧ BunTo w (ownL (t.L gl ++ (TxT.mk gl gm M rm f false t.n).L g ++ [errA])) (rdL (t.L gl ++ (TxT.mk gl gm M rm f false t.n).L g ++ [errA])) _ w'
  rw [hO, hR] at H ⊢
  clear hO hR
  clear hb ht hc ho hn
  go_enter Tryz.func20, Tryz.ntmps20
  go_upto_region 5 with (first
    | (go_at_call 61; go_loud ((refine (tmay_ok (t := t) (x := ⟨gl, gm, M, rm, f, false, t.n⟩) (H.take 7).bundle HO.out HOF.out).mono ?_); rintro e W ⟨rfl, hto⟩; replace H := hto.front (R := [errA]) H; clear hto)))
  have hP : MapIs W rm M f t.n 248 := H.at 6 rfl
  have hM : W.ownsMap Tryz.prog 3 RV gm (Go.Maps.size M) M := H.at 5 rfl
  have hsz := hP.size_le hM
  have HS := Lib.hid (Tryz.sorted_calls gm _ M RV W hM (by have := HN9.out; simp only [maxLen]; omega) (by have := HN9.out; omega))
  have HKP := Lib.hid (fun ss hss => hP.keysP hM (ss := ss) hss)
  have HLE := Lib.hid hP.lens
  obtain ⟨ks, hks⟩ : ∃ ks, keysOf f t.n = ks := ⟨_, rfl⟩
  have HKS := Lib.hid hks
  have hkl : ks.length ≤ 1900 := by have := keysOf_len f t.n; rw [hks] at this; have := HN9.out; omega
  have hkl2 : (ks.length : Int) ≤ 1900 := by omega
  rw [hks] at HKP
  clear hP hM hsz hks
  go_wp2_with (first
    | (refine wpList_load1_st rfl 110 _ rfl _ _ rfl _ _ _ (H.at 4 rfl) _ Tryz.underlying110 rfl _ (tRow1 _ _ _) ?_)
    | (go_at_call 65; (with_reducible refine (Tryz.keys_calls gm _).mono ?_); rintro e W' ⟨rfl, rfl⟩)
    | (go_at_call 64; go_loud ((refine HS.out.mono ?_); rintro e W2 ⟨v, ss, rfl, hperm, hrow, hb⟩; have e1 := HKP.out ss hperm; have e2 : ss.length = ks.length := by { have := congrArg List.length e1; simpa using this }; rw [e1, e2, List.map_map] at hrow; obtain ⟨pw, capw, rfl, hw1, hw2⟩ := ownsRow_rd hrow; clear hrow e1 e2 hperm; replace H := H.add (Fix.of_below hb NoBlk) (rdA pw _) hw1 (fun k hk => hk.elim) (fun k hk => .inl (hw2 k hk)); clear hw1 hw2 hb)))
  replace H : St O R w _ (t.L gl ++ (TxT.mk gl gm M rm f false t.n).L g ++ [errA, rdA pw (ks.map fun k : Nat => Value.int .i64 (k : Int))]) := H
  replace H := H.addNil 127 2
  go_loopw [4, 6, 25] (fun pv _ u wr => ∃ (j : Nat) (p : Option Addr) (cap : Nat) (ps : List PutS), pv = .slice p j cap ∧ u = .int .i64 (j : Int) ∧ j ≤ ks.length ∧ PutsOf ps f (ks.take j) ∧ ValsOf ps M ∧
    St O R w wr (t.L gl ++ (TxT.mk gl gm M rm f false t.n).L g ++ [errA, rdA pw (ks.map fun k : Nat => Value.int .i64 (k : Int)), ownS 127 2 p j cap (putV ps)])) (fun _ _ u _ => ks.length - (intOf u).toNat)
  case atStart => exact ⟨0, none, 0, [], rfl, rfl, Nat.zero_le _, PutsOf.nil f, fun x hx => (List.not_mem_nil hx).elim, H⟩
  case round =>
    clear H HS HKP
    obtain ⟨j, p, cap, ps, rfl, rfl, hj, hps, hvs, H⟩ := hrel
    have HPS := Lib.hid hps
    have HVS := Lib.hid hvs
    clear hps hvs
    rcases Nat.lt_or_ge j ks.length with hlt | hge
    · obtain ⟨k, hk⟩ : ∃ k, ks[j] = k := ⟨_, rfl⟩
      have hkm : k ∈ keysOf f t.n := by rw [HKS.out, ← hk]; exact List.getElem_mem hlt
      obtain ⟨hkn, hks1⟩ := mem_keysOf.1 hkm
      obtain ⟨l, hl⟩ := Option.isSome_iff_exists.1 hks1
      obtain ⟨hl248, gv, offv, capv, hat, hcv, hrv⟩ := (H.at 6 rfl : MapIs _ rm M f t.n 248).val k hl
      obtain ⟨ga, offa, rfl, hcell⟩ := rdA_at (H.at 8 rfl) (show (ks.map fun k : Nat => Value.int .i64 (k : Int))[j]? = some (.int .i64 (k : Int)) by rw [List.getElem?_map, List.getElem?_eq_getElem hlt, hk]; rfl)
      have hji : (j : Int) < (ks.length : Int) := by omega
      have hj0 : 0 ≤ (j : Int) := by omega
      have HAT := Lib.hid hat
      have HL := Lib.hid hl
      have HKN := Lib.hid (show k < 1048576 by have := HN9.out; omega)
      have HTK := Lib.hid (show ks.take (j + 1) = ks.take j ++ [k] by rw [List.take_succ_eq_append_getElem hlt, hk])
      have HLT := Lib.hid hlt
      clear hkm hkn hks1 hl hl248 hat hcv hrv hk hlt
      go_wp2_with (first
        | (refine wpList_load1_st rfl 110 _ rfl _ _ rfl _ _ _ (H.at 4 rfl) _ Tryz.underlying110 rfl _ (tRow1 _ _ _) ?_)
        | (refine wpList_lookup_run rfl 110 _ _ _ rfl _ _ _ rfl rfl (look_sl (H.at 5 rfl : World.ownsMap _ Tryz.prog 3 RV gm (Go.Maps.size M) M) k HKN.out _ HAT.out) ?_)
        | (refine wpList_buildslice_st H rfl 121 127 _ _ rfl Tryz.underlying121 _ size_put _ zero_put (by decide) (by decide) [(0, .agg #[.int .i64 (k : Int), .slice (some ⟨gv, offv, none⟩) 248 capv])] (by simp [Act.eval]) _ (fill_put2 _ _ rfl) ?_; clear H; intro W gs H)
        | (refine wpList_append_ownS H 9 rfl _ _ 121 rfl _ Tryz.underlying121 _ 2 32 info_put rfl (by omega) p j cap rfl _ rfl _ 1 _ rfl [.int .i64 (k : Int), .slice (some ⟨gv, offv, none⟩) 248 capv] rfl (news_of_row (H.at 10 rfl)) (by simp [Value.oneCell']) (by omega) (by simp only [maxLen]; omega) (by omega) ?_; clear H; intro W gp capp H))
      replace H := H.take 10
      replace H : St O R w W (t.L gl ++ (TxT.mk gl gm M rm f false t.n).L g ++ [errA, rdA (some ⟨ga, offa, none⟩) (ks.map fun k : Nat => Value.int .i64 (k : Int)), ownS 127 2 (some ⟨gp, 0, none⟩) (j + 1) capp (putV ps ++ [.int .i64 (k : Int), .slice (some ⟨gv, offv, none⟩) 248 capv])]) := H
      go_roundw
      case rel => exact ⟨j + 1, _, _, ps ++ [⟨k, .slice (some ⟨gv, offv, none⟩) 248 capv, l⟩], rfl, congrArg _ (by omega), HLT.out, by rw [HTK.out]; exact HPS.out.snoc k _ HL.out, HVS.out.snoc HAT.out, by rw [putV_snoc]; exact H⟩
      case measure => have := HLT.out; simp [intOf]; omega
    · obtain rfl : j = ks.length := by omega
      have hji2 : ¬ ((ks.length : Int) < (ks.length : Int)) := by omega
      have HPO := Lib.hid (show PutsOf ps f (keysOf f t.n) by have := HPS.out; rw [List.take_length, ← HKS.out] at this; exact this)
      have HPL := Lib.hid (show ps.length = ks.length by rw [HPO.out.len, HKS.out])
      have HGP := Lib.hid (HPO.out.good HLE.out)
      replace H := H.rdOf 9 rfl
      replace H := H.share 6 rfl (fun k hk => hk) (putsA rm ps) ((H.at 6 rfl : MapIs _ rm M f t.n 248).puts HPO.out HVS.out) (fun k hk => hk) (fun k hk => hk)
      replace H : St O R w wr (t.L gl ++ [blk g (.cells (tRow (.pointer (some ⟨gl, 0, none⟩)) (.map (some gm)) false).toArray 112 (0, 0)), mapA gm (Go.Maps.size M) M, mapIsA rm M f t.n 248, errA, rdA pw (ks.map fun k : Nat => Value.int .i64 (k : Int)), rdA p (putV ps), putsA rm ps]) := H
      go_upto_region 11 with (first
        | (refine wpList_store1_st H 4 rfl 4 _ _ rfl _ _ (.bool true) rfl rfl rfl _ _ rfl rfl (by simp [tRow]) ?_; clear H; intro W H))
      replace H : St O R w W (t.L gl ++ ((TxT.mk gl gm M rm f true t.n).L g) ++ [errA, rdA pw (ks.map fun k : Nat => Value.int .i64 (k : Int)), rdA p (putV ps), putsA rm ps]) := H
      replace H := (St.swap (A := t.L gl ++ (TxT.mk gl gm M rm f true t.n).L g) (E := [errA, rdA pw (ks.map fun k : Nat => Value.int .i64 (k : Int))]) (R := [rdA p (putV ps), putsA rm ps]) H).take 10
      replace H : St O R w W (t.L gl ++ (TxT.mk gl gm M rm f true t.n).L g ++ [rdA p (putV ps), putsA rm ps, errA]) := H
      have hlen : (keysOf f t.n).length = ks.length := by rw [HKS.out]
      have HLEN := Lib.hid hlen
      have SW : ∀ W, St O R w W (t.L gl ++ (TxT.mk gl gm M rm f true t.n).L g ++ [rdA p (putV ps), putsA rm ps, errA]) → St O R w W (t.L gl ++ [rdA p (putV ps), putsA rm ps, errA] ++ (TxT.mk gl gm M rm f true t.n).L g) := fun W h => St.swap (A := t.L gl) (E := (TxT.mk gl gm M rm f true t.n).L g) (R := [rdA p (putV ps), putsA rm ps, errA]) h
      have HSW := Lib.hid SW
      have BK : ∀ (t' : LogT) W, St O R w W (t'.L gl ++ [rdA p (putV ps), putsA rm ps, errA] ++ (TxT.mk gl gm M rm f true t.n).L g) → St O R w W (t'.L gl ++ (TxT.mk gl gm M rm f true t.n).L g ++ [errA]) := fun t' W h =>
        (St.swap (A := t'.L gl ++ (TxT.mk gl gm M rm f true t.n).L g) (E := [rdA p (putV ps), putsA rm ps]) (R := [errA]) (St.swap (A := t'.L gl) (E := [rdA p (putV ps), putsA rm ps, errA]) (R := (TxT.mk gl gm M rm f true t.n).L g) h)).take 8
      have HBK := Lib.hid BK
      clear SW BK
      by_cases hs : ks.length ≤ 119 ∧ ks.length < t.X.ring
      · have HSH := Lib.hid hs
        have HCC := Lib.hid (show commitC t (TxT.mk gl gm M rm f false t.n) = 0 by unfold commitC; rw [if_pos (by rw [HLEN.out]; exact hs)])
        rcases Nat.eq_zero_or_pos ks.length with h0 | h0
        · have HZ := Lib.hid h0
          have HPN := Lib.hid (show ps = [] from List.eq_nil_of_length_eq_zero (by rw [HPL.out]; exact h0))
          clear hs hlen
          go_wp2_with (first
            | (refine wpList_load1_st rfl 25 _ rfl _ _ rfl _ _ _ (H.at 4 rfl) _ Tryz.underlying25 rfl _ (tRow0 _ _ _) ?_)
            | (go_at_call 66; go_loud (replace H := HSW.out _ H; rw [HPN.out] at H; (refine (Commit_none (g := gl) (t := t) (p := p) (rp := rm) (H.take 6).bundle HO.out).mono ?_); rintro e W2 ⟨rfl, hto⟩; replace H := hto.front (R := errA :: (TxT.mk gl gm M rm f true t.n).L g) H; clear hto; rw [← HPN.out] at H; replace H := HBK.out t _ H)))
          go_ret
          rw [HCC.out]
          refine ⟨rfl, t, ⟨HO.out.mono (by omega), rfl, rfl, rfl, ?_, fun k hk => ?_⟩, H.bunTo⟩
          · show t.X.turn = if 0 < (keysOf f t.n).length ∧ _ then _ else _
            rw [HLEN.out, HZ.out, if_neg (by omega)]
          · show t.hom k = if (keysOf f t.n).length ≤ 119 ∧ _ then (f k).getD (t.hom k) else t.hom k
            rw [show f k = none from keysOf_nil (f := f) (n := t.n) (by rw [HLEN.out]; exact HZ.out) k hk]
            split <;> rfl
        · have HZ := Lib.hid h0
          clear hs hlen h0
          go_wp2_with (first
            | (refine wpList_load1_st rfl 25 _ rfl _ _ rfl _ _ _ (H.at 4 rfl) _ Tryz.underlying25 rfl _ (tRow0 _ _ _) ?_)
            | (go_at_call 66; go_loud (replace H := HSW.out _ H; (refine (Commit_ok (g := gl) (t := t) (ps := ps) (p := p) (rp := rm) (H.take 6).bundle HO.out HC.out (HGP.out.good (by rw [HPL.out]; exact HSH.out.1) (by rw [HPL.out]; exact HSH.out.2)) (by rw [HPL.out]; exact HZ.out) HPL.out).mono ?_); rintro e W2 ⟨rfl, t', h1, h2, h3, h4, h5, h6, h7, hto⟩; replace H := hto.front (R := errA :: (TxT.mk gl gm M rm f true t.n).L g) H; clear hto; replace H := HBK.out t' _ H)))
          go_ret
          rw [HCC.out]
          refine ⟨rfl, t', ⟨h1, h2, h3, h4, ?_, fun k hk => ?_⟩, H.bunTo⟩
          · show t'.X.turn = if 0 < (keysOf f t.n).length ∧ (keysOf f t.n).length ≤ 119 ∧ (keysOf f t.n).length < t.X.ring then _ else _
            rw [HLEN.out, if_pos ⟨HZ.out, HSH.out⟩]; exact h5
          · show t'.hom k = if (keysOf f t.n).length ≤ 119 ∧ (keysOf f t.n).length < t.X.ring then (f k).getD (t.hom k) else _
            rw [HLEN.out, if_pos HSH.out, h7 k hk]
            exact putH_keys HPO.out t.hom k hk
      · have HSH := Lib.hid hs
        have HCC := Lib.hid (show commitC t (TxT.mk gl gm M rm f false t.n) = 4 by unfold commitC; rw [if_neg (by rw [HLEN.out]; exact hs)])
        clear hs hlen
        go_wp2_with (first
          | (refine wpList_load1_st rfl 25 _ rfl _ _ rfl _ _ _ (H.at 4 rfl) _ Tryz.underlying25 rfl _ (tRow0 _ _ _) ?_)
          | (go_at_call 66; go_loud (replace H := HSW.out _ H; (refine (Commit_long (g := gl) (t := t) (ps := ps) (p := p) (rp := rm) (H.take 7).bundle HO.out HGP.out (by rw [HPL.out]; omega) (by rw [HPL.out]; exact HSH.out) HPL.out).mono ?_); rintro e W2 ⟨rfl, hto⟩; replace H := hto.front (R := (TxT.mk gl gm M rm f true t.n).L g) H; clear hto; replace H := HBK.out t _ H)))
        go_ret
        rw [HCC.out]
        refine ⟨rfl, t, ⟨HO.out.mono (by omega), rfl, rfl, rfl, ?_, fun k hk => ?_⟩, H.bunTo⟩
        · show t.X.turn = if 0 < (keysOf f t.n).length ∧ (keysOf f t.n).length ≤ 119 ∧ (keysOf f t.n).length < t.X.ring then _ else _
          rw [HLEN.out, if_neg (fun h => HSH.out h.2)]
        · show t.hom k = if (keysOf f t.n).length ≤ 119 ∧ (keysOf f t.n).length < t.X.ring then _ else _
          rw [HLEN.out, if_neg HSH.out]

end Go.Proofs.YtlgciddnpinpbaaGreatDoor

namespace Go.Proofs.YtlgciddnpinpbaaGreatDoor
open Go.RowKit
set_option linter.unusedSimpArgs false
set_option linter.unusedVariables false
set_option maxRecDepth 4000

section
variable {P : Program} {ops : Array Oper} {rest : List Oper} {o : Oper} {a : Act} {Q : Exit → Act → World → Prop} {W : World}
/-- One cell is loaded, of which the word is known. -/
theorem wpList_load1c (hwt : Region.wanted o (yielded ops a.tmps) = true) (ty : TypeId) (x : Operand) (ho : o.op = .load ty x) (g off : Nat) (hx : a.eval x = .pointer (some ⟨g, off, none⟩)) (d : TypeDesc) (hu : P.underlying ty = some d)
    (hd : (match d with | .struct _ | .array _ _ => true | _ => false) = false) (v : Value) (hc : W.cell? ⟨g, off, none⟩ = some v) (h : wpList P ops Q rest (a.put o.dst v) W) : wpList P ops Q (o :: rest) a W :=
  wpList_want hwt fun _ hK => wp_load1 ty x ho g off hx d hu hd v hc (hK _ _ h)
end

/-- A call that lays a bundle of its own. -/
theorem BunTo.fresh {M0 R0 : Nat → Prop} {w0 W W' : World} {L Ls : List Asrt} (h : BunTo W NoBlk NoBlk Ls W') (H : St M0 R0 w0 W L) : St M0 R0 w0 W' (L ++ Ls) :=
  (H.add h.fix (bun Ls) h.holds (fun k hk => (h.owns k hk).resolve_left (fun x => x)) (fun k hk => .inl (((h.reads k hk).resolve_left (fun x => x)).resolve_left (fun x => x)))).unbun

theorem new19_calls (z : Int) (N n : Nat) (hz : (N : Int) = z) (hN : n + 2 + 24 = N) (h3 : 8 ≤ n) (h4 : N ≤ 1900) (w : World) :
    Calls Tryz.prog 15 #[.int .i64 z] w fun e w' => ∃ gd g t, e = .returned (.tuple #[.pointer (some ⟨gd, 0, none⟩), .pointer (some ⟨g, 0, none⟩)]) ∧ LogT.New t gd n 24 ∧ BunTo w NoBlk NoBlk (t.L g) w' := by
  subst hz
  have H := St.nil NoBlk NoBlk w
  have HN := Lib.hid hN
  have H3 := Lib.hid h3
  have H4 := Lib.hid h4
  clear hN h3 h4
  go_enter Tryz.func15, Tryz.ntmps15
  go_wp2_with (first
    | (go_at_call 58; go_loud ((with_reducible refine (new_at _ N rfl (by have := HN.out; have := H3.out; omega) H4.out _).mono ?_); rintro e W ⟨gd, own, rd, rfl, hd, hb, hn⟩; replace H := H.add (Fix.of_below hb NoBlk) (dA gd (DS.new N) own rd) hd (fun k hk => hn k (.inl hk)) (fun k hk => .inl (hn k (.inr hk))); clear hd hb hn; simp only [List.nil_append] at H))
    | (go_at_call 59; go_loud ((refine (Format_new (H.at 0 rfl) _ 24 rfl (by omega) (by omega) (by have := HN.out; have := H3.out; omega) H4.out).mono ?_); rintro e W ⟨rfl, hto⟩; obtain ⟨own1, rd1, H'⟩ := DiskTo.step H 0 rfl hto; clear H; have H := H'; clear H' hto; simp only [List.set_cons_zero] at H))
    | (go_at_call 60; go_loud ((refine (Open_new (H.at 0 rfl) n HN.out (by omega) (by omega) H3.out H4.out).mono ?_); rintro e W ⟨g, t, rfl, hnew, hto⟩; replace H := hto.front (R := []) H; clear hto; rw [List.append_nil] at H)))
  refine bodyPost_ret (results_tmp2 rfl _ _ _) rfl ?_
  exact ⟨gd, g, t, rfl, hnew, H.bunTo⟩

/-- Full of one byte. -/
def fullH (x : UInt8) : List UInt8 := List.replicate 248 x
theorem fullH_len (x : UInt8) : (fullH x).length = 248 := List.length_replicate

theorem fillH_step (x : UInt8) (j : Nat) (hj : j < 248) : (List.replicate j x ++ List.replicate (248 - j) (0 : UInt8)).set j x = List.replicate (j + 1) x ++ List.replicate (248 - (j + 1)) 0 := by
  rw [List.set_append_right _ _ (by simp), List.length_replicate, Nat.sub_self, List.replicate_succ', List.append_assoc]
  congr 1
  rw [show 248 - j = (248 - (j + 1)) + 1 by omega, List.replicate_succ]
  rfl

theorem full19_calls (z : Int) (x : UInt8) (hz : (x.toNat : Int) = z) (w : World) :
    Calls Tryz.prog 18 #[.int .u8 z] w fun e w' => ∃ g, e = .returned (.slice (some ⟨g, 0, none⟩) 248 248) ∧ w.heap.size ≤ g ∧ (ownB g 0 (fullH x)).prop w' ∧ Below w.heap.size w w' := by
  subst hz
  have H := St.nil NoBlk NoBlk w
  go_enter Tryz.func18, Tryz.ntmps18
  go_wp2_with (first
    | (refine wpList_make2_st H rfl 22 _ _ rfl _ Tryz.underlying22 _ _ info_u8 rfl 248 248 rfl rfl (by omega) (by omega) (by simp only [maxLen]; omega) ?_; clear H; intro W g H; rw [show List.replicate 248 (Value.int .u8 0) = byteV (List.replicate 0 x ++ List.replicate (248 - 0) 0) by simp [byteV]] at H; simp only [List.nil_append] at H))
  try go_frame
  go_loopw [4] (fun u wr => ∃ j : Nat, u = .int .i64 (j : Int) ∧ j ≤ 248 ∧ St NoBlk NoBlk w wr [blk g (.cells (byteV (List.replicate j x ++ List.replicate (248 - j) (0 : UInt8))).toArray 5 (0, 0))]) (fun u _ => 248 - (intOf u).toNat)
  case atStart => exact ⟨0, rfl, by omega, H⟩
  case round =>
    obtain ⟨j, rfl, hj, H⟩ := hrel
    rcases Nat.lt_or_ge j 248 with hlt | hge
    · have hji : (j : Int) < 248 := by omega
      have hj0 : 0 ≤ (j : Int) := by omega
      have HST := Lib.hid (fillH_step x j hlt)
      have hoff : j < (byteV (List.replicate j x ++ List.replicate (248 - j) (0 : UInt8))).toArray.size := by simp; omega
      have HO := Lib.hid hoff
      clear hoff
      go_wp2_with (first
        | (refine wpList_store1_st H 0 rfl 5 _ _ rfl _ _ (.int .u8 ((UInt8.toNat _ : Nat) : Int)) rfl rfl rfl _ _ rfl size_u8 HO.out ?_; clear H; intro W H; (try simp only [cells_arrV, List.nil_append, List.cons_append, List.set_cons_zero, List.set_cons_succ] at H); simp only [byteV_set] at H; rw [HST.out] at H))
      go_roundw
      case rel => exact ⟨j + 1, congrArg _ (by omega), by omega, H⟩
      case measure => simp [intOf]; omega
    · obtain rfl : j = 248 := by omega
      go_wp2
      go_ret
      have h248 : List.replicate 248 x ++ List.replicate (248 - 248) (0 : UInt8) = fullH x := by rw [Nat.sub_self, List.replicate_zero, List.append_nil]; rfl
      rw [h248] at H
      refine ⟨g, rfl, ?_, ⟨[], [], rfl, ?_⟩, H.fix.below⟩
      · rcases H.mine 0 _ rfl g rfl with h | h
        · exact h
        · exact h.elim
      · rw [List.append_nil]; exact H.at 0 rfl

end Go.Proofs.YtlgciddnpinpbaaGreatDoor

namespace Go.Proofs.YtlgciddnpinpbaaGreatDoor
open Go.RowKit
set_option linter.unusedSimpArgs false
set_option linter.unusedVariables false
set_option maxRecDepth 40000

theorem begin_nolog (w : World) : Calls Tryz.prog 16 #[.pointer none] w fun e w' => ∃ g gm, e = .returned (.pointer (some ⟨g, 0, none⟩)) ∧ St NoBlk NoBlk w w' [blk g (.cells (tRow (.pointer none) (.map (some gm)) false).toArray 112 (0, 0)), mapA gm 0 (.map [])] := by
  have H := St.nil NoBlk NoBlk w
  go_enter Tryz.func16, Tryz.ntmps16
  go_wp2_with (first
    | (refine wpList_makemap_st H rfl 110 rfl ?_; clear H; intro W gm H)
    | (refine wpList_box_st H rfl 112 _ rfl _ rfl ?_; clear H; intro W g H))
  go_ret
  exact ⟨g, gm, rfl, St.rotate (A := [mapA gm 0 (.map [])]) H⟩

theorem size_u8' : (Tryz.prog.info? 5).map (·.size) = some 1 := size_u8

theorem fives : (byteV (List.replicate 248 (0 : UInt8))).toArray.setIfInBounds 0 (.int .u8 5) = (byteV (5 :: List.replicate 247 0) ++ []).toArray := by
  rw [List.append_nil]
  exact byteV_set (List.replicate 248 0) 0 5

def fiveB : List UInt8 := 5 :: List.replicate 247 0
theorem fiveB_len : fiveB.length = 248 := by simp [fiveB]

set_option maxHeartbeats 4000000 in
theorem begun19_calls (w : World) (hg : errA.prop w) : Calls Tryz.prog 14 #[] w fun e w' => e = .returned (.bool true) ∧ Below w.heap.size w w' := by
  have H := St.err hg
  clear hg
  have tok1 : True := trivial
  go_enter Tryz.func14, Tryz.ntmps14
  go_wp2_with (first
    | (go_at_call 15; go_loud ((refine (new19_calls _ 60 34 rfl rfl (by omega) (by omega) _).mono ?_); rintro e W ⟨gd, gl, t, rfl, hnew, hto⟩; replace H := (hto.fresh H).rotate; clear hto))
    | (go_at_call 16; go_loud ((refine (begin_calls _).mono ?_); rintro e W ⟨g, gm, rfl, h1, h2, h3, hb, hg, hm⟩; replace H := St.swap (A := t.L gl) (E := [errA]) (R := (TxT.new gl gm 34).L g) (H.begun 34 hb h1 h2 h3 hg hm); clear h1 h2 h3 hb hg hm))
    | (refine wpList_make2_st H rfl 22 _ _ rfl _ Tryz.underlying22 _ _ info_u8 rfl 248 248 rfl rfl (by omega) (by omega) (by simp only [maxLen]; omega) ?_; clear H; intro W gz H; rw [show List.replicate 248 (Value.int .u8 0) = byteV (List.replicate 248 0) by simp [byteV]] at H; replace H := St.swap (A := t.L gl ++ (TxT.new gl gm 34).L g) (E := [errA]) (R := [blk gz _]) H)
    | (refine wpList_store1_st H 7 rfl 5 _ _ rfl _ _ (.int .u8 5) rfl rfl rfl _ _ rfl size_u8 (by simp) ?_; clear H; intro W H; replace H : St _ _ w _ (t.L gl ++ (TxT.new gl gm 34).L g ++ [blk gz (.cells ((byteV (List.replicate 248 (0 : UInt8))).toArray.setIfInBounds 0 (.int .u8 5)) 5 (0, 0)), errA]) := H; rw [fives] at H; replace H := H.recast 7 (A' := ownB gz 0 fiveB) rfl (fun h => ownB_of_row h) (fun k hk => hk) (fun k hk => hk.elim); replace H : St _ _ w _ ((t.L gl ++ (TxT.new gl gm 34).L g ++ [ownB gz 0 fiveB]) ++ [errA]) := H)
    | (go_at_call 17; go_loud ((refine (twrite_ok (t := t) (x := TxT.new gl gm 34) (H.take 8).bundle hnew.ok rfl hnew.n.symm _ 3 rfl (by rw [hnew.n]; omega) (B := ownB gz 0 fiveB) (fun W h => ⟨ownB_bytes h, ownB_lt h⟩) fiveB_len).mono ?_); rintro e W ⟨rfl, M1, rm1, hto⟩; replace H := hto.front (R := [errA]) H; clear hto; obtain ⟨x1, hx1⟩ : ∃ x1, (TxT.new gl gm 34).wrote 3 fiveB M1 rm1 = x1 := ⟨_, rfl⟩; rw [hx1] at H; have HXO := Lib.hid (show x1.over = false by rw [← hx1]; rfl); have HXN := Lib.hid (show x1.n = t.n by rw [← hx1, hnew.n]; rfl); have HXG := Lib.hid (show x1.gl = gl by rw [← hx1]; rfl); have HXV := Lib.hid (show x1.view t 3 = fiveB by rw [← hx1, view_wrote, if_pos rfl]); have HXK := Lib.hid (show (keysOf x1.f x1.n).length = 1 by rw [← hx1]; rfl); clear hx1; obtain rfl : x1.gl = gl := HXG.out; replace H := St.swap (A := t.L x1.gl ++ x1.L g) (E := [ownB gz 0 fiveB]) (R := [errA]) H))
    | (go_at_call 19; have _t := tok1; clear _t; go_loud ((refine (tread_in (t := t) (x := x1) (H.take 7).bundle hnew.ok HXO.out HXN.out _ 3 rfl (by rw [hnew.n]; omega)).mono ?_); rintro e W ⟨gc, offc, capc, rfl, hlc, hcc, hgc, hto⟩; replace H := hto.front2 (R := [errA, ownB gz 0 fiveB]) H; clear hto tok1; rw [HXV.out] at H))
    | (go_at_call 26; go_loud ((refine (twrites_calls (t := t) (x := x1) (H.take 7).bundle (z := 1) (by rw [HXO.out, HXK.out]; rfl)).mono ?_); rintro e W' ⟨rfl, rfl⟩))
    | (go_at_call 20; go_loud ((refine (tcommit_calls (t := t) (x := x1) (H.take 8).bundle hnew.ok (by omega) HXO.out HXN.out).mono ?_); rintro e W ⟨rfl, t2, hco, hto⟩; replace H := hto.front (R := [ownB gz 0 fiveB, ownB gc offc fiveB]) H; clear hto; rw [show commitC t x1 = 0 by unfold commitC; rw [HXK.out, hnew.ring]; rfl]; have HT2 := Lib.hid (show (t2.X.turn : Int) = 2 by rw [hco.turn, HXK.out, hnew.ring, hnew.turn]; rfl); have HO2 := Lib.hid hco.ok))
    | (go_at_call 19; go_loud ((refine (tread_over (t := t2) (x := x1.done) (H.take 8).bundle HO2.out rfl _).mono ?_); rintro e W ⟨rfl, hto⟩; replace H := hto.front (R := [ownB gz 0 fiveB, ownB gc offc fiveB]) H; clear hto))
    | (refine wpList_load1c rfl 5 _ rfl gc offc rfl _ Tryz.underlying5 rfl (.int .u8 5) ((ownB_bytes (H.at 9 rfl)) 0 (by rw [fiveB_len]; omega)) ?_)
    | (go_at_call 57; go_loud ((refine (Turn_T (t := t2) (H.take 4).bundle (z := 2) HT2.out).mono ?_); rintro e W' ⟨rfl, rfl⟩)))
  go_ret
  exact ⟨rfl, H.fix.below⟩

end Go.Proofs.YtlgciddnpinpbaaGreatDoor

namespace Go.Proofs.YtlgciddnpinpbaaGreatDoor
open Go.ChangeShapes Go.WideShapes Go.ChangeAt Go.RowKit
set_option linter.unusedSimpArgs false
set_option linter.unusedVariables false
set_option maxRecDepth 40000


theorem open_bytesA {H : Type} {enc : TypeId × Value → H} {W : World} {base : Nat} {v : Value} {d : DataW H} {p : List MemPlace} (hval : Value.okWide Tryz.prog W .any base 22 v) (h : DataW.Trod enc Tryz.prog W 0 (fun _ => true) true 22 v d p) :
    ∃ q l cap, v = .slice q l.length cap ∧ (rdA q (byteV l)).prop W := by
  obtain ⟨a1, len, cap, rfl⟩ := okWide_slice Tryz.underlying22 hval
  obtain ⟨fuel, hf⟩ := h
  have hc : Tryz.prog.cellsOf 5 = 1 := by kernel_rfl
  rcases open_ints Tryz.underlying22 Tryz.underlying5 hc hf with ⟨hcs, hx⟩ | ⟨a, len', cap', zs, hcs, _, hl, hm, hz, hx, hcell, hwz⟩
  · simp [Value.cells] at hcs
    obtain ⟨rfl, rfl, rfl⟩ := hcs
    exact ⟨none, [], 0, rfl, .inl rfl⟩
  · simp [Value.cells] at hcs
    obtain ⟨rfl, rfl, rfl⟩ := hcs
    simp only [if_true] at hz
    have hlen : ((zs.take len).map fun n => UInt8.ofNat n.toNat).length = len := by simp; omega
    refine ⟨some a, (zs.take len).map fun n => UInt8.ofNat n.toNat, cap, by rw [hlen], ?_⟩
    by_cases h0 : len = 0
    · left; subst h0; simp [byteV]
    · obtain ⟨ab, ao, spot⟩ := a
      have hspot : spot = none := by simpa [Addr.add] using World.cell?_spot (hcell 0 (by omega))
      subst hspot
      refine .inr ⟨ab, ao, rfl, ?_, fun i x hi => ?_⟩
      · have := World.block_lt_of_cell? W _ (hcell 0 (by omega))
        simpa [Addr.add] using this
      · have hi1 : i < len := by have := (List.getElem?_eq_some_iff.1 hi).1; simp only [byteV, List.length_map] at this; simp at this; omega
        have hci := hcell i (by omega)
        rw [Addr.add_lit] at hci
        rw [hci]
        have hzi : i < zs.length := by omega
        have hw := bounds_u8 (hwz _ (List.getElem_mem hzi))
        rw [byteV_get] at hi
        simp only [List.getElem?_map, List.getElem?_take_of_lt hi1, List.getElem?_eq_getElem hzi, Option.map_some, Option.some.injEq] at hi
        rw [← hi, List.getD_eq_getElem?_getD, List.getElem?_eq_getElem hzi, Option.getD_some]
        congr 2
        rw [UInt8.toNat_ofNat']
        omega

theorem open_boolsA {H : Type} {enc : TypeId × Value → H} {W : World} {base : Nat} {v : Value} {d : DataW H} {p : List MemPlace} (hval : Value.okWide Tryz.prog W .any base 41 v) (h : DataW.Trod enc Tryz.prog W 0 (fun _ => true) true 41 v d p) :
    ∃ q l cap, v = .slice q (List.length l) cap ∧ (rdA q (l.map Value.bool)).prop W := by
  obtain ⟨a1, len, cap, rfl⟩ := okWide_slice Tryz.underlying41 hval
  obtain ⟨fuel, hf⟩ := h
  have hc : Tryz.prog.cellsOf 4 = 1 := by kernel_rfl
  rcases Go.Deep.open_bools Tryz.underlying41 Tryz.underlying4 hc hf with ⟨hcs, hx⟩ | ⟨a, len', cap', B, hcs, _, hl, hm, hx, hcell⟩
  · simp [Value.cells] at hcs
    obtain ⟨rfl, rfl, rfl⟩ := hcs
    exact ⟨none, [], 0, rfl, .inl rfl⟩
  · simp [Value.cells] at hcs
    obtain ⟨rfl, rfl, rfl⟩ := hcs
    refine ⟨some a, (List.range len).map B, cap, by simp, ?_⟩
    by_cases h0 : len = 0
    · left; subst h0; simp
    · obtain ⟨ab, ao, spot⟩ := a
      have hspot : spot = none := by simpa [Addr.add] using World.cell?_spot (hcell 0 (by omega))
      subst hspot
      refine .inr ⟨ab, ao, rfl, ?_, fun i x hi => ?_⟩
      · have := World.block_lt_of_cell? W _ (hcell 0 (by omega))
        simpa [Addr.add] using this
      · have hi1 : i < len := by have := (List.getElem?_eq_some_iff.1 hi).1; simpa using this
        have hci := hcell i (by omega)
        rw [Addr.add_lit] at hci
        rw [hci, ← hi]
        simp [hi1]

end Go.Proofs.YtlgciddnpinpbaaGreatDoor

namespace Go.Proofs.YtlgciddnpinpbaaGreatDoor
open Go.ChangeShapes Go.WideShapes Go.RowKit
set_option maxRecDepth 100000

theorem own : ownKnob Tryz.prog.godebug = none := by kernel_rfl
theorem laidOut : laidOutB Tryz.prog = true := by kernel_rfl
def errLaid : List (String × DataW Unit) := [("errors.errorType", Rows.laid_errors_errorType)]
theorem hd_et : Tryz.prog.globalNamed "errors.errorType" = some 0 := by kernel_rfl
theorem hd_rt : (Tryz.prog.cutTypes.find? (·.1 == "internal/reflectlite.rtype")).map (·.2) = some 253 := by kernel_rfl
theorem hd_one : ((List.range 328).filter fun t => Tryz.prog.rowNamed t [101, 114, 114, 111, 114]) = [114] := by kernel_rfl
theorem hd_size : Tryz.prog.types.size = 328 := by kernel_rfl

theorem handle_of_laid {W : World} (h : laidMetH Tryz.prog errLaid W) : errA.prop W := by
  have h' : laidMet Tryz.prog [] W ∧ handlesMet Tryz.prog errLaid W := h
  obtain ⟨name, u, ty, e1, e2, e3, e4, e5⟩ := h'.2 _ (List.mem_singleton.2 rfl)
  have en : name = [101, 114, 114, 111, 114] := (Option.some.inj e1).symm
  subst en
  obtain rfl := Option.some.inj (hd_rt.symm.trans e2)
  have hm : ty ∈ (List.range 328).filter fun t => Tryz.prog.rowNamed t [101, 114, 114, 111, 114] := List.mem_filter.2 ⟨List.mem_range.2 (by rw [← hd_size]; exact e3), e4⟩
  rw [hd_one] at hm
  obtain rfl := List.mem_singleton.1 hm
  have hh : typeHandle Tryz.prog 114 = .pointer (some ⟨2, 114, none⟩) := by kernel_rfl
  rw [hh] at e5
  have hc : W.cell? ⟨0, 0, none⟩ = some (.iface 253 (.agg #[.pointer (some ⟨2, 114, none⟩)])) := by simpa using World.var?_cell hd_et e5 0
  refine ⟨?_, hc⟩
  rcases Nat.eq_zero_or_pos W.heap.size with h0 | h
  · simp [World.cell?, h0] at hc
  · exact h

/-- A world that meets the condition. -/
noncomputable def laidWorld (os : Os) : World :=
  let w0 := World.holding Tryz.prog os ⟨#[], #[], []⟩
  { w0 with heap := w0.heap.modify 0 fun
      | .cells _ t frozen => .cells #[.iface 253 (.agg #[.pointer (some ⟨2, 114, none⟩)])] t frozen
      | o => o }
theorem laidWorld_met (os : Os) (args : Array Value) : laidMetH Tryz.prog errLaid ((laidWorld os).forCall (fun _ _ => 0) ⟨#[], args, []⟩).memory :=
  laidMetH_of_parts (laidMet_nil _ _) (by kernel_rfl)

end Go.Proofs.YtlgciddnpinpbaaGreatDoor

namespace Go.Proofs.YtlgciddnpinpbaaGreatDoor
open Go.RowKit
set_option linter.unusedSimpArgs false
set_option linter.unusedVariables false
set_option maxRecDepth 40000

/-- Bit i of bytes. -/
def bitB (l : List UInt8) (i : Nat) : Bool := (l.getD (i / 8) 0).toNat.testBit (i % 8)
def hasB (l : List UInt8) (i : Nat) : Bool := decide (i < 2) || bitB l i

theorem has_calls (g off cap : Nat) (l : List UInt8) (z : Int) (i : Nat) (hz : (i : Int) = z) (hi : i < 1984) (w : World) (hb : BytesAt w g off l) (hl : l.length = 248) (hc : 248 ≤ cap) :
    Calls Tryz.prog 76 #[.slice (some ⟨g, off, none⟩) 248 cap, .int .i64 z] w fun e w' => e = .returned (.bool (hasB l i)) ∧ w = w' := by
  subst hz
  by_cases h2 : i < 2
  · have e : hasB l i = true := by simp [hasB, h2]
    rw [e]
    have hi2 : (i : Int) < 2 := by omega
    clear hb
    go_enter Tryz.func76, Tryz.ntmps76
    go_wp2
    go_ret
    exact ⟨rfl, rfl⟩
  · have e : hasB l i = bitB l i := by simp [hasB, h2]
    rw [e]
    have hi2 : ¬ (i : Int) < 2 := by omega
    have hi3 : ¬ 1984 ≤ (i : Int) := by omega
    have hi0 : 0 ≤ (i : Int) := by omega
    obtain ⟨q, hq⟩ : ∃ q, i / 8 = q := ⟨_, rfl⟩
    obtain ⟨s, hs⟩ : ∃ s, i % 8 = s := ⟨_, rfl⟩
    have hqt : ((i : Int)).tdiv 8 = (q : Int) := by rw [Int.tdiv_eq_ediv_of_nonneg (by omega)]; omega
    have hst : ((i : Int)).tmod 8 = (s : Int) := by rw [Int.tmod_eq_emod_of_nonneg (by omega)]; omega
    have hq2 : (q : Int) < 248 := by omega
    have hq0 : 0 ≤ (q : Int) := by omega
    have hs2 : (s : Int) < 8 := by omega
    have hs0 : 0 ≤ (s : Int) := by omega
    have hql : q < l.length := by omega
    have hcell := hb q hql
    obtain ⟨b, hbb⟩ : ∃ b, l[q] = b := ⟨_, rfl⟩
    rw [hbb] at hcell
    have hres : bitB l i = b.toNat.testBit s := by
      unfold bitB
      rw [hq, hs, ← hbb]
      simp [hql]
    rw [hres]
    have hblt : (b.toNat : Int) < 256 := by have := b.toNat_lt; omega
    clear hb hq hs hres hbb
    go_enter Tryz.func76, Tryz.ntmps76
    go_wp2
    go_ret
    have key : (bits .and .u8 ((b.toNat : Int) / 2 ^ s) 1 == 1) = b.toNat.testBit s := by
      have e1 : ((b.toNat : Int) / 2 ^ s) = ((b.toNat / 2 ^ s : Nat) : Int) := by push_cast; rfl
      have h1 : b.toNat / 2 ^ s < 256 := Nat.lt_of_le_of_lt (Nat.div_le_self _ _) b.toNat_lt
      rw [e1, show (1 : Int) = ((1 : Nat) : Int) from rfl, u8_and_nat _ _ h1 (by omega), Nat.and_one_is_mod, Nat.testBit_eq_decide_div_mod_eq]
      by_cases h : b.toNat / 2 ^ s % 2 = 1
      · rw [h]; rfl
      · have h0 : b.toNat / 2 ^ s % 2 = 0 := by omega
        rw [h0]; rfl
    exact ⟨congrArg (fun v => Ending.returned (Value.bool v)) key, rfl⟩

/-- A bit is turned. -/
def turnB (l : List UInt8) (i : Nat) : List UInt8 := l.set (i / 8) (UInt8.ofNat ((l.getD (i / 8) 0).toNat ^^^ 2 ^ (i % 8)))

theorem turnB_len (l : List UInt8) (i : Nat) : (turnB l i).length = l.length := List.length_set

theorem xor_lt (b s : Nat) (hb : b < 256) (hs : s < 8) : b ^^^ 2 ^ s < 256 := by
  have : (2 : Nat) ^ s < 2 ^ 8 := Nat.pow_lt_pow_right (by omega) hs
  exact Nat.xor_lt_two_pow (n := 8) hb this

theorem bitB_turn (l : List UInt8) (i j : Nat) (hi : i / 8 < l.length) : bitB (turnB l i) j = if j = i then !bitB l i else bitB l j := by
  unfold bitB turnB
  rw [List.getD_eq_getElem?_getD, List.getElem?_set]
  by_cases hq : i / 8 = j / 8
  · rw [if_pos hq, if_pos hi, Option.getD_some]
    rw [UInt8.toNat_ofNat_of_lt' (xor_lt _ _ (UInt8.toNat_lt _) (Nat.mod_lt _ (by omega))), Nat.testBit_xor, Nat.testBit_two_pow]
    by_cases e : j = i
    · subst e; simp
    · have hne : ¬ i % 8 = j % 8 := by omega
      rw [if_neg e, hq]
      simp [hne]
  · have e : ¬ j = i := by rintro rfl; exact hq rfl
    rw [if_neg hq, if_neg e, ← List.getD_eq_getElem?_getD]

end Go.Proofs.YtlgciddnpinpbaaGreatDoor

namespace Go.Proofs.YtlgciddnpinpbaaGreatDoor
open Go.RowKit Go.Extern.Stop Go.Stop Go.Extern
set_option linter.unusedSimpArgs false
set_option linter.unusedVariables false
set_option maxRecDepth 4000

theorem AsS.valueOf27 (t : Addr) (w : World) : (ReflectliteValue.unpack (.iface 224 (.pointer (some t)))).run Tryz.prog w
    = .ok (.agg #[.pointer (some ⟨2, 224, none⟩), .pointer (some ⟨w.heap.size, 0, none⟩), .int .u64 150]) (w.alloc (.cells #[.pointer (some t)] 224)) := by kernel_rfl
theorem AsS.type27 (a : Addr) (w : World) : (ReflectliteValue.methodAny (ReflectliteValue.valueError "reflectlite.Value.Type" 0) (fun t _ _ _ => ReflectliteType.toType t) #[.agg #[.pointer (some ⟨2, 224, none⟩), .pointer (some a), .int .u64 150]]).run Tryz.prog w
    = .ok (.iface 253 (.agg #[.pointer (some ⟨2, 224, none⟩)])) w := by kernel_rfl
theorem AsS.methodKind (h : Value) (w : World) : (Go.method 428 253 (.agg #[h]) "Kind").run Tryz.prog w = .ok (225, h) w := by kernel_rfl
theorem AsS.kind27 (w : World) : ((ReflectliteType.abiMethod fun t => (fun a : Nat => Value.int IntKind.u8 (a : Int)) <$> Rtype.kind t) #[.pointer (some ⟨2, 224, none⟩)]).run Tryz.prog w = .ok (.int .u8 22) w := by kernel_rfl
theorem AsS.kind25 (w : World) : ((ReflectliteType.abiMethod fun t => (fun a : Nat => Value.int IntKind.u8 (a : Int)) <$> Rtype.kind t) #[.pointer (some ⟨2, 223, none⟩)]).run Tryz.prog w = .ok (.int .u8 22) w := by kernel_rfl

theorem AsS.parts27 (a : Addr) (w : World) : (ReflectliteValue.parts (.agg #[.pointer (some ⟨2, 224, none⟩), .pointer (some a), .int .u64 150])).run Tryz.prog w = .ok (some (224, a, 150)) w := by kernel_rfl
theorem AsS.isNil27 (a p : Addr) (W : World) (ha : W.cell? a = some (.pointer (some p))) :
    (ReflectliteValue.method (ReflectliteValue.valueError "reflectlite.Value.IsNil" 0) ReflectliteValue.isNil #[.agg #[.pointer (some ⟨2, 224, none⟩), .pointer (some a), .int .u64 150]]).run Tryz.prog W = .ok (.bool false) W := by
  rw [rlm]
  simp only [Sem.run_bind, AsS.parts27, Result.andThen]
  simp [ReflectliteValue.isNil, loadVar, isAgg, underlying, Tryz.underlying224, ha, Result.andThen]

theorem AsS.methodElem (h : Value) (w : World) : (Go.method 428 253 (.agg #[h]) "Elem").run Tryz.prog w = .ok (246, .agg #[h]) w := by kernel_rfl
theorem AsS.methodImplements (h : Value) (w : World) : (Go.method 428 253 (.agg #[h]) "Implements").run Tryz.prog w = .ok (247, .agg #[h]) w := by kernel_rfl
theorem AsS.methodAssignableTo (h : Value) (w : World) : (Go.method 428 253 (.agg #[h]) "AssignableTo").run Tryz.prog w = .ok (244, .agg #[h]) w := by kernel_rfl
theorem AsS.elem27 (w : World) : (ReflectliteType.method ReflectliteType.elem #[.agg #[.pointer (some ⟨2, 224, none⟩)]]).run Tryz.prog w = .ok (.iface 253 (.agg #[.pointer (some ⟨2, 223, none⟩)])) w := by kernel_rfl
theorem AsS.implements25 (w : World) : (ReflectliteType.relation "Implements" ReflectliteType.implements_ #[.agg #[.pointer (some ⟨2, 223, none⟩)], .iface 253 (.agg #[.pointer (some ⟨2, 114, none⟩)])]).run Tryz.prog w = .ok (.bool true) w := by kernel_rfl
theorem AsS.typeOf25 (v : Value) (w : World) : (ReflectliteType.typeOf #[.iface 223 v]).run Tryz.prog w = .ok (.iface 253 (.agg #[.pointer (some ⟨2, 223, none⟩)])) w := by kernel_rfl
theorem AsS.assignable25 (w : World) : (ReflectliteType.relation "AssignableTo" ReflectliteType.assignableTo #[.agg #[.pointer (some ⟨2, 223, none⟩)], .iface 253 (.agg #[.pointer (some ⟨2, 223, none⟩)])]).run Tryz.prog w = .ok (.bool true) w := by kernel_rfl
theorem AsS.valueOf25 (e : Addr) (w : World) : (ReflectliteValue.unpack (.iface 223 (.pointer (some e)))).run Tryz.prog w
    = .ok (.agg #[.pointer (some ⟨2, 223, none⟩), .pointer (some ⟨w.heap.size, 0, none⟩), .int .u64 150]) (w.alloc (.cells #[.pointer (some e)] 223)) := by kernel_rfl

theorem AsS.elemOf27 (w : World) : (Rtype.elem? 224).run Tryz.prog w = .ok (some 223) w := by kernel_rfl
theorem AsS.mk25 (p : Addr) (w : World) : (ReflectliteValue.mk 223 p ReflectliteValue.flagAddr).run Tryz.prog w = .ok (.agg #[.pointer (some ⟨2, 223, none⟩), .pointer (some p), .int .u64 406]) w := by kernel_rfl
theorem AsS.elemV27 (a p : Addr) (W : World) (ha : W.cell? a = some (.pointer (some p))) :
    (ReflectliteValue.method (ReflectliteValue.valueError "reflectlite.Value.Elem" 0) ReflectliteValue.elem #[.agg #[.pointer (some ⟨2, 224, none⟩), .pointer (some a), .int .u64 150]]).run Tryz.prog W
      = .ok (.agg #[.pointer (some ⟨2, 223, none⟩), .pointer (some p), .int .u64 406]) W := by
  rw [rlm]
  simp only [Sem.run_bind, AsS.parts27, Result.andThen]
  simp [ReflectliteValue.elem, loadVar, isAgg, underlying, Tryz.underlying224, ha, Result.andThen, AsS.elemOf27, AsS.mk25]
theorem AsS.parts25a (a : Addr) (w : World) : (ReflectliteValue.parts (.agg #[.pointer (some ⟨2, 223, none⟩), .pointer (some a), .int .u64 406])).run Tryz.prog w = .ok (some (223, a, 406)) w := by kernel_rfl
theorem AsS.parts25 (a : Addr) (w : World) : (ReflectliteValue.parts (.agg #[.pointer (some ⟨2, 223, none⟩), .pointer (some a), .int .u64 150])).run Tryz.prog w = .ok (some (223, a, 150)) w := by kernel_rfl
theorem AsS.direct25 (w : World) : (Rtype.directlyAssignable 223 223).run Tryz.prog w = .ok true w := by kernel_rfl
theorem AsS.size25 (w : World) : (sizeOf 223).run Tryz.prog w = .ok 1 w := by kernel_rfl
theorem AsS.set25 (ta b e : Addr) (old : Value) (W : World) (hb : W.cell? b = some (.pointer (some e))) (ht : W.cell? ta = some old) (hf : W.frozen? ta = false) :
    (ReflectliteValue.set #[.agg #[.pointer (some ⟨2, 223, none⟩), .pointer (some ta), .int .u64 406], .agg #[.pointer (some ⟨2, 223, none⟩), .pointer (some b), .int .u64 150]]).run Tryz.prog W
      = .ok (.tuple #[]) (W.setCell ta (.pointer (some e))) := by
  rw [rls]
  simp only [Sem.run_bind, AsS.parts25a, AsS.parts25, Result.andThen]
  simp [ReflectliteValue.flagAddr, loadVar, isAgg, underlying, Tryz.underlying223, hb, Result.andThen, AsS.direct25, storeVar, Value.cells, storeCells, Addr.add]
  rw [run_store Tryz.prog W ta _ _ (by rfl)]
  simp [ht, hf]

theorem AsS.typeOfW (v : Value) (w : World) : (ReflectliteType.typeOf #[.iface 266 v]).run Tryz.prog w = .ok (.iface 253 (.agg #[.pointer (some ⟨2, 266, none⟩)])) w := by kernel_rfl
theorem AsS.assignW (w : World) : (ReflectliteType.relation "AssignableTo" ReflectliteType.assignableTo #[.agg #[.pointer (some ⟨2, 266, none⟩)], .iface 253 (.agg #[.pointer (some ⟨2, 223, none⟩)])]).run Tryz.prog w = .ok (.bool false) w := by kernel_rfl
theorem AsS.methodUnwrap (a : Value) (w : World) : (Go.method 428 266 a "Unwrap").run Tryz.prog w = .ok (255, a) w := by kernel_rfl

theorem AsS.noAs (v : Value) (xT : TypeId) (w : World) : (Instr.typeAssert (.iface 266 v) xT 258 true).run Tryz.prog w = .ok (.tuple #[.nilIface, .bool false]) w := run_typeAssert_lacksB Tryz.underlying258 (by kernel_rfl) (by kernel_rfl) v xT w
theorem AsS.hasUn (v : Value) (xT : TypeId) (w : World) : (Instr.typeAssert (.iface 266 v) xT 261 true).run Tryz.prog w = .ok (.tuple #[.iface 266 v, .bool true]) w := run_typeAssert_hasB Tryz.underlying261 (by kernel_rfl) v xT w

theorem unwrap_part (a : Addr) (v : Value) (w : World) (h : w.cell? a = some v) : Calls Tryz.prog 255 #[.pointer (some a)] w fun e w' => e = .returned v ∧ w = w' := by
  go_enter Tryz.func255, Tryz.ntmps255
  go_wp2
  go_ret
  exact ⟨rfl, rfl⟩

set_option maxHeartbeats 4000000 in
theorem as_hitS (pp e t : Addr) (old : Value) (w : World) (hp : w.cell? pp = some (.iface 223 (.pointer (some e)))) (hg : w.cell? ⟨0, 0, none⟩ = some (.iface 253 (.agg #[.pointer (some ⟨2, 114, none⟩)]))) (ht0 : w.cell? t = some old) (hf0 : w.frozen? t = false) :
    Calls Tryz.prog 102 #[.iface 266 (.pointer (some pp)), .iface 224 (.pointer (some t))] w fun ev w' => ev = .returned (.bool true) ∧ w' = ((((w.alloc (.cells #[.pointer (some t)] 224)).alloc (.cells #[.pointer (some ⟨2, 224, none⟩), .pointer (some ⟨w.heap.size, 0, none⟩), .int .u64 150] 207)).alloc (.cells #[.pointer (some ⟨2, 224, none⟩), .pointer (some ⟨w.heap.size, 0, none⟩), .int .u64 150] 207)).alloc (.cells #[.pointer (some e)] 223)).setCell t (.pointer (some e)) := by
  have h6 := @run_callFunc_extern Tryz.prog 136 _ (fun args => ReflectliteValue.unpack (args.getD 0 (.tuple #[]))) Tryz.func136 (by kernel_rfl) (by kernel_rfl) (by kernel_rfl) (by kernel_rfl)
  have h7 := @run_callFunc_extern Tryz.prog 137 _ (ReflectliteValue.methodAny (ReflectliteValue.valueError "reflectlite.Value.Type" 0) (fun t _ _ _ => ReflectliteType.toType t)) Tryz.func137 (by kernel_rfl) (by kernel_rfl) (by kernel_rfl) (by kernel_rfl)
  have h8 := @run_callFunc_extern Tryz.prog 138 _ (ReflectliteValue.method (ReflectliteValue.valueError "reflectlite.Value.IsNil" 0) ReflectliteValue.isNil) Tryz.func138 (by kernel_rfl) (by kernel_rfl) (by kernel_rfl) (by kernel_rfl)
  have h27 := @run_callFunc_extern Tryz.prog 225 _ (ReflectliteType.abiMethod fun t => do pure (.int .u8 (← Rtype.kind t))) Tryz.func225 (by kernel_rfl) (by kernel_rfl) (by kernel_rfl) (by kernel_rfl)
  have h37 := @run_callFunc_extern Tryz.prog 246 _ (ReflectliteType.method ReflectliteType.elem) Tryz.func246 (by kernel_rfl) (by kernel_rfl) (by kernel_rfl) (by kernel_rfl)
  have h38 := @run_callFunc_extern Tryz.prog 247 _ (ReflectliteType.relation "Implements" ReflectliteType.implements_) Tryz.func247 (by kernel_rfl) (by kernel_rfl) (by kernel_rfl) (by kernel_rfl)
  have h10 := @run_callFunc_extern Tryz.prog 174 _ ReflectliteType.typeOf Tryz.func174 (by kernel_rfl) (by kernel_rfl) (by kernel_rfl) (by kernel_rfl)
  have h35 := @run_callFunc_extern Tryz.prog 244 _ (ReflectliteType.relation "AssignableTo" ReflectliteType.assignableTo) Tryz.func244 (by kernel_rfl) (by kernel_rfl) (by kernel_rfl) (by kernel_rfl)
  have h11 := @run_callFunc_extern Tryz.prog 175 _ (ReflectliteValue.method (ReflectliteValue.valueError "reflectlite.Value.Elem" 0) ReflectliteValue.elem) Tryz.func175 (by kernel_rfl) (by kernel_rfl) (by kernel_rfl) (by kernel_rfl)
  have h12 := @run_callFunc_extern Tryz.prog 176 _ ReflectliteValue.set Tryz.func176 (by kernel_rfl) (by kernel_rfl) (by kernel_rfl) (by kernel_rfl)
  have tO := AsS.typeOf25
  have tW := AsS.typeOfW
  have aW := AsS.assignW
  have mU := AsS.methodUnwrap
  have nA := AsS.noAs
  have hU := AsS.hasUn
  have mA := AsS.methodAssignableTo
  have a25 := AsS.assignable25
  have v25 := AsS.valueOf25
  have f6 := AsS.valueOf27
  have f7 := AsS.type27
  have mK := AsS.methodKind
  have mE := AsS.methodElem
  have mI := AsS.methodImplements
  have k27 := AsS.kind27
  have k25 := AsS.kind25
  have e27 := AsS.elem27
  have i25 := AsS.implements25
  have n8 := AsS.isNil27 ⟨w.heap.size, 0, none⟩ t ((w.alloc (.cells #[.pointer (some t)] 224)).alloc (.cells #[.pointer (some ⟨2, 224, none⟩), .pointer (some ⟨w.heap.size, 0, none⟩), .int .u64 150] 207)) (by simp)
  have hlt : 0 < w.heap.size := by
    rcases Nat.eq_zero_or_pos w.heap.size with h0 | h
    · simp [World.cell?, h0] at hg
    · exact h
  have hg2 : ((w.alloc (.cells #[.pointer (some t)] 224)).alloc (.cells #[.pointer (some ⟨2, 224, none⟩), .pointer (some ⟨w.heap.size, 0, none⟩), .int .u64 150] 207)).cell? ⟨0, 0, none⟩ = some (.iface 253 (.agg #[.pointer (some ⟨2, 114, none⟩)])) := by
    rw [World.cell?_alloc_lt _ _ ⟨0, 0, none⟩ (by simp), World.cell?_alloc_lt _ _ ⟨0, 0, none⟩ hlt]; exact hg
  have htl : t.block < w.heap.size := by
    rcases Nat.lt_or_ge t.block w.heap.size with h | h
    · exact h
    · simp [World.cell?, Array.getElem?_eq_none h] at ht0
  have el := AsS.elemV27 ⟨w.heap.size, 0, none⟩ t (((w.alloc (.cells #[.pointer (some t)] 224)).alloc (.cells #[.pointer (some ⟨2, 224, none⟩), .pointer (some ⟨w.heap.size, 0, none⟩), .int .u64 150] 207)).alloc (.cells #[.pointer (some ⟨2, 224, none⟩), .pointer (some ⟨w.heap.size, 0, none⟩), .int .u64 150] 207)) (by rw [World.cell?_alloc_lt _ _ ⟨w.heap.size, 0, none⟩ (by simp; omega)]; simp)
  have st := AsS.set25 t ⟨w.heap.size + 1 + 1 + 1, 0, none⟩ e old ((((w.alloc (.cells #[.pointer (some t)] 224)).alloc (.cells #[.pointer (some ⟨2, 224, none⟩), .pointer (some ⟨w.heap.size, 0, none⟩), .int .u64 150] 207)).alloc (.cells #[.pointer (some ⟨2, 224, none⟩), .pointer (some ⟨w.heap.size, 0, none⟩), .int .u64 150] 207)).alloc (.cells #[.pointer (some e)] 223))
    (by rw [World.cell?_alloc_at _ _ _ _ (by simp)]; rfl)
    (by rw [World.cell?_alloc_lt _ _ t (by simp; omega), World.cell?_alloc_lt _ _ t (by simp; omega), World.cell?_alloc_lt _ _ t (by simp; omega), World.cell?_alloc_lt _ _ t htl]; exact ht0)
    (by rw [World.frozen?_alloc_old _ _ t (by simp; omega), World.frozen?_alloc_old _ _ t (by simp; omega), World.frozen?_alloc_old _ _ t (by simp; omega), World.frozen?_alloc_old _ _ t (Nat.ne_of_lt htl)]; exact hf0)
  have hpl : pp.block < w.heap.size := World.block_lt_of_cell? w pp hp
  have hp3 : (((w.alloc (.cells #[.pointer (some t)] 224)).alloc (.cells #[.pointer (some ⟨2, 224, none⟩), .pointer (some ⟨w.heap.size, 0, none⟩), .int .u64 150] 207)).alloc (.cells #[.pointer (some ⟨2, 224, none⟩), .pointer (some ⟨w.heap.size, 0, none⟩), .int .u64 150] 207)).cell? pp = some (.iface 223 (.pointer (some e))) := by
    rw [World.cell?_alloc_lt _ _ pp (by simp; omega), World.cell?_alloc_lt _ _ pp (by simp; omega), World.cell?_alloc_lt _ _ pp hpl]; exact hp
  go_enter Tryz.func102, Tryz.ntmps102
  go_wp2
  refine wp_loop_rounds 2 ?_
  rw [rounds_succ]
  go_wp2
  rw [rounds_succ]
  go_wp2
  go_ret
  exact ⟨rfl, rfl⟩

theorem zero_faultS1 : (Tryz.prog.info? 223).bind (·.zero) = some (.pointer none) := by kernel_rfl

theorem code_nilS (w : World) : Calls Tryz.prog 112 #[.nilIface] w fun e w' => e = .returned (.int .i64 0) ∧ Below w.heap.size w w' := by
  have H := St.nil NoBlk NoBlk w
  go_enter Tryz.func112, Tryz.ntmps112
  go_wp2_with (first
    | (refine wpList_alloc_st H rfl 223 rfl _ zero_faultS1 ?_; clear H; intro W gf H)
    | (go_at_call 102; (with_reducible refine (as_nil _ _).mono ?_); rintro e W' ⟨rfl, rfl⟩))
  go_ret
  exact ⟨rfl, H.fix.below⟩

def partVS (g : Nat) : Value := .iface 266 (.pointer (some ⟨g, 0, none⟩))
def partOS (gf : Nat) : Obj := .cells #[.iface 223 (.pointer (some ⟨gf, 0, none⟩))] 268 (0, 0)
def codeOS (c : Int) : Obj := .cells #[.int .i64 c] 226 (0, 0)

/-- An error of a home, in memory. -/
def ErrS (W : World) (g : Nat) (c : Int) : Prop := ∃ gf, W.heap[g]? = some (partOS gf) ∧ W.heap[gf]? = some (codeOS c)

theorem ErrS.stay {W W' : World} {g : Nat} {c : Int} (h : ErrS W g c) (hb : Below W.heap.size W W') : ErrS W' g c := by
  obtain ⟨gf, h1, h2⟩ := h
  exact ⟨gf, (hb.block _ (Array.getElem?_eq_some_iff.1 h1).1).trans h1, (hb.block _ (Array.getElem?_eq_some_iff.1 h2).1).trans h2⟩

theorem bad_nilS (w : World) : Calls Tryz.prog 148 #[.int .i64 0] w fun e w' => e = .returned .nilIface ∧ w = w' := by
  go_enter Tryz.func148, Tryz.ntmps148
  go_wp2
  go_ret
  exact ⟨rfl, rfl⟩

theorem bad_noS (c : Int) (hc : (c == 0) = false) (w : World) : Calls Tryz.prog 148 #[.int .i64 c] w fun e w' => ∃ g, e = .returned (partVS g) ∧ ErrS w' g c ∧ Below w.heap.size w w' := by
  have H := St.nil NoBlk NoBlk w
  have hc2 : ¬ c = 0 := beq_eq_false_iff_ne.1 hc
  have tok : True := trivial
  go_enter Tryz.func148, Tryz.ntmps148
  go_wp2_with (first
    | (have _t := tok; clear _t; refine wpList_box_st H rfl 226 _ rfl (.agg #[.int .i64 c]) rfl ?_; clear H tok; intro W gf H; simp only [List.nil_append] at H)
    | (refine wpList_box_st H rfl 268 _ rfl (.agg #[.iface 223 (.pointer (some ⟨gf, 0, none⟩))]) rfl ?_; clear H; intro W g H))
  go_ret
  exact ⟨g, rfl, ⟨gf, H.at 1 rfl, H.at 0 rfl⟩, H.fix.below⟩

/-- errors.As of a part, into a variable of ours. -/
theorem as_part {M0 R0 : Nat → Prop} {w0 W : World} {L : List Asrt} (H : St M0 R0 w0 W L) (i : Nat) {gt : Nat} {old : Value} (hi : L[i]? = some (blk gt (.cells #[old] 223 (0, 0)))) (hg : errA.prop W) (g gf : Nat) (hp : W.heap[g]? = some (partOS gf)) :
    Calls Tryz.prog 102 #[partVS g, .iface 224 (.pointer (some ⟨gt, 0, none⟩))] W fun ev w' => ev = .returned (.bool true) ∧ St M0 R0 w0 w' (L.set i (blk gt (.cells #[.pointer (some ⟨gf, 0, none⟩)] 223 (0, 0)))) := by
  have hb : W.heap[gt]? = some (.cells #[old] 223 (0, 0)) := H.at i hi
  have hc : W.cell? ⟨gt, 0, none⟩ = some old := by rw [cell_of_row W gt 0 _ _ _ hb]; rfl
  have hf : W.frozen? ⟨gt, 0, none⟩ = false := frozen_of_row W gt 0 _ _ hb
  have hpc : W.cell? ⟨g, 0, none⟩ = some (.iface 223 (.pointer (some ⟨gf, 0, none⟩))) := by rw [cell_of_row W g 0 _ _ _ hp]; rfl
  refine (as_hitS ⟨g, 0, none⟩ ⟨gf, 0, none⟩ ⟨gt, 0, none⟩ old W hpc hg.2 hc hf).mono ?_
  rintro ev w' ⟨rfl, rfl⟩
  refine ⟨rfl, ?_⟩
  have H1 := (((H.stay (Fix.alloc NoBlk _ (.cells #[.pointer (some ⟨gt, 0, none⟩)] 224))).stay (Fix.alloc NoBlk _ (.cells #[.pointer (some ⟨2, 224, none⟩), .pointer (some ⟨W.heap.size, 0, none⟩), .int .u64 150] 207))).stay (Fix.alloc NoBlk _ (.cells #[.pointer (some ⟨2, 224, none⟩), .pointer (some ⟨W.heap.size, 0, none⟩), .int .u64 150] 207))).stay (Fix.alloc NoBlk _ (.cells #[.pointer (some ⟨gf, 0, none⟩)] 223))
  exact H1.setCell i hi 0 _

theorem code_errS (g : Nat) (c : Int) (w : World) (hg : errA.prop w) (he : ErrS w g c) :
    Calls Tryz.prog 112 #[partVS g] w fun e w' => e = .returned (.int .i64 c) ∧ Below w.heap.size w w' := by
  obtain ⟨gf, h1, h2⟩ := he
  have H : St NoBlk (fun _ => True) w w [errA, imm g (partOS gf), imm gf (codeOS c)] := St.reads_only [errA, imm g (partOS gf), imm gf (codeOS c)] (by
    intro B hB
    simp only [List.mem_cons, List.not_mem_nil, or_false] at hB
    rcases hB with rfl | rfl | rfl
    · exact ⟨hg, fun _ h => h⟩
    · exact ⟨h1, fun _ h => h⟩
    · exact ⟨h2, fun _ h => h⟩)
  clear hg h1 h2
  unfold partVS
  go_enter Tryz.func112, Tryz.ntmps112
  go_wp2_with (first
    | (refine wpList_alloc_st H rfl 223 rfl _ zero_faultS1 ?_; clear H; intro W gv H; simp only [List.cons_append, List.nil_append] at H)
    | (go_at_call 102; go_loud ((refine (as_part H 3 rfl (H.at 0 rfl) g gf (H.at 1 rfl)).mono ?_); rintro e W' ⟨rfl, H1⟩; clear H; have H := H1; clear H1; simp only [List.set_cons_zero, List.set_cons_succ] at H))
    | (refine wpList_load1_st rfl 223 _ rfl _ _ rfl _ _ _ (H.at 3 rfl) _ Tryz.underlying223 rfl _ rfl ?_)
    | (refine wpList_load1_st rfl 31 _ rfl _ _ rfl _ _ _ (H.at 2 rfl : _ = some (codeOS c)) _ Tryz.underlying31 rfl _ rfl ?_))
  go_ret
  exact ⟨rfl, H.fix.below⟩

end Go.Proofs.YtlgciddnpinpbaaGreatDoor

namespace Go.Proofs.YtlgciddnpinpbaaGreatDoor
open Go.RowKit
set_option linter.unusedSimpArgs false
set_option linter.unusedVariables false
set_option maxRecDepth 40000

section
variable {ops : Array Oper} {rest : List Oper} {o : Oper} {a : Act} {Q : Exit → Act → World → Prop} {M0 R0 : Nat → Prop} {w0 W : World} {L : List Asrt}
/-- A byte is stored among bytes of ours. -/
theorem wpList_storeB (H : St M0 R0 w0 W L) (i : Nat) (hwt : Region.wanted o (yielded ops a.tmps) = true) (ty : TypeId) (x y : Operand) (ho : o.op = .store ty x y) (g off q : Nat) (l : List UInt8) (hx : a.eval x = .pointer (some ⟨g, off + q, none⟩))
    (u : UInt8) (hy : a.eval y = .int .u8 (u.toNat : Int)) (hi : L[i]? = some (ownB g off l)) (hn : (Tryz.prog.info? ty).map (·.size) = some 1) (hq : q < l.length)
    (h : ∀ W', St M0 R0 w0 W' (L.set i (ownB g off (l.set q u))) → wpList Tryz.prog ops Q rest (a.put o.dst undef) W') : wpList Tryz.prog ops Q (o :: rest) a W := by
  obtain ⟨pre, junk, h1, h2⟩ := (H.at i hi : (ownB g off l).prop W)
  have hil : i < L.length := (List.getElem?_eq_some_iff.1 hi).1
  have H1 := H.recast i hi (A' := blk g (.cells (pre ++ byteV l ++ junk).toArray 5 (0, 0))) (fun _ => h2) (fun k hk => hk) (fun k hk => hk.elim)
  refine wpList_store1_st H1 i hwt ty x y ho g (off + q) _ hx hy rfl _ _ (by rw [List.getElem?_set_self hil]) hn (by simp; omega) (fun W' H2 => ?_)
  rw [List.set_set] at H2
  have e : (pre ++ byteV l ++ junk).toArray.setIfInBounds (off + q) (.int .u8 (u.toNat : Int)) = (pre ++ byteV (l.set q u) ++ junk).toArray := by
    rw [List.setIfInBounds_toArray, List.append_assoc, List.set_append_right _ _ (by omega), h1, Nat.add_sub_cancel_left, List.set_append_left _ _ (by simpa using hq)]
    simp [byteV]
  rw [e] at H2
  have H3 := H2.recast i (A := blk g (.cells (pre ++ byteV (l.set q u) ++ junk).toArray 5 (0, 0))) (A' := ownB g off (l.set q u)) (by rw [List.getElem?_set_self hil]) (fun hp => ⟨pre, junk, h1, hp⟩) (fun k hk => hk) (fun k hk => hk.elim)
  rw [List.set_set] at H3
  exact h W' H3
end

/-- A transaction, its log, where it lies. -/
structure TX where
  t : LogT
  x : TxT
  g : Nat
def TX.L (s : TX) : List Asrt := s.t.L s.x.gl ++ s.x.L s.g
def TX.n (s : TX) : Nat := s.t.n
def TX.v (s : TX) (k : Nat) : List UInt8 := s.x.view s.t k
/-- A home, and whether the transaction wrote it. -/
def TX.V (s : TX) (k : Nat) : List UInt8 × Bool := (s.v k, (s.x.f k).isSome)
structure TX.Ok (s : TX) (c : Nat) : Prop where
  ok : s.t.Ok c
  over : s.x.over = false
  n : s.x.n = s.t.n
  lens : ∀ k, k < s.n → (s.v k).length = 248

/-- What writing makes of it. -/
structure TX.To (s s' : TX) (c : Nat) (v' : Nat → List UInt8 × Bool) : Prop where
  ok : s'.Ok c
  t : s'.t = s.t
  g : s'.g = s.g
  gl : s'.x.gl = s.x.gl
  V : ∀ k, k < s.n → s'.V k = v' k

theorem TX.To.v {s s' : TX} {c : Nat} {v' : Nat → List UInt8 × Bool} (h : s.To s' c v') (k : Nat) (hk : k < s.n) : s'.v k = (v' k).1 := congrArg Prod.fst (h.V k hk)
theorem TX.To.refl {s : TX} {c : Nat} (h : s.Ok c) : s.To s c s.V := ⟨h, rfl, rfl, rfl, fun _ _ => rfl⟩
theorem TX.To.n {s s' : TX} {c : Nat} {v' : Nat → List UInt8 × Bool} (h : s.To s' c v') : s'.n = s.n := by unfold TX.n; rw [h.t]

/-- One home is written. -/
def updV (v : Nat → List UInt8 × Bool) (i : Nat) (l : List UInt8) (k : Nat) : List UInt8 × Bool := if k = i then (l, true) else v k

theorem rd_TX {w : World} {s : TX} {c : Nat} (hb : Bundle w s.L) (h : s.Ok c) (z : Int) (k : Nat) (hz : (k : Int) = z) (hk : k < s.n) :
    Calls Tryz.prog 19 #[.pointer (some ⟨s.g, 0, none⟩), .int .i64 z] w fun e w' => ∃ gc off cap, e = .returned (.tuple #[.slice (some ⟨gc, off, none⟩) 248 cap, .int .i64 0]) ∧ (s.v k).length = 248 ∧ 248 ≤ cap ∧ w.heap.size ≤ gc ∧
      BunTo w (ownL s.L) (rdL s.L) (s.L ++ [ownB gc off (s.v k)]) w' :=
  tread_in hb h.ok h.over h.n z k hz hk

theorem wr_TX {w : World} {s : TX} {c : Nat} {B : Asrt} (hb : Bundle w (s.L ++ [B])) (h : s.Ok c) (z : Int) (k : Nat) (hz : (k : Int) = z) (hk : k < s.n)
    {g0 off cap : Nat} {l : List UInt8} (hB : ∀ W, B.prop W → BytesAt W g0 off l ∧ g0 < W.heap.size) (hl : l.length = 248) :
    Calls Tryz.prog 17 #[.pointer (some ⟨s.g, 0, none⟩), .int .i64 z, .slice (some ⟨g0, off, none⟩) 248 cap] w fun e w' => e = .returned (.int .i64 0) ∧ ∃ s', s.To s' c (updV s.V k l) ∧
      BunTo w (ownL (s.L ++ [B])) (rdL (s.L ++ [B])) (s'.L ++ [B]) w' := by
  refine (twrite_ok hb h.ok h.over h.n z k hz hk hB hl).mono ?_
  rintro e w' ⟨rfl, M', rm', hto⟩
  have hv : ∀ j, TX.V ⟨s.t, s.x.wrote k l M' rm', s.g⟩ j = updV s.V k l j := fun j => by
    show ((s.x.wrote k l M' rm').view s.t j, (if j = k then some l else s.x.f j).isSome) = if j = k then (l, true) else s.V j
    rw [view_wrote]
    by_cases e : j = k
    · simp only [if_pos e, Option.isSome_some]
    · simp only [if_neg e]; rfl
  refine ⟨rfl, ⟨s.t, s.x.wrote k l M' rm', s.g⟩, ⟨⟨h.ok, h.over, h.n, fun j hj => ?_⟩, rfl, rfl, rfl, fun j _ => hv j⟩, hto⟩
  rw [show TX.v ⟨s.t, s.x.wrote k l M' rm', s.g⟩ j = (updV s.V k l j).1 from congrArg Prod.fst (hv j)]
  unfold updV
  split
  · exact hl
  · exact h.lens j hj

theorem homes_TX {w : World} {s : TX} {c : Nat} (hb : Bundle w s.L) (h : s.Ok c) {z : Int} (hz : (s.n : Int) = z) :
    Calls Tryz.prog 27 #[.pointer (some ⟨s.g, 0, none⟩)] w fun e w' => e = .returned (.int .i64 z) ∧ BunTo w (ownL s.L) (rdL s.L) s.L w' :=
  thomes_calls hb h.ok hz

theorem TX.Ok.nn {s : TX} {c : Nat} (h : s.Ok c) : 8 ≤ s.n ∧ s.n ≤ 1900 := ⟨h.ok.fine.n1, h.ok.nn⟩

/-- The space's count of homes. -/
theorem shomes_TX {w : World} {s : TX} {c : Nat} (hb : Bundle w s.L) (h : s.Ok c) {z : Int} (hz : (s.n : Int) = z) :
    Calls Tryz.prog 75 #[.pointer (some ⟨s.g, 0, none⟩)] w fun e w' => e = .returned (.int .i64 z) ∧ BunTo w (ownL s.L) (rdL s.L) s.L w' := by
  subst hz
  have HH := Lib.hid (homes_TX hb h (z := (s.n : Int)) rfl)
  have hn : (s.n : Int) ≤ 1900 := by have := h.nn; omega
  clear hb h
  obtain ⟨n, hnn⟩ : ∃ n, s.n = n := ⟨_, rfl⟩
  rw [hnn] at hn HH ⊢
  have hmin : min (n : Int) 1984 = (n : Int) := by omega
  go_enter Tryz.func75, Tryz.ntmps75
  go_wp2_with (first
    | (go_at_call 27; go_loud ((refine HH.out.mono ?_); rintro e W ⟨rfl, hto⟩)))
  go_ret
  exact ⟨rfl, hto⟩

set_option maxHeartbeats 1000000 in
/-- A bit is turned, and written. -/
theorem turns_TX {w : World} {s : TX} {c : Nat} {gc off cap : Nat} {l : List UInt8} (hb : Bundle w (s.L ++ [ownB gc off l])) (h : s.Ok c) (hc : 248 ≤ cap) (hl : l.length = 248) (z : Int) (i : Nat) (hz : (i : Int) = z) (hi : i < 1984) :
    Calls Tryz.prog 113 #[.pointer (some ⟨s.g, 0, none⟩), .slice (some ⟨gc, off, none⟩) 248 cap, .int .i64 z] w fun e w' => e = .returned .nilIface ∧ ∃ s', s.To s' c (updV s.V 1 (turnB l i)) ∧
      BunTo w (ownL (s.L ++ [ownB gc off l])) (rdL (s.L ++ [ownB gc off l])) (s'.L ++ [ownB gc off (turnB l i)]) w' := by
  subst hz
  have H := hb.open_
  have HO := Lib.hid h
  have hi0 : 0 ≤ (i : Int) := by omega
  have hi9 : (i : Int) < 1984 := by omega
  obtain ⟨q, hq⟩ : ∃ q, i / 8 = q := ⟨_, rfl⟩
  obtain ⟨r, hr⟩ : ∃ r, i % 8 = r := ⟨_, rfl⟩
  have hqt : ((i : Int)).tdiv 8 = (q : Int) := by rw [Int.tdiv_eq_ediv_of_nonneg (by omega)]; omega
  have hst : ((i : Int)).tmod 8 = (r : Int) := by rw [Int.tmod_eq_emod_of_nonneg (by omega)]; omega
  have hq2 : (q : Int) < 248 := by omega
  have hq0 : 0 ≤ (q : Int) := by omega
  have hr2 : (r : Int) < 8 := by omega
  have hr0 : 0 ≤ (r : Int) := by omega
  have hql : q < l.length := by omega
  have hcell := (ownB_bytes (H.at 7 rfl : (ownB gc off l).prop w)) q hql
  obtain ⟨b, hbb⟩ : ∃ b, l[q] = b := ⟨_, rfl⟩
  rw [hbb] at hcell
  have hblt : (b.toNat : Int) < 256 := by have := b.toNat_lt; omega
  have hb0 : 0 ≤ (b.toNat : Int) := by omega
  obtain ⟨u, hu⟩ : ∃ u : UInt8, UInt8.ofNat (b.toNat ^^^ 2 ^ r) = u := ⟨_, rfl⟩
  have hx8 : b.toNat ^^^ 2 ^ r < 256 := xor_lt _ _ b.toNat_lt (by omega)
  have hp8 : 2 ^ r < 256 := Nat.lt_of_lt_of_le (Nat.pow_lt_pow_right (by omega) (show r < 8 by omega)) (by decide : 2 ^ 8 ≤ 256)
  have hbits : bits .xor .u8 (b.toNat : Int) (2 ^ r % 256) = (u.toNat : Int) := by
    have e0 : (2 : Int) ^ r = ((2 ^ r : Nat) : Int) := by push_cast; rfl
    have e1 : ((2 : Int) ^ r % 256) = ((2 ^ r : Nat) : Int) := by
      rw [e0]
      exact Int.emod_eq_of_lt (Int.natCast_nonneg _) (by exact_mod_cast hp8)
    rw [e1, u8_xor_nat _ _ b.toNat_lt hp8, ← hu, UInt8.toNat_ofNat_of_lt' hx8]
  have HT := Lib.hid (show l.set q u = turnB l i by
    unfold turnB
    rw [hq, hr, ← hu, ← hbb]
    simp [hql])
  have HQ := Lib.hid hql
  have HL := Lib.hid hl
  clear hb h hu hx8 hp8 hbb hq hr
  go_enter Tryz.func113, Tryz.ntmps113
  go_wp2_with (first
    | (refine wpList_storeB H 7 rfl 5 _ _ rfl gc off q l rfl u (by rw [← hbits]; rfl) rfl size_u8 HQ.out ?_; clear H; intro W H; rw [HT.out] at H; replace H : St _ _ w _ (s.L ++ [ownB gc off (turnB l i)]) := H)
    | (go_at_call 17; go_loud ((refine (wr_TX (s := s) H.bundle HO.out _ 1 rfl (by have := HO.out.nn; omega) (fun W h => ⟨ownB_bytes h, ownB_lt h⟩) ((turnB_len l i).trans HL.out)).mono ?_); rintro e W ⟨rfl, s', hs', hto⟩; replace H := hto.front (R := []) (by rw [List.append_nil]; exact H); clear hto; rw [List.append_nil] at H))
    | (go_at_call 148; (with_reducible refine (bad_nilS _).mono ?_); rintro e W' ⟨rfl, rfl⟩))
  go_ret
  exact ⟨rfl, s', hs', H.bunTo⟩

end Go.Proofs.YtlgciddnpinpbaaGreatDoor

namespace Go.Proofs.YtlgciddnpinpbaaGreatDoor
open Go.RowKit
set_option linter.unusedSimpArgs false
set_option linter.unusedVariables false
set_option maxRecDepth 40000

set_option maxHeartbeats 2000000 in
/-- takes: home i is the lowest one that is free. -/
theorem takes_ok {w : World} {s : TX} {c : Nat} (hb : Bundle w s.L) (h : s.Ok c) (i : Nat) (h2 : 2 ≤ i) (hi : i < s.n) (hfree : hasB (s.v 1) i = false) (htak : ∀ j, 2 ≤ j → j < i → hasB (s.v 1) j = true) :
    Calls Tryz.prog 147 #[.pointer (some ⟨s.g, 0, none⟩)] w fun e w' => e = .returned (.tuple #[.int .i64 (i : Int), .nilIface]) ∧ ∃ s', s.To s' c (updV s.V 1 (turnB (s.v 1) i)) ∧
      BunTo w (ownL s.L) (rdL s.L) s'.L w' := by
  have H := hb.open_
  obtain ⟨O, hO⟩ : ∃ O, ownL s.L = O := ⟨_, rfl⟩
  obtain ⟨R, hR⟩ : ∃ R, rdL s.L = R := ⟨_, rfl⟩
  rw [hO, hR] at H ⊢
  have HO := Lib.hid h
  have H1 := Lib.hid (show 1 < s.n by have := h.nn; omega)
  obtain ⟨l, hl⟩ : ∃ l, s.v 1 = l := ⟨_, rfl⟩
  rw [hl] at hfree htak ⊢
  have HL := Lib.hid hl
  have HLL := Lib.hid (show l.length = 248 by rw [← hl]; exact h.lens 1 (by have := h.nn; omega))
  have HF := Lib.hid hfree
  have HTK := Lib.hid htak
  have HI := Lib.hid hi
  have HI2 := Lib.hid h2
  have HN := Lib.hid h.nn.2
  clear hb h hfree htak hi h2 hO hR hl
  go_enter Tryz.func147, Tryz.ntmps147
  go_wp2_with (first
    | (go_at_call 19; go_loud ((refine (rd_TX (s := s) H.bundle HO.out _ 1 rfl H1.out).mono ?_); rintro e W ⟨gc, off, cap, rfl, _, hcap, hgc, hto⟩; replace H := hto.front (R := []) (by rw [List.append_nil]; exact H); clear hto; rw [List.append_nil, HL.out] at H)))
  have HC := Lib.hid hcap
  go_loopw [6] (fun u wr => ∃ j : Nat, u = .int .i64 (j : Int) ∧ 2 ≤ j ∧ j ≤ i ∧ St O R w wr (s.L ++ [ownB gc off l])) (fun u _ => i + 1 - (intOf u).toNat)
  case atStart => exact ⟨2, rfl, Nat.le_refl _, HI2.out, H⟩
  case round =>
    clear H hcap hgc
    obtain ⟨j, rfl, hj2, hji, H⟩ := hrel
    have hjn : (j : Int) < (s.n : Int) := by have := HI.out; omega
    have hj0 : 0 ≤ (j : Int) := by omega
    have hj9 : (j : Int) < 1900 := by have := HI.out; have := HN.out; omega
    rcases Nat.lt_or_ge j i with hlt | hge
    · have HH := Lib.hid (HTK.out j hj2 hlt)
      have HJ := Lib.hid hlt
      go_wp2_with (first
        | (go_at_call 75; go_loud ((refine (shomes_TX (s := s) (H.take 7).bundle HO.out rfl).mono ?_); rintro e W ⟨rfl, hto⟩; replace H := hto.front (R := [ownB gc off l]) H; clear hto))
        | (go_at_call 76; go_loud ((refine (has_calls gc off cap l _ j rfl (by have := HI.out; have := HN.out; omega) _ (ownB_bytes (H.at 7 rfl)) HLL.out HC.out).mono ?_); rintro e W' ⟨rfl, rfl⟩; rw [HH.out])))
      go_roundw
      case rel => exact ⟨j + 1, congrArg _ (by omega), by omega, HJ.out, H⟩
      case measure => have := HJ.out; simp [intOf]; omega
    · obtain rfl : j = i := by omega
      go_wp2_with (first
        | (go_at_call 75; go_loud ((refine (shomes_TX (s := s) (H.take 7).bundle HO.out rfl).mono ?_); rintro e W ⟨rfl, hto⟩; replace H := hto.front (R := [ownB gc off l]) H; clear hto))
        | (go_at_call 76; go_loud ((refine (has_calls gc off cap l _ j rfl (by have := HI.out; have := HN.out; omega) _ (ownB_bytes (H.at 7 rfl)) HLL.out HC.out).mono ?_); rintro e W' ⟨rfl, rfl⟩; rw [HF.out]))
        | (go_at_call 113; go_loud ((refine (turns_TX (s := s) H.bundle HO.out HC.out HLL.out _ j rfl (by have := HI.out; have := HN.out; omega)).mono ?_); rintro e W ⟨rfl, s', hs', hto⟩; replace H := (hto.front (R := []) (by rw [List.append_nil]; exact H)).take 7; clear hto)))
      refine bodyPost_ret (results_tmp2 rfl _ _ _) rfl ?_
      exact ⟨rfl, s', hs', H.bunTo⟩

set_option maxHeartbeats 2000000 in
theorem takes_full {w : World} {s : TX} {c : Nat} (hb : Bundle w s.L) (h : s.Ok c) (htak : ∀ j, 2 ≤ j → j < s.n → hasB (s.v 1) j = true) :
    Calls Tryz.prog 147 #[.pointer (some ⟨s.g, 0, none⟩)] w fun e w' => ∃ ge, e = .returned (.tuple #[.int .i64 0, partVS ge]) ∧ ErrS w' ge 9 ∧ BunTo w (ownL s.L) (rdL s.L) s.L w' := by
  have H := hb.open_
  obtain ⟨O, hO⟩ : ∃ O, ownL s.L = O := ⟨_, rfl⟩
  obtain ⟨R, hR⟩ : ∃ R, rdL s.L = R := ⟨_, rfl⟩
  rw [hO, hR] at H ⊢
  have HO := Lib.hid h
  have H1 := Lib.hid (show 1 < s.n by have := h.nn; omega)
  obtain ⟨l, hl⟩ : ∃ l, s.v 1 = l := ⟨_, rfl⟩
  rw [hl] at htak
  have HL := Lib.hid hl
  have HLL := Lib.hid (show l.length = 248 by rw [← hl]; exact h.lens 1 (by have := h.nn; omega))
  have HTK := Lib.hid htak
  have HN := Lib.hid h.nn
  clear hb h htak hO hR hl
  go_enter Tryz.func147, Tryz.ntmps147
  go_wp2_with (first
    | (go_at_call 19; go_loud ((refine (rd_TX (s := s) H.bundle HO.out _ 1 rfl H1.out).mono ?_); rintro e W ⟨gc, off, cap, rfl, _, hcap, hgc, hto⟩; replace H := hto.front (R := []) (by rw [List.append_nil]; exact H); clear hto; rw [List.append_nil, HL.out] at H)))
  have HC := Lib.hid hcap
  go_loopw [6] (fun u wr => ∃ j : Nat, u = .int .i64 (j : Int) ∧ 2 ≤ j ∧ j ≤ s.n ∧ St O R w wr (s.L ++ [ownB gc off l])) (fun u _ => s.n - (intOf u).toNat)
  case atStart => exact ⟨2, rfl, Nat.le_refl _, by have := HN.out; omega, H⟩
  case round =>
    clear H hcap hgc
    obtain ⟨j, rfl, hj2, hji, H⟩ := hrel
    have hj0 : 0 ≤ (j : Int) := by omega
    have hj9 : (j : Int) ≤ 1900 := by have := HN.out; omega
    rcases Nat.lt_or_ge j s.n with hlt | hge
    · have hjn : (j : Int) < (s.n : Int) := by omega
      have HH := Lib.hid (HTK.out j hj2 hlt)
      have HJ := Lib.hid hlt
      go_wp2_with (first
        | (go_at_call 75; go_loud ((refine (shomes_TX (s := s) (H.take 7).bundle HO.out rfl).mono ?_); rintro e W ⟨rfl, hto⟩; replace H := hto.front (R := [ownB gc off l]) H; clear hto))
        | (go_at_call 76; go_loud ((refine (has_calls gc off cap l _ j rfl (by have := HJ.out; have := HN.out; omega) _ (ownB_bytes (H.at 7 rfl)) HLL.out HC.out).mono ?_); rintro e W' ⟨rfl, rfl⟩; rw [HH.out])))
      go_roundw
      case rel => exact ⟨j + 1, congrArg _ (by omega), by omega, HJ.out, H⟩
      case measure => have := HJ.out; simp [intOf]; omega
    · obtain rfl : j = s.n := by omega
      have hjn : ¬ ((s.n : Int) < (s.n : Int)) := by omega
      go_wp2_with (first
        | (go_at_call 75; go_loud ((refine (shomes_TX (s := s) (H.take 7).bundle HO.out rfl).mono ?_); rintro e W ⟨rfl, hto⟩; replace H := hto.front (R := [ownB gc off l]) H; clear hto))
        | (go_at_call 148; go_loud ((refine (bad_noS 9 rfl _).mono ?_); rintro e W ⟨ge, rfl, hge, hbl⟩; replace H := (H.stay (Fix.of_below hbl _)).take 7; unfold partVS)))
      refine bodyPost_ret (results_tmp2 rfl _ _ _) rfl ?_
      exact ⟨ge, rfl, hge, H.bunTo⟩

theorem Take_ok {w : World} {s : TX} {c : Nat} (hb : Bundle w s.L) (h : s.Ok c) (i : Nat) (h2 : 2 ≤ i) (hi : i < s.n) (hfree : hasB (s.v 1) i = false) (htak : ∀ j, 2 ≤ j → j < i → hasB (s.v 1) j = true) :
    Calls Tryz.prog 110 #[.pointer (some ⟨s.g, 0, none⟩)] w fun e w' => e = .returned (.tuple #[.int .i64 (i : Int), .int .i64 0]) ∧ ∃ s', s.To s' c (updV s.V 1 (turnB (s.v 1) i)) ∧
      BunTo w (ownL s.L) (rdL s.L) s'.L w' := by
  have HT := Lib.hid (takes_ok hb h i h2 hi hfree htak)
  clear hb h h2 hi hfree htak
  go_enter Tryz.func110, Tryz.ntmps110
  go_wp2_with (first
    | (go_at_call 147; go_loud ((refine HT.out.mono ?_); rintro e W ⟨rfl, s', hs', hto⟩)))
  refine bodyPost_ret (results_tmp2 rfl _ _ _) rfl ?_
  exact ⟨rfl, s', hs', hto⟩

theorem Take_full {w : World} {s : TX} {c : Nat} (hb : Bundle w (s.L ++ [errA])) (h : s.Ok c) (htak : ∀ j, 2 ≤ j → j < s.n → hasB (s.v 1) j = true) :
    Calls Tryz.prog 110 #[.pointer (some ⟨s.g, 0, none⟩)] w fun e w' => e = .returned (.tuple #[.int .i64 0, .int .i64 9]) ∧ BunTo w (ownL (s.L ++ [errA])) (rdL (s.L ++ [errA])) (s.L ++ [errA]) w' := by
  have H := hb.open_
  have HO := Lib.hid h
  have HT := Lib.hid htak
  clear hb h htak
  go_enter Tryz.func110, Tryz.ntmps110
  go_wp2_with (first
    | (go_at_call 147; go_loud ((refine (takes_full (s := s) (H.take 7).bundle HO.out HT.out).mono ?_); rintro e W ⟨ge, rfl, hge, hto⟩; replace H := hto.front (R := [errA]) H; clear hto; unfold partVS))
    | (go_at_call 112; go_loud ((refine (code_errS ge 9 _ (H.at 7 rfl) hge).mono ?_); rintro e W2 ⟨rfl, hbl⟩; replace H := H.stay (Fix.of_below hbl _); clear hbl)))
  refine bodyPost_ret (results_tmp2 rfl _ _ _) rfl ?_
  exact ⟨rfl, H.bunTo⟩

end Go.Proofs.YtlgciddnpinpbaaGreatDoor

namespace Go.Proofs.YtlgciddnpinpbaaGreatDoor
open Go.RowKit
set_option linter.unusedSimpArgs false
set_option linter.unusedVariables false
set_option maxRecDepth 40000

/-- The root's home. -/
def rootB (r v : Nat) : List UInt8 := (Lib.leBytes 4 r ++ Lib.leBytes 8 v) ++ List.replicate 236 0
theorem rootB_len (r v : Nat) : (rootB r v).length = 248 := by simp [rootB, Lib.leBytes_length]

set_option maxHeartbeats 2000000 in
theorem SetRoot_ok {w : World} {s : TX} {c : Nat} (hb : Bundle w s.L) (h : s.Ok c) (zr zv : Int) (r v : Nat) (hzr : (r : Int) = zr) (hzv : (v : Int) = zv) (hr : r < 4294967296) (hv : v < 18446744073709551616) :
    Calls Tryz.prog 87 #[.pointer (some ⟨s.g, 0, none⟩), .int .u32 zr, .int .u64 zv] w fun e w' => e = .returned (.int .i64 0) ∧ ∃ s', s.To s' c (updV s.V 0 (rootB r v)) ∧
      BunTo w (ownL s.L) (rdL s.L) s'.L w' := by
  subst hzr hzv
  have H := hb.open_
  obtain ⟨O, hO⟩ : ∃ O, ownL s.L = O := ⟨_, rfl⟩
  obtain ⟨R, hR⟩ : ∃ R, rdL s.L = R := ⟨_, rfl⟩
  rw [hO, hR] at H ⊢
  have HO := Lib.hid h
  have H1 := Lib.hid (show 0 < s.n by have := h.nn; omega)
  have HR := Lib.hid hr
  have HV := Lib.hid hv
  have hri : (r : Int) < 4294967296 := by omega
  have hr0 : 0 ≤ (r : Int) := by omega
  have tok1 : True := trivial
  have hz : (List.replicate 236 (Value.int .u8 0)) = byteV (List.replicate 236 0) := by simp [byteV]
  have HZ := Lib.hid hz
  clear hb h hO hR hz hr hv
  go_enter Tryz.func87, Tryz.ntmps87
  go_wp2_with (first
    | (go_at_call 111; have _t := tok1; clear _t; go_loud ((refine (put_at _ [] _ _ r 4 4 _ (.inl ⟨rfl, rfl⟩) rfl rfl (by simp) (by simp) (by omega) (by omega) (by have := HR.out; omega)).mono ?_); rintro e W1 ⟨g1, cap1, junk1, rfl, hl1, hc1, hj1, hm1, hg1, hb1, hbl⟩; replace H := H.add (Fix.of_below hbl _) (blk g1 _) hb1 (fun k hk => by rw [show k = g1 from hk]; exact hg1) (fun k hk => hk.elim); clear hb1 hbl tok1; simp only [List.nil_append] at H hl1 hj1))
    | (go_at_call 111; go_loud ((refine (put_at _ (Lib.leBytes 4 r) _ _ v 8 12 _ (argS_front (H.at 7 rfl) hl1 hc1) rfl rfl (by rw [hl1]) (by rw [hl1]; omega) (by omega) (by omega) HV.out).mono ?_); rintro e W2 ⟨g2, cap2, junk2, rfl, hl2, hc2, hj2, hm2, hg2, hb2, hbl⟩; replace H := (H.take 7).add (Fix.of_below hbl _) (blk g2 _) hb2 (fun k hk => by rw [show k = g2 from hk]; exact hg2) (fun k hk => hk.elim); clear hb2 hbl))
    | (refine wpList_appz_st H 7 rfl _ _ 22 3 rfl _ Tryz.underlying22 _ Tryz.underlying3 _ _ info_u8 rfl rfl g2 12 cap2 rfl _ rfl hc2 hj2 hm2 _ 236 rfl (by omega) (by simp only [maxLen]; omega) (by omega) ?_; clear H; intro W g5 cap5 junk5 H hj5 hc5 hm5; rw [take_byteV _ _ _ hl2, HZ.out] at H hj5; rw [show byteV (Lib.leBytes 4 r ++ Lib.leBytes 8 v) ++ byteV (List.replicate 236 0) = byteV (rootB r v) by simp [byteV, rootB]] at H hj5; replace H := H.recast 7 (A' := ownB g5 0 (rootB r v)) rfl (fun h => ownB_of_row h) (fun k hk => hk) (fun k hk => hk.elim); replace H : St O R w _ (s.L ++ [ownB g5 0 (rootB r v)]) := H)
    | (go_at_call 17; go_loud ((refine (wr_TX (s := s) H.bundle HO.out _ 0 rfl H1.out (fun W h => ⟨ownB_bytes h, ownB_lt h⟩) (rootB_len r v)).mono ?_); rintro e W ⟨rfl, s', hs', hto⟩; replace H := (hto.front (R := []) (by rw [List.append_nil]; exact H)).take 7; clear hto)))
  go_ret
  exact ⟨rfl, s', hs', H.bunTo⟩

theorem leNat_lt' : ∀ l : List UInt8, Lib.leNat l < 256 ^ l.length
  | [] => by simp [Lib.leNat]
  | b :: l => by
    have h1 := leNat_lt' l
    have h2 := b.toNat_lt
    rw [Lib.leNat, List.length_cons, Nat.pow_succ]
    omega


theorem le_root (r v : Nat) (hr : r < 4294967296) (hv : v < 18446744073709551616) : le (rootB r v) 0 4 = r ∧ le (rootB r v) 4 8 = v := by
  refine ⟨?_, ?_⟩
  · have := le_at [] (Lib.leBytes 4 r) (Lib.leBytes 8 v ++ List.replicate 236 0) 0 4 r rfl rfl (by omega)
    simpa [rootB, List.append_assoc] using this
  · have := le_at (Lib.leBytes 4 r) (Lib.leBytes 8 v) (List.replicate 236 0) 4 8 v (Lib.leBytes_length 4 r) rfl (by omega)
    simpa [rootB, List.append_assoc] using this

/-- The bits of a new space. -/
def newB : List UInt8 := 3 :: List.replicate 247 0
theorem newB_len : newB.length = 248 := by simp [newB]
theorem hasB_new (i : Nat) : hasB newB i = decide (i < 2) := by
  unfold hasB bitB newB
  by_cases h : i < 2
  · simp [h]
  · have e : (3 :: List.replicate 247 (0 : UInt8)).getD (i / 8) 0 = if i / 8 = 0 then 3 else 0 := by
      rcases hq : i / 8 with _ | q
      · rfl
      · rw [if_neg (by omega)]
        show (List.replicate 247 (0 : UInt8)).getD q 0 = 0
        rw [List.getD_eq_getElem?_getD, List.getElem?_replicate]
        split <;> rfl
    rw [e]
    simp only [h, decide_false, Bool.false_or]
    split
    · have h8 : i < 8 := by omega
      have : i % 8 = i := Nat.mod_eq_of_lt h8
      rw [this]
      have hc : i = 2 ∨ i = 3 ∨ i = 4 ∨ i = 5 ∨ i = 6 ∨ i = 7 := by omega
      rcases hc with rfl | rfl | rfl | rfl | rfl | rfl <;> rfl
    · simp

theorem threes : (byteV (List.replicate 248 (0 : UInt8))).toArray.setIfInBounds 0 (.int .u8 3) = (byteV newB ++ []).toArray := by
  rw [List.append_nil]
  exact byteV_set (List.replicate 248 0) 0 3

theorem TX.To.then {s s1 s2 : TX} {c : Nat} {v1 v2 : Nat → List UInt8 × Bool} (h1 : s.To s1 c v1) (i : Nat) (l : List UInt8) (h2 : s1.To s2 c (updV s1.V i l)) (hv : ∀ k, k < s.n → updV v1 i l k = v2 k) : s.To s2 c v2 :=
  ⟨h2.ok, h2.t.trans h1.t, h2.g.trans h1.g, h2.gl.trans h1.gl, fun k hk => by
    rw [h2.V k (by rw [h1.n]; exact hk), ← hv k hk]
    unfold updV
    split
    · rfl
    · exact h1.V k hk⟩

set_option maxHeartbeats 2000000 in
theorem Format_ok {w : World} {s : TX} {c : Nat} (hb : Bundle w s.L) (h : s.Ok c) :
    Calls Tryz.prog 48 #[.pointer (some ⟨s.g, 0, none⟩)] w fun e w' => e = .returned (.int .i64 0) ∧ ∃ s', s.To s' c (updV (updV s.V 0 (rootB 0 1)) 1 newB) ∧ BunTo w (ownL s.L) (rdL s.L) s'.L w' := by
  have H := hb.open_
  obtain ⟨O, hO⟩ : ∃ O, ownL s.L = O := ⟨_, rfl⟩
  obtain ⟨R, hR⟩ : ∃ R, rdL s.L = R := ⟨_, rfl⟩
  rw [hO, hR] at H ⊢
  have HO := Lib.hid h
  clear hb h hO hR
  go_enter Tryz.func48, Tryz.ntmps48
  go_wp2_with (first
    | (go_at_call 87; go_loud ((refine (SetRoot_ok (s := s) H.bundle HO.out _ _ 0 1 rfl rfl (by omega) (by omega)).mono ?_); rintro e W ⟨rfl, s1, hs1, hto⟩; replace H := hto.front (R := []) (by rw [List.append_nil]; exact H); clear hto; rw [List.append_nil] at H; have HS1 := Lib.hid hs1; clear hs1; have HG := HS1.out.g))
    | (refine wpList_make2_st H rfl 22 _ _ rfl _ Tryz.underlying22 _ _ info_u8 rfl 248 248 rfl rfl (by omega) (by omega) (by simp only [maxLen]; omega) ?_; clear H; intro W gz H; rw [show List.replicate 248 (Value.int .u8 0) = byteV (List.replicate 248 0) by simp [byteV]] at H)
    | (refine wpList_store1_st H 7 rfl 5 _ _ rfl _ _ (.int .u8 3) rfl rfl rfl _ _ rfl size_u8 (by simp) ?_; clear H; intro W H; replace H : St O R w _ (s1.L ++ [blk gz (.cells ((byteV (List.replicate 248 (0 : UInt8))).toArray.setIfInBounds 0 (.int .u8 3)) 5 (0, 0))]) := H; rw [threes] at H; replace H := H.recast 7 (A' := ownB gz 0 newB) rfl (fun h => ownB_of_row h) (fun k hk => hk) (fun k hk => hk.elim); replace H : St O R w _ (s1.L ++ [ownB gz 0 newB]) := H)
    | (go_at_call 17; rw [← HG]; go_loud ((refine (wr_TX (s := s1) H.bundle HS1.out.ok _ 1 rfl (by have := HS1.out.ok.nn; omega) (fun W h => ⟨ownB_bytes h, ownB_lt h⟩) newB_len).mono ?_); rintro e W ⟨rfl, s2, hs2, hto⟩; replace H := (hto.front (R := []) (by rw [List.append_nil]; exact H)).take 7; clear hto)))
  go_ret
  exact ⟨rfl, s2, HS1.out.then 1 newB hs2 (fun k hk => rfl), H.bunTo⟩

end Go.Proofs.YtlgciddnpinpbaaGreatDoor

namespace Go.Proofs.YtlgciddnpinpbaaGreatDoor
open Go.RowKit
set_option linter.unusedSimpArgs false
set_option linter.unusedVariables false
set_option maxRecDepth 40000

set_option maxHeartbeats 2000000 in
theorem Free_okS {w : World} {s : TX} {c : Nat} (hb : Bundle w s.L) (h : s.Ok c) (z : Int) (i : Nat) (hz : (i : Int) = z) (h2 : 2 ≤ i) (hi : i < s.n) (htak : hasB (s.v 1) i = true) :
    Calls Tryz.prog 78 #[.pointer (some ⟨s.g, 0, none⟩), .int .i64 z] w fun e w' => e = .returned (.int .i64 0) ∧ ∃ s', s.To s' c (updV s.V 1 (turnB (s.v 1) i)) ∧ BunTo w (ownL s.L) (rdL s.L) s'.L w' := by
  subst hz
  have H := hb.open_
  obtain ⟨O, hO⟩ : ∃ O, ownL s.L = O := ⟨_, rfl⟩
  obtain ⟨R, hR⟩ : ∃ R, rdL s.L = R := ⟨_, rfl⟩
  rw [hO, hR] at H ⊢
  have HO := Lib.hid h
  have H1 := Lib.hid (show 1 < s.n by have := h.nn; omega)
  obtain ⟨l, hl⟩ : ∃ l, s.v 1 = l := ⟨_, rfl⟩
  rw [hl] at htak ⊢
  have HL := Lib.hid hl
  have HLL := Lib.hid (show l.length = 248 by rw [← hl]; exact h.lens 1 (by have := h.nn; omega))
  have HT := Lib.hid htak
  have HN := Lib.hid h.nn.2
  have HI := Lib.hid hi
  have hi2 : ¬ ((i : Int) < 2) := by omega
  have hi3 : ¬ ((s.n : Int) ≤ (i : Int)) := by omega
  have hi4 : decide ((s.n : Int) ≤ (i : Int)) = false := decide_eq_false hi3
  clear hb h htak hO hR hl hi h2
  go_enter Tryz.func78, Tryz.ntmps78
  go_wp2_with (first
    | (go_at_call 19; go_loud ((refine (rd_TX (s := s) H.bundle HO.out _ 1 rfl H1.out).mono ?_); rintro e W ⟨gc, off, cap, rfl, _, hcap, hgc, hto⟩; replace H := hto.front (R := []) (by rw [List.append_nil]; exact H); clear hto; rw [List.append_nil, HL.out] at H))
    | (go_at_call 75; go_loud ((refine (shomes_TX (s := s) (H.take 7).bundle HO.out rfl).mono ?_); rintro e W ⟨rfl, hto⟩; replace H := hto.front (R := [ownB gc off l]) H; clear hto))
    | (go_at_call 76; go_loud ((refine (has_calls gc off cap l _ i rfl (by have := HI.out; have := HN.out; omega) _ (ownB_bytes (H.at 7 rfl)) HLL.out hcap).mono ?_); rintro e W' ⟨rfl, rfl⟩; rw [HT.out]))
    | (go_at_call 113; go_loud ((refine (turns_TX (s := s) H.bundle HO.out hcap HLL.out _ i rfl (by have := HI.out; have := HN.out; omega)).mono ?_); rintro e W ⟨rfl, s', hs', hto⟩; replace H := (hto.front (R := []) (by rw [List.append_nil]; exact H)).take 7; clear hto))
    | (go_at_call 112; go_loud ((refine (code_nilS _).mono ?_); rintro e W3 ⟨rfl, hbl⟩; replace H := H.stay (Fix.of_below hbl _); clear hbl)))
  go_ret
  exact ⟨rfl, s', hs', H.bunTo⟩

set_option maxHeartbeats 2000000 in
theorem Free_noS {w : World} {s : TX} {c : Nat} (hb : Bundle w s.L) (h : s.Ok c) (z : Int) (hz : z < 2 ∨ (s.n : Int) ≤ z ∨ hasB (s.v 1) z.toNat = false) :
    Calls Tryz.prog 78 #[.pointer (some ⟨s.g, 0, none⟩), .int .i64 z] w fun e w' => e = .returned (.int .i64 1) ∧ BunTo w (ownL s.L) (rdL s.L) s.L w' := by
  have H := hb.open_
  obtain ⟨O, hO⟩ : ∃ O, ownL s.L = O := ⟨_, rfl⟩
  obtain ⟨R, hR⟩ : ∃ R, rdL s.L = R := ⟨_, rfl⟩
  rw [hO, hR] at H ⊢
  have HO := Lib.hid h
  have H1 := Lib.hid (show 1 < s.n by have := h.nn; omega)
  obtain ⟨l, hl⟩ : ∃ l, s.v 1 = l := ⟨_, rfl⟩
  rw [hl] at hz
  have HL := Lib.hid hl
  have HLL := Lib.hid (show l.length = 248 by rw [← hl]; exact h.lens 1 (by have := h.nn; omega))
  have HN := Lib.hid h.nn.2
  clear hb h hO hR hl
  by_cases h2 : z < 2
  · have f0 : decide (z < 2) = true := decide_eq_true h2
    clear hz
    go_enter Tryz.func78, Tryz.ntmps78
    go_wp2_with (first
      | (go_at_call 19; go_loud ((refine (rd_TX (s := s) H.bundle HO.out _ 1 rfl H1.out).mono ?_); rintro e W ⟨gc, off, cap, rfl, _, hcap, hgc, hto⟩; replace H := hto.front (R := []) (by rw [List.append_nil]; exact H); clear hto; rw [List.append_nil, HL.out] at H)))
    go_ret
    exact ⟨rfl, St.bunTo (H.take 7)⟩
  · have f0 : decide (z < 2) = false := decide_eq_false h2
    by_cases h3 : (s.n : Int) ≤ z
    · have f1 : decide ((s.n : Int) ≤ z) = true := decide_eq_true h3
      clear hz
      go_enter Tryz.func78, Tryz.ntmps78
      go_wp2_with (first
        | (go_at_call 19; go_loud ((refine (rd_TX (s := s) H.bundle HO.out _ 1 rfl H1.out).mono ?_); rintro e W ⟨gc, off, cap, rfl, _, hcap, hgc, hto⟩; replace H := hto.front (R := []) (by rw [List.append_nil]; exact H); clear hto; rw [List.append_nil, HL.out] at H))
        | (go_at_call 75; go_loud ((refine (shomes_TX (s := s) (H.take 7).bundle HO.out rfl).mono ?_); rintro e W ⟨rfl, hto⟩; replace H := hto.front (R := [ownB gc off l]) H; clear hto)))
      go_ret
      exact ⟨rfl, St.bunTo (H.take 7)⟩
    · have f1 : decide ((s.n : Int) ≤ z) = false := decide_eq_false h3
      have h4 : hasB l z.toNat = false := (hz.resolve_left h2).resolve_left h3
      obtain ⟨i, rfl⟩ := Int.eq_ofNat_of_zero_le (show 0 ≤ z by omega)
      have HT := Lib.hid (show hasB l i = false from h4)
      have HI := Lib.hid (show i < s.n by omega)
      clear hz h4
      go_enter Tryz.func78, Tryz.ntmps78
      go_wp2_with (first
        | (go_at_call 19; go_loud ((refine (rd_TX (s := s) H.bundle HO.out _ 1 rfl H1.out).mono ?_); rintro e W ⟨gc, off, cap, rfl, _, hcap, hgc, hto⟩; replace H := hto.front (R := []) (by rw [List.append_nil]; exact H); clear hto; rw [List.append_nil, HL.out] at H))
        | (go_at_call 75; go_loud ((refine (shomes_TX (s := s) (H.take 7).bundle HO.out rfl).mono ?_); rintro e W ⟨rfl, hto⟩; replace H := hto.front (R := [ownB gc off l]) H; clear hto))
        | (go_at_call 76; go_loud ((refine (has_calls gc off cap l _ i rfl (by have := HI.out; have := HN.out; omega) _ (ownB_bytes (H.at 7 rfl)) HLL.out hcap).mono ?_); rintro e W' ⟨rfl, rfl⟩; rw [HT.out])))
      go_ret
      exact ⟨rfl, St.bunTo (H.take 7)⟩

/-- How many homes are free. -/
def leftOf (l : List UInt8) (n : Nat) : Nat := ((List.range n).filter fun i => !hasB l i).length
theorem leftOf_succ (l : List UInt8) (n : Nat) : leftOf l (n + 1) = leftOf l n + if hasB l n then 0 else 1 := by
  unfold leftOf
  rw [List.range_succ, List.filter_append, List.length_append]
  cases h : hasB l n <;> simp [h]
theorem leftOf_le (l : List UInt8) (n : Nat) : leftOf l n ≤ n := by
  have := List.length_filter_le (fun i => !hasB l i) (List.range n)
  rw [List.length_range] at this
  exact this

set_option maxHeartbeats 2000000 in
theorem Left_ok {w : World} {s : TX} {c : Nat} (hb : Bundle w s.L) (h : s.Ok c) :
    Calls Tryz.prog 32 #[.pointer (some ⟨s.g, 0, none⟩)] w fun e w' => e = .returned (.tuple #[.int .i64 (leftOf (s.v 1) s.n : Int), .int .i64 0]) ∧ BunTo w (ownL s.L) (rdL s.L) s.L w' := by
  have H := hb.open_
  obtain ⟨O, hO⟩ : ∃ O, ownL s.L = O := ⟨_, rfl⟩
  obtain ⟨R, hR⟩ : ∃ R, rdL s.L = R := ⟨_, rfl⟩
  rw [hO, hR] at H ⊢
  have HO := Lib.hid h
  have H1 := Lib.hid (show 1 < s.n by have := h.nn; omega)
  obtain ⟨l, hl⟩ : ∃ l, s.v 1 = l := ⟨_, rfl⟩
  have HL := Lib.hid hl
  have HLL := Lib.hid (show l.length = 248 by rw [← hl]; exact h.lens 1 (by have := h.nn; omega))
  rw [hl]
  have HN := Lib.hid h.nn
  clear hb h hO hR hl
  go_enter Tryz.func32, Tryz.ntmps32
  go_wp2_with (first
    | (go_at_call 19; go_loud ((refine (rd_TX (s := s) H.bundle HO.out _ 1 rfl H1.out).mono ?_); rintro e W ⟨gc, off, cap, rfl, _, hcap, hgc, hto⟩; replace H := hto.front (R := []) (by rw [List.append_nil]; exact H); clear hto; rw [List.append_nil, HL.out] at H))
    | (go_at_call 75; go_loud ((refine (shomes_TX (s := s) (H.take 7).bundle HO.out rfl).mono ?_); rintro e W ⟨rfl, hto⟩; replace H := hto.front (R := [ownB gc off l]) H; clear hto)))
  have HC := Lib.hid hcap
  go_loopw [6, 7, 18] (fun f _ u wr => ∃ j : Nat, u = .int .i64 (j : Int) ∧ f = .int .i64 (leftOf l j : Int) ∧ j ≤ s.n ∧ St O R w wr (s.L ++ [ownB gc off l])) (fun _ _ u _ => s.n - (intOf u).toNat)
  case atStart => exact ⟨0, rfl, rfl, Nat.zero_le _, H⟩
  case round =>
    clear H hcap hgc
    obtain ⟨j, rfl, rfl, hj, H⟩ := hrel
    have hj0 : 0 ≤ (j : Int) := by omega
    have hj9 : (j : Int) ≤ 1900 := by have := HN.out; omega
    rcases Nat.lt_or_ge j s.n with hlt | hge
    · have hjn : (j : Int) < (s.n : Int) := by omega
      have HJ := Lib.hid hlt
      have HLS := Lib.hid (leftOf_succ l j)
      obtain ⟨q, hq⟩ : ∃ q, leftOf l j = q := ⟨_, rfl⟩
      have hq9 : (q : Int) ≤ 1900 := by have := leftOf_le l j; omega
      have hq0 : 0 ≤ (q : Int) := by omega
      rw [hq] at HLS ⊢
      clear hq
      cases hh : hasB l j with
      | true =>
        have HH := Lib.hid hh
        clear hh
        go_wp2_with (first
          | (go_at_call 76; go_loud ((refine (has_calls gc off cap l _ j rfl (by have := HJ.out; have := HN.out; omega) _ (ownB_bytes (H.at 7 rfl)) HLL.out HC.out).mono ?_); rintro e W' ⟨rfl, rfl⟩; rw [HH.out])))
        go_roundw
        case rel => exact ⟨j + 1, congrArg _ (by omega), by rw [HLS.out, HH.out]; rfl, HJ.out, H⟩
        case measure => have := HJ.out; simp [intOf]; omega
      | false =>
        have HH := Lib.hid hh
        clear hh
        go_wp2_with (first
          | (go_at_call 76; go_loud ((refine (has_calls gc off cap l _ j rfl (by have := HJ.out; have := HN.out; omega) _ (ownB_bytes (H.at 7 rfl)) HLL.out HC.out).mono ?_); rintro e W' ⟨rfl, rfl⟩; rw [HH.out])))
        go_roundw
        case rel => exact ⟨j + 1, congrArg _ (by omega), by rw [HLS.out, HH.out]; rfl, HJ.out, H⟩
        case measure => have := HJ.out; simp [intOf]; omega
    · obtain rfl : j = s.n := by omega
      have hjn : ¬ ((s.n : Int) < (s.n : Int)) := by omega
      go_wp2
      refine bodyPost_ret (results_tmp2 rfl _ _ _) rfl ?_
      exact ⟨rfl, St.bunTo (H.take 7)⟩

end Go.Proofs.YtlgciddnpinpbaaGreatDoor

namespace Go.Proofs.YtlgciddnpinpbaaGreatDoor
open Go.RowKit
set_option linter.unusedSimpArgs false
set_option linter.unusedVariables false
set_option maxRecDepth 40000

/-- A transaction that is new, on a log that is. -/
theorem TX.new_ok {t : LogT} {gd n ring : Nat} (hn : LogT.New t gd n ring) (gl gm g : Nat) : TX.Ok ⟨t, TxT.new gl gm n, g⟩ 0 ∧ ∀ k, k < n → TX.v ⟨t, TxT.new gl gm n, g⟩ k = noHome :=
  ⟨⟨hn.ok, rfl, hn.n.symm, fun k hk => by
    show (t.hom k).length = 248
    rw [hn.hom k (by rw [← hn.n]; exact hk)]; exact noHome_len⟩, fun k hk => hn.hom k hk⟩

/-- The bits behind a format. -/
theorem v1_format {s s' : TX} {c : Nat} (h : s.To s' c (updV (updV s.V 0 (rootB 0 1)) 1 newB)) (hc : s.Ok c) : s'.v 1 = newB := by
  rw [h.v 1 (by have := hc.nn; omega)]; rfl

theorem hasB_turn {l : List UInt8} {i j : Nat} (hl : l.length = 248) (hi : i < 1984) (hj : 2 ≤ j) : hasB (turnB l i) j = if j = i then !hasB l j else hasB l j := by
  unfold hasB
  rw [bitB_turn l i j (by omega)]
  have : ¬ j < 2 := by omega
  simp only [this, decide_false, Bool.false_or]
  by_cases e : j = i
  · subst e; simp
  · simp [e]


end Go.Proofs.YtlgciddnpinpbaaGreatDoor

namespace Go.Proofs.YtlgciddnpinpbaaGreatDoor
open Go.RowKit
set_option linter.unusedSimpArgs false
set_option linter.unusedVariables false
set_option maxRecDepth 40000

/-- Which homes are taken. -/
def HasF (s : TX) (f : Nat → Bool) : Prop := ∀ k, 2 ≤ k → k < s.n → hasB (s.v 1) k = f k

theorem HasF.turn {s s' : TX} {c : Nat} {f : Nat → Bool} (h : HasF s f) (hc : s.Ok c) (i : Nat) (hs : s.To s' c (updV s.V 1 (turnB (s.v 1) i))) (hi : i < s.n) : HasF s' (fun k => if k = i then !f k else f k) := by
  intro k h2 hk
  rw [hs.n] at hk
  have hnn := hc.nn
  rw [hs.v 1 (by omega)]
  show hasB (turnB (s.v 1) i) k = _
  rw [hasB_turn (hc.lens 1 (by omega)) (by omega) h2, h k h2 hk]

theorem info_bool : (Tryz.prog.info? 4).map (fun i => (i.zero, i.size, i.bytes)) = some (some (.bool false), 1, 1) := by kernel_rfl

theorem bools_set (fs : List Bool) (i : Nat) (b : Bool) : (fs.map Value.bool).toArray.setIfInBounds i (.bool b) = ((fs.set i b).map Value.bool).toArray := by simp [List.map_set]

theorem getDb_set (fs : List Bool) (i k : Nat) (b : Bool) (hi : i < fs.length) : (fs.set i b).getD k false = if k = i then b else fs.getD k false := by
  rw [List.getD_eq_getElem?_getD, List.getElem?_set]
  by_cases e : i = k
  · subst e; simp [hi]
  · have : ¬ k = i := fun x => e x.symm
    simp [e, this]

theorem bool_at (fs : List Bool) (k : Nat) (hk : k < fs.length) {b : Bool} (h : fs.getD k false = b) : (fs.map Value.bool).toArray[k]? = some (.bool b) := by
  rw [← h, List.getD_eq_getElem?_getD]
  simp [hk]

theorem rdA_cell {W : World} {g off : Nat} {xs : List Value} (h : (rdA (some ⟨g, off, none⟩) xs).prop W) {i : Nat} {x : Value} (hi : xs[i]? = some x) : W.cell? ⟨g, off + i, none⟩ = some x := by
  obtain ⟨g', off', e, hc⟩ := rdA_at h hi
  cases e
  exact hc

theorem leBytes_get : ∀ (k v n : Nat), n < k → (Lib.leBytes k v)[n]? = some ((v / 256 ^ n % 256).toUInt8)
  | 0, v, n, h => by omega
  | k + 1, v, 0, h => by simp [Lib.leBytes]
  | k + 1, v, n + 1, h => by
    rw [Lib.leBytes, List.getElem?_cons_succ, leBytes_get k (v / 256) n (by omega), Nat.div_div_eq_div_mul, Nat.pow_succ, Nat.mul_comm]

theorem rootB_r (r v n : Nat) (h : n < 4) : (rootB r v)[n]? = some ((r / 256 ^ n % 256).toUInt8) := by
  unfold rootB
  rw [List.append_assoc, List.getElem?_append_left (by rw [Lib.leBytes_length]; exact h)]
  exact leBytes_get 4 r n h

theorem rootB_v (r v n : Nat) (h : n < 8) : (rootB r v)[4 + n]? = some ((v / 256 ^ n % 256).toUInt8) := by
  unfold rootB
  rw [List.getElem?_append_left (by simp [Lib.leBytes_length]; omega), List.getElem?_append_right (by rw [Lib.leBytes_length]; omega), Lib.leBytes_length, Nat.add_sub_cancel_left]
  exact leBytes_get 8 v n h

theorem BytesAt.cellv {W : World} {g off : Nat} {l : List UInt8} (h : BytesAt W g off l) {i : Nat} {b : UInt8} (hi : l[i]? = some b) : W.cell? ⟨g, off + i, none⟩ = some (.int .u8 (b.toNat : Int)) := by
  obtain ⟨h1, h2⟩ := List.getElem?_eq_some_iff.1 hi
  rw [← h2]; exact h i h1

theorem HasF.keep {s s' : TX} {c : Nat} {f : Nat → Bool} {l : List UInt8} (h : HasF s f) (hc : s.Ok c) (hs : s.To s' c (updV s.V 0 l)) : HasF s' f := by
  intro k h2 hk
  rw [hs.n] at hk
  have hnn := hc.nn
  rw [hs.v 1 (by omega)]
  exact h k h2 hk

theorem quad (r : Nat) (h : r < 4294967296) : r / 256 ^ 0 % 256 + r / 256 ^ 1 % 256 * 256 + r / 256 ^ 2 % 256 * 65536 + r / 256 ^ 3 % 256 * 16777216 = r := by
  have e0 : r / 256 ^ 0 = r := by simp
  have e1 : r / 256 ^ 1 = r / 256 := by simp
  have e2 : r / 256 ^ 2 = r / 65536 := by simp
  have e3 : r / 256 ^ 3 = r / 16777216 := by simp
  rw [e0, e1, e2, e3]; omega

/-- Block g is ours, and begins with these values. -/
def ownV (T : TypeId) (g : Nat) (xs : List Value) : Asrt where
  own k := k = g
  rd _ := False
  prop W := ∃ junk : List Value, W.heap[g]? = some (.cells (xs ++ junk).toArray T (0, 0))
  stable W W' h hp := by
    obtain ⟨junk, h2⟩ := hp
    exact ⟨junk, (h g (.inl rfl)).trans h2⟩
  bound W hp k hk := by
    obtain ⟨junk, h2⟩ := hp
    rcases hk with rfl | hk
    · exact (Array.getElem?_eq_some_iff.1 h2).1
    · exact hk.elim

theorem ownV_cell {W : World} {T : TypeId} {g : Nat} {xs : List Value} (h : (ownV T g xs).prop W) {i : Nat} {x : Value} (hi : xs[i]? = some x) : W.cell? ⟨g, i, none⟩ = some x := by
  obtain ⟨junk, h2⟩ := h
  refine row_cell h2 ?_
  rw [List.getElem?_toArray, List.getElem?_append_left (List.getElem?_eq_some_iff.1 hi).1]
  exact hi

theorem ownV_rd {W : World} {T : TypeId} {g : Nat} {xs : List Value} (h : (ownV T g xs).prop W) : (rdA (some ⟨g, 0, none⟩) xs).prop W :=
  .inr ⟨g, 0, rfl, (ownV T g xs).bound W h g (.inl rfl), fun i x hi => by rw [Nat.zero_add]; exact ownV_cell h hi⟩

section
variable {ops : Array Oper} {rest : List Oper} {o : Oper} {a : Act} {Q : Exit → Act → World → Prop} {M0 R0 : Nat → Prop} {w0 W : World} {L : List Asrt} {P : Program} {S : World → Prop}
/-- A value is stored among values of ours (in a region). -/
theorem wp_storeV {K : Act → World → Prop} (H : St M0 R0 w0 W L) (i : Nat) (ty : TypeId) (x y : Operand) (ho : o.op = .store ty x y) (T : TypeId) (g q : Nat) (xs : List Value) (hx : a.eval x = .pointer (some ⟨g, q, none⟩))
    (u : Value) (hy : a.eval y = u) (hu1 : u.oneCell' = true) (hi : L[i]? = some (ownV T g xs)) (hn : (P.info? ty).map (·.size) = some 1) (hq : q < xs.length)
    (h : ∀ W', St M0 R0 w0 W' (L.set i (ownV T g (xs.set q u))) → K (a.put o.dst undef) W') : o.wp P a W K Q := by
  obtain ⟨junk, h2⟩ := (H.at i hi : (ownV T g xs).prop W)
  have hil : i < L.length := (List.getElem?_eq_some_iff.1 hi).1
  have H1 := H.recast i hi (A' := blk g (.cells (xs ++ junk).toArray T (0, 0))) (fun _ => h2) (fun k hk => hk) (fun k hk => hk.elim)
  refine wp_store1_st H1 i ty x y ho g q _ hx hy hu1 _ _ (by rw [List.getElem?_set_self hil]) hn (by simp; omega) (fun W' H2 => ?_)
  rw [List.set_set] at H2
  have e : (xs ++ junk).toArray.setIfInBounds q u = (xs.set q u ++ junk).toArray := by
    rw [List.setIfInBounds_toArray, List.set_append_left _ _ hq]
  rw [e] at H2
  have H3 := H2.recast i (A := blk g (.cells (xs.set q u ++ junk).toArray T (0, 0))) (A' := ownV T g (xs.set q u)) (by rw [List.getElem?_set_self hil]) (fun hp => ⟨junk, hp⟩) (fun k hk => hk) (fun k hk => hk.elim)
  rw [List.set_set] at H3
  exact h W' H3

theorem wpList_storeV (H : St M0 R0 w0 W L) (i : Nat) (hwt : Region.wanted o (yielded ops a.tmps) = true) (ty : TypeId) (x y : Operand) (ho : o.op = .store ty x y) (T : TypeId) (g q : Nat) (xs : List Value) (hx : a.eval x = .pointer (some ⟨g, q, none⟩))
    (u : Value) (hy : a.eval y = u) (hu1 : u.oneCell' = true) (hi : L[i]? = some (ownV T g xs)) (hn : (P.info? ty).map (·.size) = some 1) (hq : q < xs.length)
    (h : ∀ W', St M0 R0 w0 W' (L.set i (ownV T g (xs.set q u))) → wpList P ops Q rest (a.put o.dst undef) W') : wpList P ops Q (o :: rest) a W :=
  wpList_want hwt fun K hK => wp_storeV H i ty x y ho T g q xs hx u hy hu1 hi hn hq fun W' H' => hK _ _ (h W' H')
end

end Go.Proofs.YtlgciddnpinpbaaGreatDoor
