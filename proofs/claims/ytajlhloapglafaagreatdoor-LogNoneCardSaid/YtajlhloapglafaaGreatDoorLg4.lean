/- The log's fill. -/
import Derived.Test.YtajlhloapglafaaGreatDoorLg3
namespace Go.Proofs.YtajlhloapglafaaGreatDoor
open Go.RowKit
set_option linter.unusedSimpArgs false
set_option linter.unusedVariables false
set_option maxRecDepth 4000

/-- Bytes that are read, and not written. -/
def byA (g off : Nat) (l : List UInt8) : Asrt where
  own _ := False
  rd k := k = g
  prop W := g < W.heap.size ∧ BytesAt W g off l
  stable W W' h hp := by
    have hg := h g (.inr rfl)
    refine ⟨?_, hp.2.same (.inr hg)⟩
    rw [Array.getElem?_eq_getElem hp.1] at hg
    exact (Array.getElem?_eq_some_iff.1 hg).1
  bound W hp k hk := by
    rcases hk with hk | rfl
    · exact hk.elim
    · exact hp.1

/-- A block becomes bytes that are read. -/
theorem St.toBy {M0 R0 : Nat → Prop} {w0 W : World} {L : List Asrt} (H : St M0 R0 w0 W L) (i : Nat) {g : Nat} {l : List UInt8} {t : TypeId} {fr : Nat × Nat} (hi : L[i]? = some (blk g (.cells (byteV l).toArray t fr))) : St M0 R0 w0 W (L.set i (byA g 0 l)) :=
  H.step i hi (Fix.refl _ _) ⟨(Array.getElem?_eq_some_iff.1 (H.at i hi : W.heap[g]? = some _)).1, BytesAt.whole (H.at i hi)⟩ ⟨fun _ h => h.elim, fun k hk => .inl hk⟩

theorem argB_by {M0 R0 : Nat → Prop} {w0 W : World} {L : List Asrt} (H : St M0 R0 w0 W L) (i j : Nat) {gd g off n cap : Nat} {D : DS} {own rd : Nat → Prop} {l : List UInt8} (hi : L[i]? = some (dA gd D own rd)) (hj : L[j]? = some (byA g off l)) (hne : i ≠ j) (hl : l.length = n) (hc : n ≤ cap) (hm : n ≤ 1048576) : ArgB W own (.slice (some ⟨g, off, none⟩) n cap) l :=
  ⟨⟨g, off, cap, by rw [hl], by omega, (H.at j hj : _ ∧ BytesAt W g off l).2, .inr ⟨(H.at j hj : _ ∧ BytesAt W g off l).1, fun ho => (H.apart i j _ _ hi hj hne).2.1 g ho rfl⟩⟩, by omega⟩

theorem argB_front {w : World} {own : Nat → Prop} {g n cap : Nat} {l : List UInt8} {junk : List Value} {t : TypeId} {fr : Nat × Nat} (hg : w.heap[g]? = some (.cells (byteV l ++ junk).toArray t fr)) (hno : ¬ own g) (hl : l.length = n) (hc : n ≤ cap) (hm : n ≤ 1048576) : ArgB w own (.slice (some ⟨g, 0, none⟩) n cap) l :=
  ⟨⟨g, 0, cap, by rw [hl], by omega, BytesAt.front hg, .inr ⟨(Array.getElem?_eq_some_iff.1 hg).1, hno⟩⟩, by omega⟩

/-- Sectors a to b - 1 are written. -/
def DS.fill (D : DS) (a b : Nat) (l : List UInt8) : DS := { D with wait := fun j => if a ≤ j ∧ j < b then some l else D.wait j, writes := D.writes + ((b - a : Nat) : Int) }

theorem DS.fill_none (D : DS) (a : Nat) (l : List UInt8) : D.fill a a l = D := by
  have : (fun j => if a ≤ j ∧ j < a then some l else D.wait j) = D.wait := by
    funext j; rw [if_neg (by omega)]
  unfold DS.fill
  rw [this, Nat.sub_self]
  simp

theorem DS.fill_put (D : DS) (a b : Nat) (h : a ≤ b) (l : List UInt8) : (D.fill a b l).put b l = D.fill a (b + 1) l := by
  have : (fun j => if j = b then some l else if a ≤ j ∧ j < b then some l else D.wait j) = fun j => if a ≤ j ∧ j < b + 1 then some l else D.wait j := by
    funext j
    by_cases e : j = b
    · rw [if_pos e, if_pos (by omega)]
    · rw [if_neg e]
      by_cases e2 : a ≤ j ∧ j < b
      · rw [if_pos e2, if_pos (by omega)]
      · rw [if_neg e2, if_neg (by omega)]
  unfold DS.fill DS.put
  simp only [this]
  congr 1
  omega

theorem Calm.fill {D : DS} {n w : Nat} (h : Calm D n w) (a b : Nat) (l : List UInt8) : Calm (D.fill a b l) n (w + (b - a)) :=
  ⟨h.len, h.dead, h.armed, by show D.writes + ((b - a : Nat) : Int) = _; rw [h.writes]; omega⟩

theorem fill_calls {w : World} {gd g off cap : Nat} {D : DS} {own rd : Nat → Prop} {l : List UInt8} (hb : Bundle w [dA gd D own rd, byA g off l]) {N u : Nat} (hc : Calm D N u) (hu : u + N < 1000000) (a b : Nat) (za zb : Int) (hza : (a : Int) = za) (hzb : (b : Int) = zb) (hab : a ≤ b) (hbN : b ≤ N) (hl : l.length = 256) (hcap : 256 ≤ cap) :
    Calls Tryz.prog 42 #[.pointer (some ⟨gd, 0, none⟩), .int .i64 za, .int .i64 zb, .slice (some ⟨g, off, none⟩) 256 cap] w fun e w' => e = .returned (.int .i64 0) ∧ ∃ own' rd',
      BunTo w (ownL [dA gd D own rd, byA g off l]) (rdL [dA gd D own rd, byA g off l]) [dA gd (D.fill a b l) own' rd', byA g off l] w' := by
  have H := hb.open_
  subst hza hzb
  have HC := Lib.hid hc
  have HU := Lib.hid hu
  have HL := Lib.hid hl
  have HP := Lib.hid hcap
  have HN := Lib.hid hbN
  have hab2 : (a : Int) ≤ (b : Int) := by omega
  clear hb hc hu hl hcap
  have hb9 : (b : Int) < 1000000 := by have := HU.out; omega
  have ha0 : 0 ≤ (a : Int) := by omega
  go_enter Tryz.func42, Tryz.ntmps42
  go_wp2
  go_loopw [9, 10] (fun i _ wr => ∃ (j : Nat) (own' rd' : Nat → Prop), i = .int .i64 (j : Int) ∧ a ≤ j ∧ j ≤ b ∧ St (ownL [dA gd D own rd, byA g off l]) (rdL [dA gd D own rd, byA g off l]) w wr [dA gd (D.fill a j l) own' rd', byA g off l]) (fun i _ _ => b - (intOf i).toNat)
  case atStart => exact ⟨a, own, rd, rfl, Nat.le_refl _, hab, by rw [DS.fill_none]; exact H⟩
  case round =>
    clear H
    obtain ⟨j, own', rd', rfl, haj, hjb, H⟩ := hrel
    rcases Nat.lt_or_ge j b with hlt | hge
    · have hji : (j : Int) < (b : Int) := by omega
      have hj0 : 0 ≤ (j : Int) := by omega
      have HJ := Lib.hid haj
      have HK := Lib.hid hlt
      clear haj hjb hlt
      go_wp2_with (first
        | (go_at_call 20; go_loud ((with_reducible refine (write_calm (H.at 0 rfl) (HC.out.fill a j l) (by have := HU.out; have := HN.out; have := HK.out; omega) _ j rfl (by have := HN.out; have := HK.out; omega) _ l (argB_by H 0 1 rfl rfl (by decide) HL.out HP.out (by omega)) HL.out).mono ?_); rintro e W ⟨rfl, hto⟩; obtain ⟨own1, rd1, H1⟩ := DiskTo.step H 0 rfl hto; clear hto H; have H := H1; clear H1; simp only [List.set_cons_zero, List.set_cons_succ] at H; rw [DS.fill_put _ _ _ HJ.out] at H)))
      go_roundw
      case rel => exact ⟨j + 1, own1, rd1, congrArg _ (by omega), by have := HJ.out; omega, HK.out, H⟩
      case measure => have := HK.out; simp [intOf]; omega
    · obtain rfl : j = b := by omega
      have hji : ¬ ((j : Int) < (j : Int)) := by omega
      go_wp2
      go_ret
      exact ⟨rfl, own', rd', H.bunTo⟩

end Go.Proofs.YtajlhloapglafaaGreatDoor
