/- The disk's Write that fails. -/
import Derived.Test.YtajlhloapglafaaGreatDoorDk5
namespace Go.Proofs.YtajlhloapglafaaGreatDoor
open Go.RowKit
set_option linter.unusedSimpArgs false
set_option linter.unusedVariables false
set_option maxRecDepth 4000

theorem BytesAt.take {W : World} {g off : Nat} {l : List UInt8} (h : BytesAt W g off l) (p : Nat) : BytesAt W g off (l.take p) := by
  intro i hi
  have hi' : i < l.length := by simp at hi; omega
  have := h i hi'
  rw [this]
  simp

theorem BytesAt.front {W : World} {g : Nat} {l : List UInt8} {junk : List Value} {t : TypeId} {fr : Nat × Nat} (h : W.heap[g]? = some (.cells (byteV l ++ junk).toArray t fr)) : BytesAt W g 0 l := by
  intro i hi
  rw [cell_of_row W g _ _ t fr h]
  simp [List.getElem?_append, hi, byteV]

theorem clone_part {w : World} {g off cap p : Nat} {l : List UInt8} (hb : BytesAt w g off l) (hp : p ≤ l.length) (hl : l.length ≤ 1048576) (hlt : g < w.heap.size) :
    Calls Tryz.prog 54 #[.slice (some ⟨g, off, none⟩) p cap] w fun e w' => ∃ gc capc junk, e = .returned (.slice (some ⟨gc, 0, none⟩) p capc) ∧ p ≤ capc ∧ w.heap.size ≤ gc ∧
      w'.heap[gc]? = some (.cells (byteV (l.take p) ++ junk).toArray 5 (0, 0)) ∧ Below w.heap.size w w' := by
  have hlen : (l.take p).length = p := by simp; omega
  have := clone_calls w g off cap (l.take p) (hb.take p) (by omega) (.inr hlt)
  rw [hlen] at this
  refine this.mono ?_
  rintro e w' ⟨g', cap', junk, rfl, h5, h6, h7, h8, h9⟩
  exact ⟨g', cap', junk, rfl, h5, h7, h8, h9⟩

/-- New torn bytes. -/
theorem PayIs.tear {W : World} {rd : Nat → Prop} {rows : List Value} {last : List (List UInt8)} {M : DataW Value} {wait : Nat → Option (List UInt8)} {tv : Value} {torn : List UInt8} (h : PayIs W rd rows last M wait tv torn)
    {gc p capc : Nat} {l : List UInt8} {junk : List Value} {t : TypeId} {fr : Nat × Nat} (hp : l.length = p) (hc : p ≤ capc) (hg : W.heap[gc]? = some (.cells (byteV l ++ junk).toArray t fr)) :
    PayIs W (fun k => rd k ∨ k = gc) rows last M wait (.slice (some ⟨gc, 0, none⟩) p capc) l := by
  have h' := h.same (W' := W) (rd' := fun k => rd k ∨ k = gc) (fun k hk => ⟨rfl, .inl hk⟩) (fun k hk => by
    rcases hk with hk | rfl
    · exact h.lt k hk
    · exact (Array.getElem?_eq_some_iff.1 hg).1)
  exact ⟨h'.sect, h'.keys, h'.waits, .inr ⟨gc, 0, capc, by rw [hp], by omega, .inr (.inr rfl), BytesAt.front hg⟩, h'.lt⟩

theorem write_fail {w : World} {g : Nat} {D : DS} {own rd : Nat → Prop} (hd : DiskIs w g D own rd) (k : Nat) (hk : k < D.last.length) (hdd : D.dead = false) (v : Value) (l : List UInt8) (hv : ArgB w own v l) (hl : l.length = 256) (hfl : D.failsB = true) :
    Calls Tryz.prog 20 #[.pointer (some ⟨g, 0, none⟩), .int .i64 (k : Int), v] w fun e w' => e = .returned (.int .i64 12) ∧ DiskTo w g own rd { D.failsD with way := k, torn := l.take D.part.toNat } w' := by
  have hm : D.may (k : Int) = 0 := by simp [DS.may, hdd]; omega
  have HM := Lib.hid (may_calls hd (k : Int))
  have HF := Lib.hid (fails_calls hd)
  rw [hm] at HM
  rw [hfl] at HF
  obtain ⟨gb, off, cb, rfl, hc, hb, hlt⟩ := hv.is
  have hlt' : gb < w.heap.size ∧ ¬ own gb := by
    rcases hlt with rfl | h
    · simp at hl
    · exact h
  have hpart : D.failsD.part = D.part := by unfold DS.failsD; split <;> (try split) <;> rfl
  have hlast : D.failsD.last = D.last := by unfold DS.failsD; split <;> (try split) <;> rfl
  rw [← hpart]
  rw [← hlast] at hk
  have HK := Lib.hid hk
  clear hd hm hdd hv hlt hfl hpart hlast hk
  generalize D.failsD = D1 at *
  have HB := Lib.hid hb
  have HC := Lib.hid hc
  have HL := Lib.hid hl
  clear hb hc hl
  rw [HL.out]
  go_enter Tryz.func20, Tryz.ntmps20
  go_wp2_with (first
    | (go_at_call 57; (with_reducible refine (HM.out).mono ?_); rintro e W' ⟨rfl, rfl⟩)
    | (refine wpList_load1_st rfl 3 _ rfl _ _ rfl _ _ _ (H.at 0 rfl) _ Tryz.underlying3 rfl _ (dRow5 _ _ _ _ _ _ _ _ _ _) ?_)
    | (go_at_call 58; (with_reducible refine (HF.out).mono ?_); rintro e W ⟨rfl, hto⟩; obtain ⟨rd1, gl, gm, cap, rows, junk, M, tv, hf1, h3, h4, H⟩ := hto.open_; have hp1 := hf1.part.1; have hp2 := hf1.part.2; have hc1 : (256 : Int) ≤ (cb : Int) := by have := HC.out; rw [HL.out] at this; omega)
    | (go_at_call 54; ((refine (clone_part (HB.out.same (.inr (H.fix.block gb hlt'.1 hlt'.2))) (by rw [HL.out]; omega) (by rw [HL.out]; omega) (Nat.lt_of_lt_of_le hlt'.1 H.fix.size)).mono ?_); rintro e W2 ⟨gc, capc, junkc, rfl, hc2, hcg, hcc, hbl⟩; replace H := H.add (Fix.of_below hbl _) (blk gc _) hcc (fun k hk => by rw [show k = gc from hk]; exact hcg) (fun k hk => hk.elim); clear hcc hcg hbl; simp only [List.nil_append, List.cons_append] at H))
    | (refine wpList_store1_st H 0 rfl 3 _ _ rfl _ _ (.int .i64 _) rfl rfl rfl _ _ rfl rfl (by simp [dRow]) ?_; clear H; intro W H; (try simp only [cells_arrV, List.nil_append, List.cons_append, List.set_cons_zero, List.set_cons_succ] at H); try simp only [dSet1, dSet2, dSet3, dSet4, dSet5, dSet6, dSet7, dSet8, dSet9] at H)
    | (refine wpList_store1_st H 0 rfl 22 _ _ rfl _ _ (.slice _ _ _) rfl rfl rfl _ _ rfl rfl (by simp [dRow]) ?_; clear H; intro W H; (try simp only [cells_arrV, List.nil_append, List.cons_append, List.set_cons_zero, List.set_cons_succ] at H); try simp only [dSet1, dSet2, dSet3, dSet4, dSet5, dSet6, dSet7, dSet8, dSet9] at H))
  go_ret
  refine ⟨rfl, ?_⟩
  have hlp : (l.take D1.part.toNat).length = D1.part.toNat := by rw [List.length_take, HL.out]; omega
  have J := H.join 4 3 (A' := payA (fun k => rd1 k ∨ k = gc) rows D1.last M D1.wait (.slice (some ⟨gc, 0, none⟩) D1.part.toNat capc) (l.take D1.part.toNat)) rfl rfl ((H.at 3 rfl : PayIs _ rd1 rows D1.last M D1.wait tv D1.torn).tear hlp hc2 (H.at 4 rfl)) (fun k hk => hk.elim) (fun k hk => by
    rcases hk with hk | rfl
    · exact .inl (.inr hk)
    · exact .inr (.inl rfl))
  refine J.disk (D' := { D1 with way := k, torn := l.take D1.part.toNat }) ⟨hf1.n1, hf1.n2, hf1.len, hf1.part, ⟨by show -1 ≤ (k : Int); omega, by show (k : Int) < (D1.last.length : Int); have := HK.out; omega⟩, by show (l.take _).length ≤ _; rw [hlp]; omega, hf1.nlo, hf1.nhi⟩ gl gm cap rows junk M _ _ h3 h4 0 1 2 3 rfl rfl rfl rfl (by decide) (by decide) (by decide) (by decide) (by decide) (by decide)

end Go.Proofs.YtajlhloapglafaaGreatDoor
