/- The disk's Write that is done. -/
import Derived.Test.YtajlhloapglafaaGreatDoorDk6
namespace Go.Proofs.YtajlhloapglafaaGreatDoor
open Go.RowKit
set_option linter.unusedSimpArgs false
set_option linter.unusedVariables false
set_option maxRecDepth 4000

theorem row_cell {W : World} {g off : Nat} {cs : Array Value} {t : TypeId} {fr : Nat × Nat} {v : Value} (hg : W.heap[g]? = some (.cells cs t fr)) (hv : cs[off]? = some v) : W.cell? ⟨g, off, none⟩ = some v := by
  rw [cell_of_row W g off _ t fr hg]; exact hv

/-- The map is stored into. -/
theorem St.mapStore {M0 R0 : Nat → Prop} {w0 W : World} {L : List Asrt} (H : St M0 R0 w0 W L) (i : Nat) {gm : Nat} {M : DataW Value} (hi : L[i]? = some (mapA gm (Go.Maps.size M) M)) (hs : Go.Maps.size M ≤ 1900) (k : Nat) (hk : k < 1048576) (v : Value) :
    ∃ W', (Instr.mapUpdate 74 (.map (some gm)) (.int .i64 (k : Int)) v).run Tryz.prog W = .ok () W' ∧ St M0 R0 w0 W' (L.set i (mapA gm (Go.Maps.size (M.put (keyI k) (.held v))) (M.put (keyI k) (.held v)))) := by
  obtain ⟨W', hrun, hown, hturn⟩ := (H.at i hi : W.ownsMap Tryz.prog 3 RV gm (Go.Maps.size M) M).store keyedInt Tryz.underlying74 (by simp only [maxLen]; omega) (keyI_is hk) (val := v) (d := .held v) (ps := []) rfl
  refine ⟨W', hrun, H.step i hi (Fix.turned hturn) (ownsMap_fit hown) ⟨fun _ h => .inl h, fun _ h => h.elim⟩⟩

theorem clone_256 {w : World} {g off cap : Nat} {l : List UInt8} (hb : BytesAt w g off l) (hl : l.length = 256) (hlt : g < w.heap.size) :
    Calls Tryz.prog 54 #[.slice (some ⟨g, off, none⟩) 256 cap] w fun e w' => ∃ gc capc junk, e = .returned (.slice (some ⟨gc, 0, none⟩) 256 capc) ∧ 256 ≤ capc ∧ w.heap.size ≤ gc ∧
      w'.heap[gc]? = some (.cells (byteV l ++ junk).toArray 5 (0, 0)) ∧ Below w.heap.size w w' := by
  have := clone_part (cap := cap) hb (p := 256) (by omega) (by omega) hlt
  rw [List.take_of_length_le (by omega)] at this
  exact this

/-- One more sector waits. -/
theorem PayIs.put {W : World} {rd : Nat → Prop} {rows : List Value} {last : List (List UInt8)} {M : DataW Value} {wait : Nat → Option (List UInt8)} {tv : Value} {torn : List UInt8} (h : PayIs W rd rows last M wait tv torn) (hM : Go.Maps.IsMap M)
    {gc capc : Nat} {l : List UInt8} {junk : List Value} {t : TypeId} {fr : Nat × Nat} (hl : l.length = 256) (hc : 256 ≤ capc) (hg : W.heap[gc]? = some (.cells (byteV l ++ junk).toArray t fr)) (k : Nat) (hk : k < last.length) :
    PayIs W (fun k => rd k ∨ k = gc) rows last (M.put (keyI k) (.held (.slice (some ⟨gc, 0, none⟩) 256 capc))) (fun j => if j = k then some l else wait j) tv torn := by
  have h' := h.same (W' := W) (rd' := fun k => rd k ∨ k = gc) (fun k hk => ⟨rfl, .inl hk⟩) (fun k hk => by
    rcases hk with hk | rfl
    · exact h.lt k hk
    · exact (Array.getElem?_eq_some_iff.1 hg).1)
  refine ⟨h'.sect, fun kl hkl => ?_, fun j => ?_, h'.torn, h'.lt⟩
  · by_cases e : kl = keyI k
    · exact ⟨k, hk, e⟩
    · rw [Go.Maps.has_put_other e] at hkl
      exact h.keys kl hkl
  · by_cases e : j = k
    · subst e
      refine .inr ⟨_, l, Go.Maps.has_put_same hM (show WideAt.IsKeyLit (keyI j) from trivial) _, Go.Maps.atKey_put_same hM (show WideAt.IsKeyLit (keyI j) from trivial) _ _, by simp, hl, .inr ⟨gc, 0, capc, by rw [hl], by omega, .inr (.inr rfl), BytesAt.front hg⟩⟩
    · have e' : keyI j ≠ keyI k := fun x => e (keyI_inj x)
      rw [Go.Maps.has_put_other e', Go.Maps.atKey_put_other e']
      simp only [if_neg e]
      exact h'.waits j

theorem write_ok {w : World} {g : Nat} {D : DS} {own rd : Nat → Prop} (hd : DiskIs w g D own rd) (k : Nat) (hk : k < D.last.length) (hdd : D.dead = false) (v : Value) (l : List UInt8) (hv : ArgB w own v l) (hl : l.length = 256) (hfl : D.failsB = false) (hw : 0 ≤ D.writes ∧ D.writes < 1000000) :
    Calls Tryz.prog 20 #[.pointer (some ⟨g, 0, none⟩), .int .i64 (k : Int), v] w fun e w' => e = .returned (.int .i64 0) ∧ DiskTo w g own rd { D.failsD with wait := fun j => if j = k then some l else D.failsD.wait j, writes := D.failsD.writes + 1 } w' := by
  have hm : D.may (k : Int) = 0 := by simp [DS.may, hdd]; omega
  have HM := Lib.hid (may_calls hd (k : Int))
  have HF := Lib.hid (fails_calls hd)
  rw [hm] at HM
  rw [hfl] at HF
  obtain ⟨gb, off, cb, rfl, hc, hb, hlt⟩ := hv.is
  have hlt' : gb < w.heap.size ∧ ¬ own gb := by
    rcases hlt with rfl | h
    · simp at hl
    · exact h
  have hwr : D.failsD.writes = D.writes := by unfold DS.failsD; split <;> (try split) <;> rfl
  have hlast : D.failsD.last = D.last := by unfold DS.failsD; split <;> (try split) <;> rfl
  rw [← hlast] at hk
  rw [← hwr] at hw
  obtain ⟨hw1, hw2⟩ := hw
  have HK := Lib.hid hk
  clear hd hm hdd hv hlt hfl hwr hlast hk
  generalize D.failsD = D1 at *
  have HB := Lib.hid hb
  have HC := Lib.hid hc
  have HL := Lib.hid hl
  clear hb hc hl
  rw [HL.out]
  go_enter Tryz.func20, Tryz.ntmps20
  go_wp2_with (first
    | (go_at_call 57; (with_reducible refine (HM.out).mono ?_); rintro e W' ⟨rfl, rfl⟩)
    | (go_at_call 58; (with_reducible refine (HF.out).mono ?_); rintro e W ⟨rfl, hto⟩; obtain ⟨rd1, gl, gm, cap, rows, junk, M, tv, hf1, h3, h4, H⟩ := hto.open_)
    )
  have HS := (H.at 3 rfl : PayIs _ rd1 rows D1.last M D1.wait tv D1.torn).size_le (H.at 2 rfl)
  have hs2 := hf1.n2
  have HMp := Lib.hid (H.at 2 rfl : World.ownsMap _ Tryz.prog 3 RV gm (Go.Maps.size M) M).isMap
  replace H := H.drew
  have hcell := row_cell (H.at 0 rfl) (dRow1 _ _ _ _ _ _ _ _ _ _)
  go_region_held3 (fun w' => w'.cell? ⟨g, 1, none⟩ = some (.map (some gm))) (assumption) (first
    | (go_at_call 54; ((refine (clone_256 (HB.out.same (.inr (H.fix.block gb hlt'.1 hlt'.2))) HL.out (Nat.lt_of_lt_of_le hlt'.1 H.fix.size)).mono ?_); rintro e W2 ⟨gc, capc, junkc, rfl, hc2, hcg, hcc, hbl⟩; replace H := H.add (Fix.of_below hbl _) (blk gc _) hcc (fun k hk => by rw [show k = gc from hk]; exact hcg) (fun k hk => hk.elim); obtain ⟨W3, hrun, H3⟩ := H.mapStore 2 rfl (by omega) k (by have := HK.out; omega) (.slice (some ⟨gc, 0, none⟩) 256 capc); replace hcell := row_cell (H.at 0 rfl) (dRow1 _ _ _ _ _ _ _ _ _ _); have hcell3 := row_cell (H3.at 0 rfl) (dRow1 _ _ _ _ _ _ _ _ _ _); clear hcc hcg hbl; simp only [List.nil_append, List.cons_append] at H)))
  clear H hcell hcell3
  replace H := H3
  clear H3
  simp only [List.nil_append, List.cons_append, List.set_cons_zero, List.set_cons_succ] at H
  go_wp2_with (first
    | (refine wpList_load1_st rfl 3 _ rfl _ _ rfl _ _ _ (H.at 0 rfl) _ Tryz.underlying3 rfl _ (dRow8 _ _ _ _ _ _ _ _ _ _) ?_)
    | (refine wpList_store1_st H 0 rfl 3 _ _ rfl _ _ (.int .i64 _) rfl rfl rfl _ _ rfl rfl (by simp [dRow]) ?_; clear H; intro W H; (try simp only [cells_arrV, List.nil_append, List.cons_append, List.set_cons_zero, List.set_cons_succ] at H); try simp only [dSet1, dSet2, dSet3, dSet4, dSet5, dSet6, dSet7, dSet8, dSet9] at H))
  go_ret
  refine ⟨rfl, ?_⟩
  have J := H.join 4 3 (A' := payA (fun k => rd1 k ∨ k = gc) rows D1.last (M.put (keyI k) (.held (.slice (some ⟨gc, 0, none⟩) 256 capc))) (fun j => if j = k then some l else D1.wait j) tv D1.torn) rfl rfl
    ((H.at 3 rfl : PayIs _ rd1 rows D1.last M D1.wait tv D1.torn).put HMp.out HL.out hc2 (H.at 4 rfl) k HK.out) (fun k hk => hk.elim) (fun k hk => by
    rcases hk with hk | rfl
    · exact .inl (.inr hk)
    · exact .inr (.inl rfl))
  refine J.disk (D' := { D1 with wait := fun j => if j = k then some l else D1.wait j, writes := D1.writes + 1 }) ⟨hf1.n1, hf1.n2, hf1.len, hf1.part, hf1.way, hf1.torn, hf1.nlo, hf1.nhi⟩ gl gm cap rows junk _ _ _ h3 h4 0 1 2 3 rfl rfl rfl rfl (by decide) (by decide) (by decide) (by decide) (by decide) (by decide)

end Go.Proofs.YtajlhloapglafaaGreatDoor
