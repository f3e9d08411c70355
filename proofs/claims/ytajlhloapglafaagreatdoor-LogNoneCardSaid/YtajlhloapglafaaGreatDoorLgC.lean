/- code of nil; the puts of a group in memory; maps of numbers. -/
import Derived.Test.YtajlhloapglafaaGreatDoorLgB
namespace Go.Proofs.YtajlhloapglafaaGreatDoor
open Go.RowKit Go.Maps
set_option linter.unusedSimpArgs false
set_option linter.unusedVariables false
set_option maxRecDepth 4000

theorem as_nil (v : Value) (w : World) : Calls Tryz.prog 86 #[.nilIface, v] w fun e w' => e = .returned (.bool false) ∧ w = w' := by
  go_enter Tryz.func86, Tryz.ntmps86
  go_wp2
  go_ret
  exact ⟨rfl, rfl⟩

theorem zero_fault : (Tryz.prog.info? 114).bind (·.zero) = some (.pointer none) := by kernel_rfl

theorem code_nil (w : World) : Calls Tryz.prog 48 #[.nilIface] w fun e w' => e = .returned (.int .i64 0) ∧ Below w.heap.size w w' := by
  have H := St.nil NoBlk NoBlk w
  go_enter Tryz.func48, Tryz.ntmps48
  go_wp2_with (first
    | (refine wpList_alloc_st H rfl 114 rfl _ zero_fault ?_; clear H; intro W gf H)
    | (go_at_call 86; (with_reducible refine (as_nil _ _).mono ?_); rintro e W' ⟨rfl, rfl⟩))
  go_ret
  exact ⟨rfl, H.fix.below⟩

/-- A put: its home, its bytes' slice, its bytes. -/
structure PutS where
  home : Nat
  val : Value
  bs : List UInt8

def putV (ps : List PutS) : List Value := ps.flatMap fun x => [.int .i64 (x.home : Int), x.val]

theorem putV_at : ∀ (ps : List PutS) (i : Nat) (h : i < ps.length), (putV ps)[i * 2]? = some (.int .i64 (ps[i].home : Int)) ∧ (putV ps)[i * 2 + 1]? = some ps[i].val
  | p :: ps, 0, _ => ⟨rfl, rfl⟩
  | p :: ps, i + 1, h => by
    have ih := putV_at ps i (by simpa using h)
    have e1 : (i + 1) * 2 = i * 2 + 2 := by omega
    rw [e1]
    exact ih

/-- The bytes that a group's puts name. -/
structure PutsIs (W : World) (rd : Nat → Prop) (ps : List PutS) : Prop where
  by_ : ∀ x ∈ ps, ByS W rd x.val x.bs
  lt : ∀ k, rd k → k < W.heap.size

def putsA (rd : Nat → Prop) (ps : List PutS) : Asrt where
  own _ := False
  rd := rd
  prop W := PutsIs W rd ps
  stable W W' h hp := by
    refine ⟨fun x hx => (hp.by_ x hx).same fun k hk => ⟨h k (.inr hk), hk⟩, fun k hk => ?_⟩
    have h1 := hp.lt k hk
    have h2 := h k (.inr hk)
    rw [Array.getElem?_eq_getElem h1] at h2
    exact (Array.getElem?_eq_some_iff.1 h2).1
  bound W hp k hk := by
    rcases hk with hk | hk
    · exact hk.elim
    · exact hp.lt k hk

/-- A group that may be committed. -/
structure Good (ps : List PutS) (n ring : Nat) : Prop where
  home : ∀ x ∈ ps, x.home < n
  len : ∀ x ∈ ps, x.bs.length = 248
  nodup : (ps.map PutS.home).Nodup
  most : ps.length ≤ 119
  fits : ps.length < ring

theorem keys_size_le {W : World} {M : DataW Value} {b gm n : Nat} (hk : ∀ kl, Go.Maps.has M kl = true → ∃ k : Nat, k < b ∧ kl = keyI k) (hm : W.ownsMap Tryz.prog 3 RV gm n M) : Go.Maps.size M ≤ b := by
  obtain ⟨es, rfl, hp⟩ := hm.tidy keyedInt
  have hn : (es.map Prod.fst).Nodup := by
    rw [List.nodup_iff_pairwise_ne, List.pairwise_map]
    exact hp
  have key : ∀ x ∈ es.map Prod.fst, ∃ k : Nat, k < b ∧ x = keyI k := by
    intro x hx
    obtain ⟨p, hp1, rfl⟩ := List.mem_map.1 hx
    have hkey : WideAt.IsKeyLit p.1 := by
      obtain ⟨es', e1, _, h3⟩ := hm.canon keyedInt
      cases e1
      exact h3 p hp1
    refine hk p.1 ?_
    rw [Go.Maps.has_eq, List.any_eq_true]
    exact ⟨p, hp1, WideAt.sameKey_self hkey⟩
  have := nodup_le (((es.map Prod.fst).map fun x => match x with | .int _ k => k | _ => 0)) ((List.range b).map (fun k : Nat => (k : Int))) (by
    rw [List.nodup_iff_pairwise_ne, List.pairwise_map]
    refine List.Pairwise.imp_of_mem ?_ hn
    intro a c ha hc hne e
    obtain ⟨i, _, rfl⟩ := key a ha
    obtain ⟨j, _, rfl⟩ := key c hc
    simp only [keyI] at e
    have : i = j := by omega
    exact hne (by rw [this])) (by
    intro x hx
    obtain ⟨p, hp1, rfl⟩ := List.mem_map.1 hx
    obtain ⟨i, hi, rfl⟩ := key p hp1
    simp only [keyI, List.mem_map, List.mem_range]
    exact ⟨i, hi, rfl⟩)
  simpa [Go.Maps.size] using this

theorem zero_int (W : World) : (zeroValue 3).run Tryz.prog W = .ok (.int .i64 0) W := by kernel_rfl

theorem look_int {W : World} {gm n : Nat} {M : DataW Value} (hm : W.ownsMap Tryz.prog 3 RV gm n M) (k : Nat) (hk : k < 1048576) (x : Value) (h : M.atKey (keyI k) (.held (.int .i64 0)) = .held x) :
    (Instr.lookup 146 (.map (some gm)) (.int .i64 (k : Int)) false).run Tryz.prog W = .ok x W := by
  obtain ⟨v, ps, hrun, hv⟩ := hm.lookup keyedInt Tryz.underlying146 (zero_int W) (zd := .held (.int .i64 0)) (zp := []) rfl (keyI_is hk)
  rw [h] at hv
  simp [RV] at hv
  rw [hrun, hv.1]

theorem St.mapStoreI {M0 R0 : Nat → Prop} {w0 W : World} {L : List Asrt} (H : St M0 R0 w0 W L) (i : Nat) {gm : Nat} {M : DataW Value} (hi : L[i]? = some (mapA gm (Go.Maps.size M) M)) (hs : Go.Maps.size M ≤ 1900) (k : Nat) (hk : k < 1048576) (v : Value) :
    ∃ W', (Instr.mapUpdate 146 (.map (some gm)) (.int .i64 (k : Int)) v).run Tryz.prog W = .ok () W' ∧ St M0 R0 w0 W' (L.set i (mapA gm (Go.Maps.size (M.put (keyI k) (.held v))) (M.put (keyI k) (.held v)))) := by
  obtain ⟨W', hrun, hown, hturn⟩ := (H.at i hi : W.ownsMap Tryz.prog 3 RV gm (Go.Maps.size M) M).store keyedInt Tryz.underlying146 (by simp only [maxLen]; omega) (keyI_is hk) (val := v) (d := .held v) (ps := []) rfl
  refine ⟨W', hrun, H.step i hi (Fix.turned hturn) (ownsMap_fit hown) ⟨fun _ h => .inl h, fun _ h => h.elim⟩⟩

/-- A map is stored into, run. -/
theorem wpList_mapupdate_run {P : Program} {ops : Array Oper} {rest : List Oper} {o : Oper} {a : Act} {Q : Exit → Act → World → Prop} {W W' : World}
    (hwt : Region.wanted o (yielded ops a.tmps) = true) (t : TypeId) (m x y : Operand) (hop : o.op = .mapUpdate t m x y) (mv xv v : Value) (hm : a.eval m = mv) (hx : a.eval x = xv) (hy : a.eval y = v)
    (hrun : (Instr.mapUpdate t mv xv v).run P W = .ok () W') (h : wpList P ops Q rest (a.put o.dst undef) W') : wpList P ops Q (o :: rest) a W := by
  refine wpList_want hwt fun K hK => ?_
  unfold Oper.wp
  simp [execOp, hop, hm, hx, hy, hrun, Result.andThen]
  exact hK _ _ h

/-- The homes that were seen: each once. -/
structure Seen (M : DataW Value) (hs : List Nat) (b : Nat) : Prop where
  keys : ∀ kl, Go.Maps.has M kl = true → ∃ k : Nat, k < b ∧ kl = keyI k
  at_ : ∀ k : Nat, M.atKey (keyI k) (.held (.int .i64 0)) = .held (.int .i64 (if k ∈ hs then 1 else 0))
  map : Go.Maps.IsMap M

theorem Seen.put {M : DataW Value} {hs : List Nat} {b : Nat} (h : Seen M hs b) (k : Nat) (hk : k < b) : Seen (M.put (keyI k) (.held (.int .i64 1))) (hs ++ [k]) b := by
  refine ⟨fun kl hkl => ?_, fun j => ?_, ?_⟩
  · by_cases e : kl = keyI k
    · exact ⟨k, hk, e⟩
    · rw [Go.Maps.has_put_other e] at hkl
      exact h.keys kl hkl
  · by_cases e : j = k
    · subst e
      rw [Go.Maps.atKey_put_same h.map (show WideAt.IsKeyLit (keyI j) from trivial)]
      simp
    · have e' : keyI j ≠ keyI k := fun x => e (keyI_inj x)
      rw [Go.Maps.atKey_put_other e', h.at_ j]
      simp [e]
  · exact h.map.put _ _

theorem Seen.empty (b : Nat) : Seen (.map []) [] b := ⟨fun kl h => by simp [Go.Maps.has] at h, fun k => by simp [DataW.atKey], isMap_empty⟩

/-- A put's slice. -/
theorem PutsIs.val {W : World} {rd : Nat → Prop} {ps : List PutS} (h : PutsIs W rd ps) (i : Nat) (hi : i < ps.length) (hl : ps[i].bs.length = 248) : ∃ gv off cap, ps[i].val = .slice (some ⟨gv, off, none⟩) 248 cap ∧ 248 ≤ cap ∧ rd gv ∧ BytesAt W gv off ps[i].bs := by
  rcases h.by_ _ (List.getElem_mem hi) with ⟨e, _⟩ | ⟨g, off, cap, h1, h2, h3, h4⟩
  · rw [e] at hl; simp at hl
  · rw [hl] at h1 h2
    rcases h3 with h3 | h3
    · rw [h3] at hl; simp at hl
    · exact ⟨g, off, cap, h1, h2, h3, h4⟩

end Go.Proofs.YtajlhloapglafaaGreatDoor
