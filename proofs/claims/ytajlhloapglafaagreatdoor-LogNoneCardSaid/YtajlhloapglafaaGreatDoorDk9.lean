/- The disk's Flush. -/
import Derived.Test.YtajlhloapglafaaGreatDoorDk8
namespace Go.Proofs.YtajlhloapglafaaGreatDoor
open Go.RowKit
set_option linter.unusedSimpArgs false
set_option linter.unusedVariables false
set_option maxRecDepth 4000

/-- All sectors, as a reader sees them. -/
def DS.all (D : DS) : List (List UInt8) := (List.range D.last.length).map D.sect

theorem flush_no {w : World} {g : Nat} {D : DS} {own rd : Nat → Prop} (hd : DiskIs w g D own rd) (hdd : D.dead = true) :
    Calls Tryz.prog 21 #[.pointer (some ⟨g, 0, none⟩)] w fun e w' => e = .returned (.int .i64 12) ∧ w = w' := by
  have hm : D.may 0 = 12 := by simp [DS.may, hdd]
  have HM := Lib.hid (may_calls hd 0)
  rw [hm] at HM
  clear hd hm
  go_enter Tryz.func21, Tryz.ntmps21
  go_wp2_with (first | (go_at_call 57; (with_reducible refine (HM.out).mono ?_); rintro e W' ⟨rfl, rfl⟩))
  go_ret
  exact ⟨rfl, rfl⟩

theorem flush_fail {w : World} {g : Nat} {D : DS} {own rd : Nat → Prop} (hd : DiskIs w g D own rd) (hdd : D.dead = false) (hfl : D.failsB = true) :
    Calls Tryz.prog 21 #[.pointer (some ⟨g, 0, none⟩)] w fun e w' => e = .returned (.int .i64 12) ∧ DiskTo w g own rd D.failsD w' := by
  obtain ⟨gl, gm, cap, rows, junk, M, tv, hf, h3, h4, H⟩ := hd.open_
  have hm : D.may 0 = 0 := by have := hf.n1; simp [DS.may, hdd]; intro e; simp [e] at this
  have HM := Lib.hid (may_calls hd 0)
  have HF := Lib.hid (fails_calls hd)
  rw [hm] at HM
  rw [hfl] at HF
  clear hd hm H hfl
  generalize D.failsD = D1 at *
  go_enter Tryz.func21, Tryz.ntmps21
  go_wp2_with (first
    | (go_at_call 57; (with_reducible refine (HM.out).mono ?_); rintro e W' ⟨rfl, rfl⟩)
    | (go_at_call 58; (with_reducible refine (HF.out).mono ?_); rintro e W ⟨rfl, hto⟩))
  go_ret
  exact ⟨rfl, hto⟩

/-- The rows within a flush: those that are no longer to come are laid. -/
structure Mid (rows rows' : List Value) (M : DataW Value) (left : Lit → Bool) : Prop where
  len : rows'.length = rows.length
  at_ : ∀ (k : Nat) (v : Value), rows'[k]? = some v → (left (keyI k) = false ∧ Go.Maps.has M (keyI k) = true ∧ M.atKey (keyI k) (.held (.slice none 0 0)) = .held v) ∨ ((left (keyI k) = true ∨ Go.Maps.has M (keyI k) = false) ∧ v = rows.getD k undef)

theorem Mid.start (rows : List Value) (M : DataW Value) : Mid rows rows M (Go.Maps.has M) := by
  refine ⟨rfl, fun k v hv => .inr ⟨?_, ?_⟩⟩
  · cases Go.Maps.has M (keyI k) <;> simp
  · rw [List.getD_eq_getElem?_getD, hv]; rfl

theorem keyI_same (j k : Nat) : (keyI j).sameKey (keyI k) = decide (j = k) := by
  simp [keyI, Lit.sameKey]; omega

theorem Mid.step {rows rows' : List Value} {M : DataW Value} {left : Lit → Bool} (h : Mid rows rows' M left) (k : Nat) (v : Value) (hk : Go.Maps.has M (keyI k) = true) (hat : M.atKey (keyI k) (.held (.slice none 0 0)) = .held v) :
    Mid rows (rows'.set k v) M (fun z => left z && !z.sameKey (keyI k)) := by
  refine ⟨by rw [List.length_set]; exact h.len, fun j u hu => ?_⟩
  by_cases e : j = k
  · subst e
    have hj : j < rows'.length := by have := (List.getElem?_eq_some_iff.1 hu).1; simpa using this
    rw [List.getElem?_set_self hj] at hu
    cases hu
    exact .inl ⟨by simp [keyI_same], hk, hat⟩
  · rw [List.getElem?_set_ne (fun x => e x.symm)] at hu
    have e2 : (left (keyI j) && !(keyI j).sameKey (keyI k)) = left (keyI j) := by simp [keyI_same, e]
    rw [e2]
    exact h.at_ j u hu

theorem Mid.done {W : World} {rd : Nat → Prop} {D : DS} {rows rows' : List Value} {M : DataW Value} {left : Lit → Bool} {tv : Value} (h : Mid rows rows' M left) (hl : ∀ kl, left kl = false) (hr : rows.length = D.last.length)
    (hP : PayIs W rd rows D.last M D.wait tv D.torn) : PayIs W rd rows' D.all (.map []) (fun _ => none) tv D.torn := by
  refine ⟨fun i hi => ?_, fun kl hkl => (by cases hkl), fun k => .inl ⟨rfl, rfl⟩, hP.torn, hP.lt⟩
  have hi' : i < D.last.length := by simpa [DS.all] using hi
  have hlen : i < rows'.length := by rw [h.len, hr]; exact hi'
  have e1 : D.all[i] = D.sect i := by simp [DS.all]
  rw [e1, List.getD_eq_getElem?_getD, List.getElem?_eq_getElem hlen, Option.getD_some]
  have hv := h.at_ i rows'[i] (List.getElem?_eq_getElem hlen)
  rcases hP.waits i with ⟨a1, a2⟩ | ⟨v, l, a1, a2, a3, a4, a5⟩
  · rcases hv with ⟨_, b1, _⟩ | ⟨_, b2⟩
    · rw [a1] at b1; cases b1
    · rw [b2]
      have : D.sect i = D.last[i] := by simp [DS.sect, a2, hi']
      rw [this]
      exact hP.sect i hi'
  · rcases hv with ⟨_, _, b1⟩ | ⟨b1, _⟩
    · rw [a2] at b1
      have := DataW.held.inj b1
      rw [← this]
      have : D.sect i = l := by simp [DS.sect, a3]
      rw [this]
      exact a5
    · rw [hl, a1] at b1
      rcases b1 with b1 | b1 <;> cases b1

theorem ByS.oneCell {W : World} {rd : Nat → Prop} {v : Value} {l : List UInt8} (h : ByS W rd v l) : v.oneCell' = true := by
  rcases h with ⟨_, rfl⟩ | ⟨_, _, _, rfl, _⟩ <;> rfl

theorem PayIs.cellOf {W : World} {rd : Nat → Prop} {rows : List Value} {last : List (List UInt8)} {M : DataW Value} {wait : Nat → Option (List UInt8)} {tv : Value} {torn : List UInt8} (h : PayIs W rd rows last M wait tv torn) {k : Nat} {v : Value}
    (hk : Go.Maps.has M (keyI k) = true) (hat : M.atKey (keyI k) (.held (.slice none 0 0)) = .held v) : v.oneCell' = true := by
  rcases h.waits k with ⟨a1, _⟩ | ⟨v', l, a1, a2, a3, a4, a5⟩
  · rw [hk] at a1; cases a1
  · rw [hat] at a2
    rw [DataW.held.inj a2]
    exact a5.oneCell

theorem set_front (rows junk : List Value) (k : Nat) (hk : k < rows.length) (v : Value) : (rows ++ junk).toArray.setIfInBounds k v = (rows.set k v ++ junk).toArray := by
  simp [List.set_append, hk]

theorem DS.Fine.all {D : DS} (h : D.Fine) {W : World} {rd : Nat → Prop} {rows : List Value} {M : DataW Value} {tv : Value} (hP : PayIs W rd rows D.last M D.wait tv D.torn) : ∀ l ∈ D.all, l.length = 256 := by
  intro l hl
  obtain ⟨k, hk, rfl⟩ := List.mem_map.1 hl
  have hk' : k < D.last.length := by simpa using hk
  rcases hP.waits k with ⟨_, a2⟩ | ⟨_, l', _, _, a3, a4, _⟩
  · have : D.sect k = D.last[k] := by simp [DS.sect, a2, hk']
    rw [this]; exact h.len _ (List.getElem_mem hk')
  · have : D.sect k = l' := by simp [DS.sect, a3]
    rw [this]; exact a4

theorem rangeA_left {W : World} {gm r n cnt : Nat} {M : DataW Value} {left : Lit → Bool} (h : (rangeA gm r n M left cnt).prop W) : W.rangeLeft gm r = cnt := World.ranges.left_eq h

theorem flush_ok {w : World} {g : Nat} {D : DS} {own rd : Nat → Prop} (hd : DiskIs w g D own rd) (hdd : D.dead = false) (hfl : D.failsB = false) :
    Calls Tryz.prog 21 #[.pointer (some ⟨g, 0, none⟩)] w fun e w' => e = .returned (.int .i64 0) ∧ DiskTo w g own rd { D.failsD with last := D.failsD.all, wait := fun _ => none } w' := by
  have hf := hd.fine
  have hm : D.may 0 = 0 := by have := hf.n1; simp [DS.may, hdd]; intro e; simp [e] at this
  have HM := Lib.hid (may_calls hd 0)
  have HF := Lib.hid (fails_calls hd)
  rw [hm] at HM
  rw [hfl] at HF
  clear hd hm hfl hf
  generalize D.failsD = D1 at *
  go_enter Tryz.func21, Tryz.ntmps21
  go_wp2_with (first
    | (go_at_call 57; (with_reducible refine (HM.out).mono ?_); rintro e W' ⟨rfl, rfl⟩)
    | (go_at_call 58; (with_reducible refine (HF.out).mono ?_); rintro e W ⟨rfl, hto⟩; obtain ⟨rd1, gl, gm, cap, rows, junk, M, tv, hf1, h3, h4, H⟩ := hto.open_)
    | (refine wpList_load1_st rfl 74 _ rfl _ _ rfl _ _ _ (H.at 0 rfl) _ Tryz.underlying74 rfl _ (dRow1 _ _ _ _ _ _ _ _ _ _) ?_)
    | (refine wpList_range_st H 2 rfl _ rfl gm rfl M rfl ?_; clear H; intro W r H; simp only [List.set_cons_zero, List.set_cons_succ] at H))
  go_frame
  have HP := Lib.hid (H.at 3 rfl : PayIs _ rd1 rows D1.last M D1.wait tv D1.torn)
  have HF1 := Lib.hid hf1
  have HR := Lib.hid h3
  clear hf1 hto
  go_loopw [4, 5] (fun _ _ wr => ∃ left cnt rows', St own rd w wr [blk g (.cells (dRow (.slice (some ⟨gl, 0, none⟩) D1.last.length cap) (.map (some gm)) D1.dead D1.armed D1.n D1.part D1.way tv D1.writes D1.lives).toArray 77 (0, 0)),
        blk gl (.cells (rows' ++ junk).toArray 22 (0, 0)), rangeA gm r (Go.Maps.size M) M left cnt, payA rd1 rows D1.last M D1.wait tv D1.torn] ∧ Mid rows rows' M left) (fun _ _ wr => wr.rangeLeft gm r)
  case atStart => exact ⟨_, _, rows, H, Mid.start rows M⟩
  case round =>
    obtain ⟨left, cnt, rows', H, hmid⟩ := hrel
    go_wp2_with (first
      | (refine wpList_next_st H 2 rfl _ rfl r rfl gm _ M left cnt rfl D1.last.length HP.out.keys ?_ ?_))
    · intro hl
      go_wp2_with (first
        | (refine wpList_makemap_st H rfl 74 rfl ?_; clear H; intro W2 gN H; simp only [List.nil_append, List.cons_append] at H)
        | (refine wpList_store1_st H 0 rfl 74 _ _ rfl _ _ (.map _) rfl rfl rfl _ _ rfl rfl (by simp [dRow]) ?_; clear H; intro W H; (try simp only [cells_arrV, List.nil_append, List.cons_append, List.set_cons_zero, List.set_cons_succ] at H); try simp only [dSet1, dSet2, dSet3, dSet4, dSet5, dSet6, dSet7, dSet8, dSet9] at H))
      go_ret
      refine ⟨rfl, ?_⟩
      have hal : D1.all.length = D1.last.length := by simp [DS.all]
      have HP2 : PayIs _ rd1 rows D1.last M D1.wait tv D1.torn := H.at 3 rfl
      have J := H.step 3 rfl (A' := payA rd1 rows' D1.all (.map []) (fun _ => none) tv D1.torn) (Fix.refl _ _) (hmid.done hl HR.out HP2) ⟨fun _ h => h.elim, fun _ h => .inr (.inl h)⟩
      have hall := HF1.out.all HP2
      simp only [List.set_cons_zero, List.set_cons_succ] at J
      rw [← hal] at J
      refine J.disk (D' := { D1 with last := D1.all, wait := fun _ => none }) ⟨by show 32 ≤ D1.all.length; rw [hal]; exact HF1.out.n1, by show D1.all.length ≤ 1900; rw [hal]; exact HF1.out.n2, hall, HF1.out.part, ⟨HF1.out.way.1, by show D1.way < (D1.all.length : Int); rw [hal]; exact HF1.out.way.2⟩, HF1.out.torn, HF1.out.nlo, HF1.out.nhi⟩
        gl _ cap rows' junk (.map []) tv rd1 (by show rows'.length = D1.all.length; rw [hmid.len, HR.out, hal]) (by rw [← h4]; simp [hmid.len]) 0 1 4 3 rfl rfl rfl rfl (by decide) (by decide) (by decide) (by decide) (by decide) (by decide)
    · intro k v W1 cnt1 hk hlk hat H1 hlt hen
      have hhas : Go.Maps.has M (keyI k) = true := ranges_has (H.at 2 rfl : World.ranges wr _ _ _ _ _ _ _ _ _) hlk
      have HV := Lib.hid (HP.out.cellOf hhas hat)
      have hkr : k < rows'.length := by rw [hmid.len, HR.out]; exact hk
      have HO := Lib.hid (show k < (rows' ++ junk).toArray.size by simp; omega)
      have HE := (H.at 2 rfl : World.ranges wr Tryz.prog 3 RV gm r (Go.Maps.size M) M left cnt).left_eq
      have hki : (k : Int) < (D1.last.length : Int) := by omega
      have hk0 : 0 ≤ (k : Int) := by omega
      replace H := H1
      clear H1
      try simp only [List.set_cons_zero, List.set_cons_succ] at H
      go_wp2_with (first
        | (refine wpList_load1_st rfl 75 _ rfl _ _ rfl _ _ _ (H.at 0 rfl) _ Tryz.underlying75 rfl _ (dRow0 _ _ _ _ _ _ _ _ _ _) ?_)
        | (refine wpList_store1_st H 1 rfl 22 _ _ rfl _ _ v rfl rfl HV.out _ _ rfl rfl HO.out ?_; clear H; intro W2 H; simp only [List.set_cons_zero, List.set_cons_succ] at H))
      rw [set_front _ _ _ hkr] at H
      simp only [Act.put]
      go_roundw
      case rel => exact ⟨_, cnt1, _, H, hmid.step k v hhas hat⟩
      case measure =>
        have e1 := rangeA_left (H.at 2 rfl)
        rw [e1, HE]; exact hlt

end Go.Proofs.YtajlhloapglafaaGreatDoor
