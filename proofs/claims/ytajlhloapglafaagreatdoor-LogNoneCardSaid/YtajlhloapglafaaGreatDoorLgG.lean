/- The log's commits: a group that has room. -/
import Derived.Test.YtajlhloapglafaaGreatDoorLgE
import Derived.Test.YtajlhloapglafaaGreatDoorRg
import Derived.Deep.CutBlock
import Derived.StillTailTactics
namespace Go.Proofs.YtajlhloapglafaaGreatDoor
open Go.RowKit
set_option linter.unusedSimpArgs false
set_option linter.unusedVariables false
set_option maxRecDepth 4000

theorem BunTo.st {W W' : World} {own rd : Nat → Prop} {L : List Asrt} (h : BunTo W own rd L W') : St own rd W W' L :=
  ⟨h.fix, h.holds.all, h.holds.apart, fun i A hi k hk => (h.owns k ⟨A, List.mem_of_getElem? hi, hk⟩).symm, fun i A hi k hk => by
    rcases h.reads k ⟨A, List.mem_of_getElem? hi, hk⟩ with h | h | h
    · exact .inr (.inl h)
    · exact .inr (.inr h)
    · exact .inl h⟩

theorem PutsIs.news {W : World} {rd : Nat → Prop} {ps : List PutS} (h : PutsIs W rd ps) (i : Nat) (hi : i < ps.length) (hl : ps[i].bs.length = 248) {gv off cap : Nat} (hval : ps[i].val = .slice (some ⟨gv, off, none⟩) 248 cap) :
    ∀ j u, (byteV ps[i].bs)[j]? = some u → W.cell? ((⟨gv, off, none⟩ : Addr).add j) = some u := by
  obtain ⟨gv', off', cap', hval', _, _, hb⟩ := h.val i hi hl
  rw [hval] at hval'
  simp only [Value.slice.injEq, Option.some.injEq, Addr.mk.injEq] at hval'
  obtain ⟨⟨rfl, rfl, _⟩, _, _⟩ := hval'
  intro j u hu
  have hj : j < ps[i].bs.length := by have := (List.getElem?_eq_some_iff.1 hu).1; simpa using this
  rw [byteV_get, List.getElem?_eq_getElem hj, Option.map_some, Option.some.injEq] at hu
  rw [Addr.add_lit, ← hu]; exact hb j hj

/-- A disk whose homes are as they were. -/
structure Off (D D' : DS) (N ring : Nat) (u : Nat) : Prop where
  calm : Calm D' N u
  lives : D'.lives = D.lives
  sect : ∀ k, 2 + ring ≤ k → k < N → D'.sect k = D.sect k

theorem Off.refl {D : DS} {N ring u : Nat} (h : Calm D N u) : Off D D N ring u := ⟨h, rfl, fun _ _ _ => rfl⟩
theorem Off.put {D D' : DS} {N ring u : Nat} (h : Off D D' N ring u) (s : Nat) (hs : s < 2 + ring) (l : List UInt8) : Off D (D'.put s l) N ring (u + 1) :=
  ⟨h.calm.put s l, h.lives, fun k hk hkN => by rw [sect_put, if_neg (by omega)]; exact h.sect k hk hkN⟩
theorem Off.flushed {D D' : DS} {N ring u : Nat} (h : Off D D' N ring u) : Off D D'.flushed N ring u :=
  ⟨h.calm.flushed, h.lives, fun k hk hkN => by rw [sect_flushed _ k (by rw [h.calm.len]; exact hkN)]; exact h.sect k hk hkN⟩

theorem LogFine.off {X : LS} {n : Nat} {D D' : DS} {N u u' : Nat} (h : LogFine X n D N u) (ho : Off D D' N X.ring u') : LogFine X n D' N u' :=
  ⟨ho.calm, h.fits, h.top, h.r1, h.r2, h.n1, h.place, h.lives.trans ho.lives.symm, h.full, h.free, h.turn, h.s⟩

/-- What the map has behind j puts. -/
def putM (m : Nat → Option (List UInt8)) : List PutS → Nat → Option (List UInt8)
  | [] => m
  | x :: ps => putM (fun k => if k = x.home then some x.bs else m k) ps

theorem putM_snoc (x : PutS) : ∀ (ps : List PutS) (m : Nat → Option (List UInt8)), putM m (ps ++ [x]) = fun k => if k = x.home then some x.bs else putM m ps k
  | [], m => rfl
  | y :: ps, m => by rw [List.cons_append, putM, putM_snoc x ps]; rfl

/-- The log behind a group that had room. -/
def LS.done (X : LS) (ps : List PutS) : LS := { X with turn := X.turn + 1, place := (X.place + 1 + ps.length) % X.ring, free := X.free - ((ps.length + 1 : Nat) : Int), m := putM X.m ps }

theorem clone_n {w : World} {g off cap n : Nat} {l : List UInt8} (hb : BytesAt w g off l) (hl : l.length = n) (hn : n ≤ 1048576) (hlt : g < w.heap.size) :
    Calls Tryz.prog 54 #[.slice (some ⟨g, off, none⟩) n cap] w fun e w' => ∃ gc capc junk, e = .returned (.slice (some ⟨gc, 0, none⟩) n capc) ∧ n ≤ capc ∧ w.heap.size ≤ gc ∧
      w'.heap[gc]? = some (.cells (byteV l ++ junk).toArray 5 (0, 0)) ∧ Below w.heap.size w w' := by
  subst hl
  refine (clone_calls w g off cap l hb hn (.inr hlt)).mono ?_
  rintro e w' ⟨g', cap', junk, rfl, h5, h6, h7, h8, h9⟩
  exact ⟨g', cap', junk, rfl, h5, h7, h8, h9⟩

theorem PutsIs.at_ {W : World} {rd : Nat → Prop} {ps : List PutS} (h : PutsIs W rd ps) (i : Nat) (hi : i < ps.length) (hl : ps[i].bs.length = 248) {gv off cap : Nat} (hval : ps[i].val = .slice (some ⟨gv, off, none⟩) 248 cap) : BytesAt W gv off ps[i].bs ∧ gv < W.heap.size := by
  obtain ⟨gv', off', cap', hval', _, hr, hb⟩ := h.val i hi hl
  rw [hval] at hval'
  simp only [Value.slice.injEq, Option.some.injEq, Addr.mk.injEq] at hval'
  obtain ⟨⟨rfl, rfl, _⟩, _, _⟩ := hval'
  exact ⟨hb, h.lt _ hr⟩

/-- A map is stored into, run. -/
theorem wp_mapupdate_run {P : Program} {o : Oper} {a : Act} {Q : Exit → Act → World → Prop} {K : Act → World → Prop} {W W' : World}
    (t : TypeId) (m x y : Operand) (hop : o.op = .mapUpdate t m x y) (mv xv v : Value) (hm : a.eval m = mv) (hx : a.eval x = xv) (hy : a.eval y = v)
    (hrun : (Instr.mapUpdate t mv xv v).run P W = .ok () W') (h : K (a.put o.dst undef) W') : o.wp P a W K Q := by
  unfold Oper.wp
  simp [execOp, hop, hm, hx, hy, hrun, Result.andThen]
  exact h

section
variable {P : Program} {o : Oper} {a : Act} {Q : Exit → Act → World → Prop} {K : Act → World → Prop}
variable {M0 R0 : Nat → Prop} {w0 W : World} {L : List Asrt}

/-- One cell is loaded, run. -/
theorem wp_load1 (ty : TypeId) (x : Operand) (ho : o.op = .load ty x) (g off : Nat) (hx : a.eval x = .pointer (some ⟨g, off, none⟩)) (d : TypeDesc) (hu : P.underlying ty = some d)
    (hd : (match d with | .struct _ | .array _ _ => true | _ => false) = false) (v : Value) (hc : W.cell? ⟨g, off, none⟩ = some v) (h : K (a.put o.dst v) W) : o.wp P a W K Q := by
  have hagg : (isAgg ty).run P W = .ok false W := by
    unfold isAgg
    rw [Sem.run_bind, run_underlying hu W]
    cases d <;> simp_all
  unfold Oper.wp execOp
  simp only [ho, hx, Instr.loadAt, Instr.sureAddr, Sem.run_bind, Sem.run_pure, Result.andThen_ok, loadVar, hagg]
  have hl : (load ⟨g, off, none⟩).run P W = .ok v W := by simp [load, Sem.run, hc]
  simp [hl, Result.andThen]
  exact h

/-- One cell is stored, run. -/
theorem wp_store1_st (H : St M0 R0 w0 W L) (i : Nat) (ty : TypeId) (x y : Operand) (ho : o.op = .store ty x y)
    (g off : Nat) (v : Value) (hx : a.eval x = .pointer (some ⟨g, off, none⟩)) (hy : a.eval y = v) (h1 : v.oneCell' = true)
    (t : TypeId) (old : Array Value) (hi : L[i]? = some (blk g (.cells old t (0, 0)))) (hn : (P.info? ty).map (·.size) = some 1) (hoff : off < old.size)
    (h : ∀ W', St M0 R0 w0 W' (L.set i (blk g (.cells (old.setIfInBounds off v) t (0, 0)))) → K (a.put o.dst undef) W') : o.wp P a W K Q := by
  have hg := H.at i hi
  have hc : W.cell? ⟨g, off, none⟩ = some old[off] := by rw [cell_of_row W g off old t (0, 0) hg]; simp [hoff]
  have hf : W.frozen? ⟨g, off, none⟩ = false := frozen_of_row W g off old t hg
  have h' := h _ (H.setRow i hi (old.setIfInBounds off v))
  have hcells : v.cells = #[v] := by cases v <;> first | rfl | simp [Value.oneCell'] at h1
  have hst : (store ⟨g, off, none⟩ v).run P W = .ok () (W.setRow g (old.setIfInBounds off v)) := by
    rw [run_store P W _ v _ h1, hc]
    simp [hf, setCell_eq_setRow W g off old t (0, 0) v hg]
  cases hq : P.info? ty with
  | none => simp [hq] at hn
  | some i =>
    have hs : i.size = 1 := by simpa [hq] using hn
    have hadd : (⟨g, off, none⟩ : Addr).add 0 = ⟨g, off, none⟩ := by simp [Addr.add]
    unfold Oper.wp execOp
    simp [ho, hx, hy, Instr.storeAt, Instr.sureAddr, storeVar, sizeOf, typeInfo, hq, hs, hcells, storeCells, hadd, hst, Result.andThen]
    exact h'
end

/-- The log behind j puts of a group that is being taken up. -/
def LS.took (X : LS) (ps : List PutS) (j : Nat) : LS := { X with m := putM X.m (ps.take j) }

theorem took_succ (X : LS) (ps : List PutS) (j : Nat) (hj : j < ps.length) : X.took ps (j + 1) = { X.took ps j with m := fun k => if k = ps[j].home then some ps[j].bs else (X.took ps j).m k } := by
  unfold LS.took
  rw [List.take_succ_eq_append_getElem hj, putM_snoc]

set_option maxHeartbeats 4000000 in
theorem commits_room {w : World} {g gd gm : Nat} {X : LS} {M : DataW Value} {rm : Nat → Prop} {n : Nat} {D : DS} {own rd : Nat → Prop} {p : Option Addr} {cap : Nat} {ps : List PutS} {rp : Nat → Prop}
    (hb : Bundle w (logL g gd gm X M rm n D own rd ++ [rdA p (putV ps), putsA rp ps])) {N u : Nat} (hf : LogFine X n D N u) (hg : Good ps n X.ring) (hps : 0 < ps.length) (ht : X.turn < 1000000) (hu : u + 1000 < 1000000) (hroom : ((ps.length : Int) + 1) ≤ X.free) :
    Calls Tryz.prog 52 #[.pointer (some ⟨g, 0, none⟩), .slice p ps.length cap] w fun e w' => e = .returned .nilIface ∧ ∃ M' rm' D' own' rd' u', u' ≤ u + 200 ∧ Off D D' N X.ring u' ∧
      BunTo w (ownL (logL g gd gm X M rm n D own rd ++ [rdA p (putV ps), putsA rp ps])) (rdL (logL g gd gm X M rm n D own rd ++ [rdA p (putV ps), putsA rp ps]))
        (logL g gd gm (X.done ps) M' rm' n D' own' rd' ++ [rdA p (putV ps), putsA rp ps]) w' := by
  have HK := Lib.hid (looks_ok (cap := cap) hb hf hg)
  have H := hb.open_
  obtain ⟨O, hO⟩ : ∃ O, ownL (logL g gd gm X M rm n D own rd ++ [rdA p (putV ps), putsA rp ps]) = O := ⟨_, rfl⟩
  obtain ⟨R, hR⟩ : ∃ R, rdL (logL g gd gm X M rm n D own rd ++ [rdA p (putV ps), putsA rp ps]) = R := ⟨_, rfl⟩
  rw [hO, hR] at H HK ⊢
  have HF := Lib.hid hf
  have HG := Lib.hid hg
  have HU := Lib.hid hu
  have HT := Lib.hid ht
  have hli : (ps.length : Int) ≤ 119 := by have := hg.most; omega
  have b1 : ((ps.length : Int) == 0) = false := beq_eq_false_iff_ne.2 (by omega)
  have b2 : ps.length ≠ 0 := by omega
  have ht1 : (X.turn : Int) < 1000000 := by omega
  have ht0 : 0 ≤ (X.turn : Int) := by omega
  have b3 : decide (4611686018427387902 ≤ (X.turn : Int)) = false := decide_eq_false (by omega)
  have b4 : decide (X.free < (ps.length : Int) + 1) = false := decide_eq_false (by omega)
  clear hf hg hu hb ht
  go_enter Tryz.func52, Tryz.ntmps52
  go_upto_region 10 with (first
    | (go_at_call 87; go_loud ((with_reducible refine (HK.out).mono ?_); rintro e W ⟨rfl, hto⟩; clear H HK; have H : St O R w W (logL g gd gm X M rm n D own rd ++ [rdA p (putV ps), putsA rp ps]) := hto.st; clear hto))
    | (refine wpList_load1_st rfl 33 _ rfl _ _ rfl _ _ _ (H.at 0 rfl) _ Tryz.underlying33 rfl _ (lRow4 _ _ _ _ _ _ _ _ _) ?_)
    | (refine wpList_load1_st rfl 3 _ rfl _ _ rfl _ _ _ (H.at 0 rfl) _ Tryz.underlying3 rfl _ (lRow7 _ _ _ _ _ _ _ _ _) ?_))
  clear b1 b3 b4 hO hR
  go_cut [7] from 49 (fun t wx => t = .nilIface ∧ ∃ own1 rd1 : Nat → Prop, St O R w wx (logL g gd gm X M rm n (D.put (2 + X.place) noSect) own1 rd1 ++ [rdA p (putV ps), putsA rp ps]))
  case first =>
    replace H := H.drew
    have e1 := Lib.hid (show 2 + X.place % X.ring = 2 + X.place by rw [Nat.mod_eq_of_lt HF.out.place])
    have HP := Lib.hid (show 2 + X.place < 2 + X.ring ∧ 2 + X.place < N by have := HF.out.place; have := HF.out.fits; omega)
    obtain ⟨W1, gz, hrun, H1⟩ := H.make_run 22 5 Tryz.underlying22 _ _ info_u8 rfl 256 (by omega) (by simp [maxLen])
    rw [byteV_noSect] at H1
    replace hrun : (Instr.makeSlice 22 (.int .i64 256) (.int .i64 256)).run Tryz.prog _ = .ok (.slice (some ⟨gz, 0, none⟩) 256 256) W1 := hrun
    have c5 := row_cell (H.at 0 rfl) (lRow5 _ _ _ _ _ _ _ _ _)
    have d5 := row_cell (H1.at 0 rfl) (lRow5 _ _ _ _ _ _ _ _ _)
    go_region_held3 (fun w' => w'.cell? ⟨g, 5, none⟩ = some (.int .i64 (X.place : Int))) (first | exact c5 | exact d5 | exact f5) (first
      | (go_at_call 89; ((refine (at_calls (g := g) (gd := gd) (gm := gm) (X := X) (M := M) (rm := rm) (n := n) (D := D) (own := own) (rd := rd) (H.take 4).bundle _ X.place rfl (by have := HF.out.r1; omega) HF.out.r2).mono ?_); rintro e W' ⟨rfl, rfl⟩; rw [e1.out]))
      | (go_at_call 89; ((refine (at_calls (g := g) (gd := gd) (gm := gm) (X := X) (M := M) (rm := rm) (n := n) (D := D) (own := own) (rd := rd) (H1.take 4).bundle _ X.place rfl (by have := HF.out.r1; omega) HF.out.r2).mono ?_); rintro e W' ⟨rfl, rfl⟩; rw [e1.out]))
      | (go_at_call 88; go_loud ((refine (lwrite_ok (g := g) (gd := gd) (gm := gm) (X := X) (M := M) (rm := rm) (n := n) (D := D) (own := own) (rd := rd) (H1.take 4).bundle HF.out.calm (by have := HU.out; omega) _ (2 + X.place) rfl HP.out.2 _ noSect (argB_own noSect_len (by omega) (H1.at 6 rfl) (St.notownL (Ls := logL g gd gm X M rm n D own rd) (R := [rdA p (putV ps), putsA rp ps, blk gz _]) H1 2 rfl)) noSect_len).mono ?_); rintro e W2 ⟨rfl, own1, rd1, hto⟩; have H2 := (hto.front (R := [rdA p (putV ps), putsA rp ps, blk gz _]) H1).take 6; clear hto; have f5 := row_cell (H2.at 0 rfl) (lRow5 _ _ _ _ _ _ _ _ _))))
    all_goals
      go_wp2_with fail
      go_meet
      case rel => exact ⟨rfl, own1, rd1, H2⟩
  case rest =>
    clear H
    obtain ⟨rfl, own1, rd1, H⟩ := hcut
    have HP := Lib.hid (show 2 + X.place < 2 + X.ring ∧ 2 + X.place < N by have := HF.out.place; have := HF.out.fits; omega)
    have HO := Lib.hid ((Off.refl HF.out.calm).put (2 + X.place) HP.out.1 noSect)
    go_wp2
    go_loopw [64, 8, 9, 10, 11] (fun i _ _ _ _ wr => ∃ (j : Nat) (D1 : DS) (own1 rd1 : Nat → Prop), i = .int .i64 (j : Int) ∧ j ≤ ps.length ∧ Off D D1 N X.ring (u + 1 + j) ∧
        St O R w wr (logL g gd gm X M rm n D1 own1 rd1 ++ [rdA p (putV ps), putsA rp ps])) (fun i _ _ _ _ _ => ps.length - (intOf i).toNat)
    case atStart => exact ⟨0, _, own1, rd1, rfl, Nat.zero_le _, HO.out, H⟩
    case round =>
      clear H HO
      obtain ⟨j, D1, own2, rd2, rfl, hj, hoff, H⟩ := hrel
      have HO := Lib.hid hoff
      clear hoff
      rcases Nat.lt_or_ge j ps.length with hlt | hge
      · obtain ⟨ga, offa, rfl, hcell0⟩ := rdA_at (H.at 4 rfl) (putV_at ps j hlt).1
        obtain ⟨ga', offa', e1, hcell1⟩ := rdA_at (H.at 4 rfl) (putV_at ps j hlt).2
        simp only [Option.some.injEq, Addr.mk.injEq] at e1
        obtain ⟨rfl, rfl, _⟩ := e1
        have hbl := HG.out.len _ (List.getElem_mem hlt)
        obtain ⟨gv, offv, capv, hval, hcv, hrv, hbv⟩ := (H.at 5 rfl : PutsIs _ rp ps).val j hlt hbl
        have HNW := Lib.hid (fun (W : World) (h : PutsIs W rp ps) => h.news j hlt hbl hval)
        rw [hval, ← Nat.add_assoc] at hcell1
        obtain ⟨h, hh⟩ : ∃ h, ps[j].home = h := ⟨_, rfl⟩
        obtain ⟨bs, hbs⟩ : ∃ bs, ps[j].bs = bs := ⟨_, rfl⟩
        rw [hh] at hcell0
        rw [hbs] at HNW hbl
        have hji : (j : Int) < (ps.length : Int) := by omega
        have hj0 : 0 ≤ (j : Int) := by omega
        have HBL := Lib.hid hbl
        have HJ := Lib.hid (show j ≤ 119 by have := HG.out.most; omega)
        have HLT := Lib.hid hlt
        have hpi : (X.place : Int) < 512 := by have := HF.out.place; have := HF.out.r2; omega
        have hp0 : 0 ≤ (X.place : Int) := by omega
        clear hbv hval hcv hbl hh hbs
        go_wp2_with (first
          | (refine wpList_alloc_st H rfl 36 rfl _ zero_put ?_; clear H; intro W g9 H; rw [cells_put] at H; simp only [logL, List.nil_append, List.cons_append] at H)
          | (refine wpList_storerow_st H 6 rfl 36 _ _ rfl _ (pR (h : Int) (.slice (some ⟨gv, offv, none⟩) 248 capv)).toArray rfl rfl _ _ rfl size_put rfl (pR_all _ _ _ _) ?_; clear H; intro W H; simp only [List.set_cons_zero, List.set_cons_succ] at H))
        replace H := H.drew
        have w2 : IntKind.u64.wrap (2 * (X.turn : Int)) = 2 * (X.turn : Int) := by rw [IntKind.wrap_u64]; omega
        refine wp_region_held_drew (S := fun w' => w'.cell? ⟨g, 4, none⟩ = some (.int .u64 (X.turn : Int)) ∧ w'.cell? ⟨g9, 1, none⟩ = some (.slice (some ⟨gv, offv, none⟩) 248 capv)) (by kernel_rfl) ⟨row_cell (H.at 0 rfl) (lRow4 _ _ _ _ _ _ _ _ _), row_cell (H.at 6 rfl) (pR1 _ _)⟩ (fun hHeld => ?_)
        (refine wpAnyH_take (i := 0) (v := ?_) rfl (by kernel_rfl) (by kernel_rfl) (by kernel_rfl) (fun _ _ _ h => h) (Or.inl ⟨by rfl, ?_⟩) (by assumption) ?_; rotate_left; focus (intro w hSw; (try dsimp only at hSw); go_simp; all_goals (with_reducible rfl))); (try simp only [Act.put, List.setIfInBounds_toArray, List.set_cons_zero, List.set_cons_succ, List.getElem_toArray, List.getElem_cons_succ, List.getElem_cons_zero])
        (refine wpAnyH_take (i := 1) (v := ?_) rfl (by kernel_rfl) (by kernel_rfl) (by kernel_rfl) (fun _ _ _ h => h) (Or.inl ⟨by rfl, ?_⟩) (by assumption) ?_; rotate_left; focus (intro w hSw; (try dsimp only at hSw); go_simp; all_goals (with_reducible rfl))); (try simp only [Act.put, List.setIfInBounds_toArray, List.set_cons_zero, List.set_cons_succ, List.getElem_toArray, List.getElem_cons_succ, List.getElem_cons_zero])
        (refine wpAnyH_take (i := 2) (v := ?_) rfl (by kernel_rfl) (by kernel_rfl) (by kernel_rfl) (fun _ _ _ h => h) (Or.inl ⟨by rfl, ?_⟩) (by assumption) ?_; rotate_left; focus (intro w hSw; (try dsimp only at hSw); go_simp; all_goals (with_reducible rfl))); (try simp only [Act.put, List.setIfInBounds_toArray, List.set_cons_zero, List.set_cons_succ, List.getElem_toArray, List.getElem_cons_succ, List.getElem_cons_zero])
        (refine wpAnyH_take (i := 3) (v := ?_) rfl (by kernel_rfl) (by kernel_rfl) (by kernel_rfl) (fun _ _ _ h => h) (Or.inl ⟨by rfl, ?_⟩) (by assumption) ?_; rotate_left; focus (intro w hSw; (try dsimp only at hSw); go_simp; all_goals (with_reducible rfl))); (try simp only [Act.put, List.setIfInBounds_toArray, List.set_cons_zero, List.set_cons_succ, List.getElem_toArray, List.getElem_cons_succ, List.getElem_cons_zero])
        (refine wpAnyH_take (i := 4) rfl (by kernel_rfl) (by kernel_rfl) (by kernel_rfl) (fun _ _ _ h => h) ((yieldsIf_load1 (by rfl) 33 _ rfl _ _ (by rfl) _ Tryz.underlying33 rfl _ (fun w h => h.1))) (by assumption) ?_); (try simp only [Act.put, List.setIfInBounds_toArray, List.set_cons_zero, List.set_cons_succ, List.getElem_toArray, List.getElem_cons_succ, List.getElem_cons_zero])
        (refine wpAnyH_take (i := 5) (v := ?_) rfl (by kernel_rfl) (by kernel_rfl) (by kernel_rfl) (fun _ _ _ h => h) (Or.inl ⟨by rfl, ?_⟩) (by assumption) ?_; rotate_left; focus (intro w hSw; (try dsimp only at hSw); go_simp; all_goals (with_reducible rfl))); (try simp only [Act.put, List.setIfInBounds_toArray, List.set_cons_zero, List.set_cons_succ, List.getElem_toArray, List.getElem_cons_succ, List.getElem_cons_zero])
        clear w2
        (refine wpAnyH_take (i := 7) (v := ?_) rfl (by kernel_rfl) (by kernel_rfl) (by kernel_rfl) (fun _ _ _ h => h) (Or.inl ⟨by rfl, ?_⟩) (by assumption) ?_; rotate_left; focus (intro w hSw; (try dsimp only at hSw); go_simp; all_goals (with_reducible rfl))); (try simp only [Act.put, List.setIfInBounds_toArray, List.set_cons_zero, List.set_cons_succ, List.getElem_toArray, List.getElem_cons_succ, List.getElem_cons_zero])
        (refine wpAnyH_take (i := 8) rfl (by kernel_rfl) (by kernel_rfl) (by kernel_rfl) (fun _ _ _ h => h) ((yieldsIf_load1 (by rfl) 22 _ rfl _ _ (by rfl) _ Tryz.underlying22 rfl _ (fun w h => h.2))) (by assumption) ?_); (try simp only [Act.put, List.setIfInBounds_toArray, List.set_cons_zero, List.set_cons_succ, List.getElem_toArray, List.getElem_cons_succ, List.getElem_cons_zero])
        have HT2 := Lib.hid (show 2 * X.turn < 18446744073709551616 by have := HT.out; omega)
        (refine wpAnyH_ready (rs := [6]) (by kernel_rfl) (by simp) (AllReadyH.cons rfl (fun K hK => ?_) AllReadyH.nil)); (rw [if_pos (by rfl)]); (go_simp; go_at_call 79; (refine (put_at _ [] (2 * (X.turn : Int)) 8 (2 * X.turn) 8 8 _ (.inl ⟨rfl, rfl⟩) (by omega) rfl rfl (by simp) (by omega) (by omega) HT2.out).mono ?_); rintro e W1 ⟨g1, cap1, junk1, rfl, hl1, hc1, hj1, hm1, hg1, hb1, hbl⟩; replace H := H.add (Fix.of_below hbl _) (blk g1 _) hb1 (fun k hk => by rw [show k = g1 from hk]; exact hg1) (fun k hk => hk.elim); clear hb1 hbl; simp only [List.nil_append, List.cons_append] at H hl1 hj1; (try dsimp only); refine hK.out _ _ ⟨row_cell (H.at 0 rfl) (lRow4 _ _ _ _ _ _ _ _ _), row_cell (H.at 6 rfl) (pR1 _ _)⟩ (fun hHeld2 => ?_); clear hK K) ; (try simp only [Act.put, List.setIfInBounds_toArray, List.set_cons_zero, List.set_cons_succ, List.getElem_toArray, List.getElem_cons_succ, List.getElem_cons_zero])
        (refine wpAnyH_ready (rs := [9]) (by kernel_rfl) (by simp) (AllReadyH.cons rfl (fun K hK => ?_) AllReadyH.nil)); (rw [if_pos (by rfl)]); (refine wp_append_st H 7 _ _ 22 rfl _ Tryz.underlying22 _ _ info_u8 rfl g1 8 cap1 (by rfl) _ rfl hc1 hj1 hm1 _ 248 capv (by rfl) (byteV bs) (by rw [byteV_length]; exact HBL.out) (HNW.out _ (H.at 5 rfl)) (byteV_one _) (by simp only [maxLen]; omega) (by omega) ?_; clear H; intro W2 g2 cap2 junk2 H hj2 hc2 hm2; simp only [List.set_cons_zero, List.set_cons_succ] at H; rw [take_byteV _ _ _ hl1] at H hj2; rw [show byteV (Lib.leBytes 8 (2 * X.turn)) ++ byteV bs = byteV (Lib.leBytes 8 (2 * X.turn) ++ bs) by simp [byteV]] at H hj2; refine hK.out _ _ ⟨row_cell (H.at 0 rfl) (lRow4 _ _ _ _ _ _ _ _ _), row_cell (H.at 6 rfl) (pR1 _ _)⟩ (fun hHeld3 => ?_); clear hK K) ; (try simp only [Act.put, List.setIfInBounds_toArray, List.set_cons_zero, List.set_cons_succ, List.getElem_toArray, List.getElem_cons_succ, List.getElem_cons_zero])
        (refine wpAnyH_take (i := 10) (v := ?_) rfl (by kernel_rfl) (by kernel_rfl) (by kernel_rfl) (fun _ _ _ h => h) (Or.inl ⟨by rfl, ?_⟩) (by assumption) ?_; rotate_left; focus (intro w hSw; (try dsimp only at hSw); go_simp; all_goals (with_reducible rfl))); (try simp only [Act.put, List.setIfInBounds_toArray, List.set_cons_zero, List.set_cons_succ, List.getElem_toArray, List.getElem_cons_succ, List.getElem_cons_zero])
        (refine wpAnyH_done (by kernel_rfl) ?_ _)
        clear hHeld hHeld2 hHeld3
        have HL2 := Lib.hid (show (Lib.leBytes 8 (2 * X.turn) ++ bs).length = 256 by rw [List.length_append, Lib.leBytes_length, HBL.out])
        have HQ := Lib.hid (show (X.place + 1 + j) % X.ring < X.ring from Nat.mod_lt _ (by have := HF.out.r1; omega))
        obtain ⟨q, hq⟩ : ∃ q, (X.place + 1 + j) % X.ring = q := ⟨_, rfl⟩
        have HE := Lib.hid hq
        rw [hq] at HQ
        clear hq
        go_wp2_with (first
          | (refine wpList_load1_st rfl 3 _ rfl _ _ rfl _ _ _ (H.at 0 rfl) _ Tryz.underlying3 rfl _ (lRow5 _ _ _ _ _ _ _ _ _) ?_)
          | (go_at_call 89; go_loud ((refine (at_calls (g := g) (gd := gd) (gm := gm) (X := X) (M := M) (rm := rm) (n := n) (D := D1) (own := own2) (rd := rd2) (H.take 4).bundle _ (X.place + 1 + j) (by omega) (by have := HF.out.r1; omega) HF.out.r2).mono ?_); rintro e W' ⟨rfl, rfl⟩; rw [HE.out]))
          | (go_at_call 88; go_loud ((refine (lwrite_ok (g := g) (gd := gd) (gm := gm) (X := X) (M := M) (rm := rm) (n := n) (D := D1) (own := own2) (rd := rd2) (H.take 4).bundle HO.out.calm (by have := HU.out; have := HJ.out; omega) _ (2 + q) (by omega) (by have := HQ.out; have := HF.out.fits; omega) _ (Lib.leBytes 8 (2 * X.turn) ++ bs) (argB_front (H.at 7 rfl) (St.notownL (Ls := logL g gd gm X M rm n D1 own2 rd2) (R := [rdA _ _, putsA _ _, blk g9 _, blk g2 _]) H 3 rfl) HL2.out hc2 (by omega)) HL2.out).mono ?_); rintro e W3 ⟨rfl, own3, rd3, hto⟩; replace H := (hto.front (R := [rdA _ _, putsA _ _, blk g9 _, blk g2 _]) H).take 6; clear hto)))
        go_roundw
        case rel => exact ⟨j + 1, D1.put (2 + q) (Lib.leBytes 8 (2 * X.turn) ++ bs), own3, rd3, congrArg _ (by omega), HLT.out, by have := HO.out.put (2 + q) (by have := HQ.out; omega) (Lib.leBytes 8 (2 * X.turn) ++ bs); exact this, H⟩
        case measure => have := HLT.out; simp [intOf]; omega
      · obtain rfl : j = ps.length := by omega
        have hji : ¬ ((ps.length : Int) < (ps.length : Int)) := by omega
        have tok1 : True := trivial
        have tok2 : True := trivial
        have e1 := Lib.hid (show 2 + X.place % X.ring = 2 + X.place by rw [Nat.mod_eq_of_lt HF.out.place])
        go_upto_block 2 with (first
          | (go_at_call 90; have _t := tok1; clear _t; go_loud ((refine (lflush_ok (g := g) (gd := gd) (gm := gm) (X := X) (M := M) (rm := rm) (n := n) (D := D1) (own := own2) (rd := rd2) (H.take 4).bundle HO.out.calm).mono ?_); rintro e W3 ⟨rfl, own3, rd3, hto⟩; replace H := hto.front (R := [rdA p (putV ps), putsA rp ps]) H; clear hto tok1; have HO2 := Lib.hid HO.out.flushed; clear HO; obtain ⟨D2, hD2⟩ : ∃ D2, D1.flushed = D2 := ⟨_, rfl⟩; rw [hD2] at H HO2; clear hD2))
          | (refine wpList_load1_st rfl 3 _ rfl _ _ rfl _ _ _ (H.at 0 rfl) _ Tryz.underlying3 rfl _ (lRow5 _ _ _ _ _ _ _ _ _) ?_)
          | (go_at_call 89; go_loud ((refine (at_calls (g := g) (gd := gd) (gm := gm) (X := X) (M := M) (rm := rm) (n := n) (D := D2) (own := own3) (rd := rd3) (H.take 4).bundle _ X.place rfl (by have := HF.out.r1; omega) HF.out.r2).mono ?_); rintro e W' ⟨rfl, rfl⟩; rw [e1.out]))
          | (go_at_call 91; go_loud ((refine (markOf_ok (g := g) (gd := gd) (gm := gm) (X := X) (M := M) (rm := rm) (n := n) (D := D2) (own := own3) (rd := rd3) (p := p) (cap := cap) (ps := ps) (rp := rp) H.bundle (HF.out.off HO2.out) HG.out (by have := HT.out; omega)).mono ?_); rintro e W3 ⟨gk, capk, lk, junkk, rfl, hlk, hck, hto⟩; replace H := hto.front2 (R := []) H; clear hto; simp only [List.append_nil] at H))
          | (go_at_call 88; go_loud ((refine (lwrite_ok (g := g) (gd := gd) (gm := gm) (X := X) (M := M) (rm := rm) (n := n) (D := D2) (own := own3) (rd := rd3) (H.take 4).bundle HO2.out.calm (by have := HU.out; have := HG.out.most; omega) _ (2 + X.place) rfl HP.out.2 _ lk (argB_front (H.at 6 rfl) (St.notownL (Ls := logL g gd gm X M rm n D2 own3 rd3) (R := [rdA p (putV ps), putsA rp ps, blk gk _]) H 2 rfl) hlk hck (by omega)) hlk).mono ?_); rintro e W3 ⟨rfl, own4, rd4, hto⟩; replace H := (hto.front (R := [rdA p (putV ps), putsA rp ps, blk gk _]) H).take 6; clear hto; have HO3 := Lib.hid (HO2.out.put (2 + X.place) HP.out.1 lk); obtain ⟨D3, hD3⟩ : ∃ D3, D2.put (2 + X.place) lk = D3 := ⟨_, rfl⟩; rw [hD3] at H HO3; clear hD3; replace H : St O R w _ (logL g gd gm X M rm n D3 own4 rd4 ++ [rdA p (putV ps), putsA rp ps]) := H))
          | (go_at_call 90; have _t := tok2; clear _t; go_loud ((refine (lflush_ok (g := g) (gd := gd) (gm := gm) (X := X) (M := M) (rm := rm) (n := n) (D := D3) (own := own4) (rd := rd4) (H.take 4).bundle HO3.out.calm).mono ?_); rintro e W3 ⟨rfl, own5, rd5, hto⟩; replace H := hto.front (R := [rdA p (putV ps), putsA rp ps]) H; clear hto tok2; have HO4 := Lib.hid HO3.out.flushed; obtain ⟨D4, hD4⟩ : ∃ D4, D3.flushed = D4 := ⟨_, rfl⟩; rw [hD4] at H HO4; clear hD4)))
        go_wp2
        go_loopw [123, 16] (fun i _ wr => ∃ (j : Nat) (M1 : DataW Value) (rm1 : Nat → Prop), i = .int .i64 (j : Int) ∧ j ≤ ps.length ∧
            St O R w wr (logL g gd gm (X.took ps j) M1 rm1 n D4 own5 rd5 ++ [rdA p (putV ps), putsA rp ps])) (fun i _ _ => ps.length - (intOf i).toNat)
        case atStart => exact ⟨0, M, rm, rfl, Nat.zero_le _, H⟩
        case round =>
          clear H
          obtain ⟨j, M1, rm1, rfl, hj, H⟩ := hrel
          rcases Nat.lt_or_ge j ps.length with hlt | hge2
          · obtain ⟨ga, offa, rfl, hcell0⟩ := rdA_at (H.at 4 rfl) (putV_at ps j hlt).1
            obtain ⟨ga', offa', e2, hcell1⟩ := rdA_at (H.at 4 rfl) (putV_at ps j hlt).2
            simp only [Option.some.injEq, Addr.mk.injEq] at e2
            obtain ⟨rfl, rfl, _⟩ := e2
            have hbl := HG.out.len _ (List.getElem_mem hlt)
            have hhn := HG.out.home _ (List.getElem_mem hlt)
            obtain ⟨gv, offv, capv, hval, hcv, hrv, hbv⟩ := (H.at 5 rfl : PutsIs _ rp ps).val j hlt hbl
            have HNW := Lib.hid (fun (W : World) (h : PutsIs W rp ps) => h.at_ j hlt hbl hval)
            have HTK := Lib.hid (took_succ X ps j hlt)
            rw [hval, ← Nat.add_assoc] at hcell1
            obtain ⟨h, hh⟩ : ∃ h, ps[j].home = h := ⟨_, rfl⟩
            obtain ⟨bs, hbs⟩ : ∃ bs, ps[j].bs = bs := ⟨_, rfl⟩
            rw [hh] at hcell0 hhn HTK
            rw [hbs] at HNW hbl HTK
            have hji : (j : Int) < (ps.length : Int) := by omega
            have hj0 : 0 ≤ (j : Int) := by omega
            have HBL := Lib.hid hbl
            have HHN := Lib.hid hhn
            have HLT := Lib.hid hlt
            clear hbv hval hcv hbl hh hbs hhn
            obtain ⟨X1, hX1⟩ : ∃ X1, X.took ps j = X1 := ⟨_, rfl⟩
            rw [hX1] at H HTK
            clear hX1
            go_wp2_with (first
              | (refine wpList_alloc_st H rfl 36 rfl _ zero_put ?_; clear H; intro W g9 H; rw [cells_put] at H; simp only [logL, List.nil_append, List.cons_append] at H)
              | (refine wpList_storerow_st H 6 rfl 36 _ _ rfl _ (pR (h : Int) (.slice (some ⟨gv, offv, none⟩) 248 capv)).toArray rfl rfl _ _ rfl size_put rfl (pR_all _ _ _ _) ?_; clear H; intro W H; simp only [List.set_cons_zero, List.set_cons_succ] at H))
            replace H := H.drew
            have HMp := Lib.hid (H.at 1 rfl : World.ownsMap _ Tryz.prog 3 RV gm (Go.Maps.size M1) M1).isMap
            refine wp_region_held_drew (S := fun w' => w'.cell? ⟨g, 8, none⟩ = some (.map (some gm)) ∧ w'.cell? ⟨g9, 0, none⟩ = some (.int .i64 (h : Int)) ∧ w'.cell? ⟨g9, 1, none⟩ = some (.slice (some ⟨gv, offv, none⟩) 248 capv)) (by kernel_rfl) ⟨row_cell (H.at 0 rfl) (lRow8 _ _ _ _ _ _ _ _ _), row_cell (H.at 6 rfl) (pR0 _ _), row_cell (H.at 6 rfl) (pR1 _ _)⟩ (fun hHeld => ?_)
            (refine wpAnyH_take (i := 0) (v := ?_) rfl (by kernel_rfl) (by kernel_rfl) (by kernel_rfl) (fun _ _ _ h => h) (Or.inl ⟨by rfl, ?_⟩) (by assumption) ?_; rotate_left; focus (intro w hSw; (try dsimp only at hSw); go_simp; all_goals (with_reducible rfl))); (try simp only [Act.put, List.setIfInBounds_toArray, List.set_cons_zero, List.set_cons_succ, List.getElem_toArray, List.getElem_cons_succ, List.getElem_cons_zero])
            (refine wpAnyH_take (i := 1) (v := ?_) rfl (by kernel_rfl) (by kernel_rfl) (by kernel_rfl) (fun _ _ _ h => h) (Or.inl ⟨by rfl, ?_⟩) (by assumption) ?_; rotate_left; focus (intro w hSw; (try dsimp only at hSw); go_simp; all_goals (with_reducible rfl))); (try simp only [Act.put, List.setIfInBounds_toArray, List.set_cons_zero, List.set_cons_succ, List.getElem_toArray, List.getElem_cons_succ, List.getElem_cons_zero])
            (refine wpAnyH_take (i := 2) (v := ?_) rfl (by kernel_rfl) (by kernel_rfl) (by kernel_rfl) (fun _ _ _ h => h) (Or.inl ⟨by rfl, ?_⟩) (by assumption) ?_; rotate_left; focus (intro w hSw; (try dsimp only at hSw); go_simp; all_goals (with_reducible rfl))); (try simp only [Act.put, List.setIfInBounds_toArray, List.set_cons_zero, List.set_cons_succ, List.getElem_toArray, List.getElem_cons_succ, List.getElem_cons_zero])
            (refine wpAnyH_take (i := 3) rfl (by kernel_rfl) (by kernel_rfl) (by kernel_rfl) (fun _ _ _ h => h) ((yieldsIf_load1 (by rfl) 74 _ rfl _ _ (by rfl) _ Tryz.underlying74 rfl _ (fun w h => h.1))) (by assumption) ?_); (try simp only [Act.put, List.setIfInBounds_toArray, List.set_cons_zero, List.set_cons_succ, List.getElem_toArray, List.getElem_cons_succ, List.getElem_cons_zero])
            (refine wpAnyH_take (i := 4) (v := ?_) rfl (by kernel_rfl) (by kernel_rfl) (by kernel_rfl) (fun _ _ _ h => h) (Or.inl ⟨by rfl, ?_⟩) (by assumption) ?_; rotate_left; focus (intro w hSw; (try dsimp only at hSw); go_simp; all_goals (with_reducible rfl))); (try simp only [Act.put, List.setIfInBounds_toArray, List.set_cons_zero, List.set_cons_succ, List.getElem_toArray, List.getElem_cons_succ, List.getElem_cons_zero])
            (refine wpAnyH_take (i := 5) rfl (by kernel_rfl) (by kernel_rfl) (by kernel_rfl) (fun _ _ _ h => h) ((yieldsIf_load1 (by rfl) 3 _ rfl _ _ (by rfl) _ Tryz.underlying3 rfl _ (fun w h => h.2.1))) (by assumption) ?_); (try simp only [Act.put, List.setIfInBounds_toArray, List.set_cons_zero, List.set_cons_succ, List.getElem_toArray, List.getElem_cons_succ, List.getElem_cons_zero])
            (refine wpAnyH_take (i := 6) (v := ?_) rfl (by kernel_rfl) (by kernel_rfl) (by kernel_rfl) (fun _ _ _ h => h) (Or.inl ⟨by rfl, ?_⟩) (by assumption) ?_; rotate_left; focus (intro w hSw; (try dsimp only at hSw); go_simp; all_goals (with_reducible rfl))); (try simp only [Act.put, List.setIfInBounds_toArray, List.set_cons_zero, List.set_cons_succ, List.getElem_toArray, List.getElem_cons_succ, List.getElem_cons_zero])
            (refine wpAnyH_take (i := 7) rfl (by kernel_rfl) (by kernel_rfl) (by kernel_rfl) (fun _ _ _ h => h) ((yieldsIf_load1 (by rfl) 22 _ rfl _ _ (by rfl) _ Tryz.underlying22 rfl _ (fun w h => h.2.2))) (by assumption) ?_); (try simp only [Act.put, List.setIfInBounds_toArray, List.set_cons_zero, List.set_cons_succ, List.getElem_toArray, List.getElem_cons_succ, List.getElem_cons_zero])
            (refine wpAnyH_ready (rs := [8]) (by kernel_rfl) (by simp) (AllReadyH.cons rfl (fun K hK => ?_) AllReadyH.nil)); (rw [if_pos (by rfl)]); (go_simp; go_at_call 54; (refine (clone_n (HNW.out _ (H.at 5 rfl)).1 HBL.out (by omega) (HNW.out _ (H.at 5 rfl)).2).mono ?_); rintro e W1 ⟨gc, capc, junkc, rfl, hcc, hgc, hbc, hbl⟩; replace H := H.add (Fix.of_below hbl _) (blk gc _) hbc (fun k hk => by rw [show k = gc from hk]; exact hgc) (fun k hk => hk.elim); clear hbc hbl; simp only [List.nil_append, List.cons_append] at H; (try dsimp only); refine hK.out _ _ ⟨row_cell (H.at 0 rfl) (lRow8 _ _ _ _ _ _ _ _ _), row_cell (H.at 6 rfl) (pR0 _ _), row_cell (H.at 6 rfl) (pR1 _ _)⟩ (fun hHeld2 => ?_); clear hK K) ; (try simp only [Act.put, List.setIfInBounds_toArray, List.set_cons_zero, List.set_cons_succ, List.getElem_toArray, List.getElem_cons_succ, List.getElem_cons_zero])
            (refine wpAnyH_ready (rs := [9]) (by kernel_rfl) (by simp) (AllReadyH.cons rfl (fun K hK => ?_) AllReadyH.nil)); (rw [if_pos (by rfl)]); (obtain ⟨W3, hrun, H3⟩ := H.mapStore 1 rfl (by have := (H.at 2 rfl : MapIs _ rm1 M1 X1.m n 248).size_le (H.at 1 rfl); have := HF.out.fits; have := HF.out.top; omega) h (by have := HHN.out; have := HF.out.fits; have := HF.out.top; omega) (.slice (some ⟨gc, 0, none⟩) 248 capc); refine wp_mapupdate_run 74 _ _ _ rfl _ _ _ (by rfl) (by rfl) (by rfl) hrun ?_; simp only [List.set_cons_zero, List.set_cons_succ] at H3; refine hK.out _ _ ⟨row_cell (H3.at 0 rfl) (lRow8 _ _ _ _ _ _ _ _ _), row_cell (H3.at 6 rfl) (pR0 _ _), row_cell (H3.at 6 rfl) (pR1 _ _)⟩ (fun hHeld3 => ?_); clear hK K hrun) ; (try simp only [Act.put, List.setIfInBounds_toArray, List.set_cons_zero, List.set_cons_succ, List.getElem_toArray, List.getElem_cons_succ, List.getElem_cons_zero])
            (refine wpAnyH_done (by kernel_rfl) ?_ _)
            clear hHeld hHeld2 hHeld3 H
            have J := H3.join 7 2 (A' := mapIsA (fun k => rm1 k ∨ k = gc) (M1.put (keyI h) (.held (.slice (some ⟨gc, 0, none⟩) 248 capc))) (fun k => if k = h then some bs else X1.m k) n 248) rfl rfl
              ((H3.at 2 rfl : MapIs _ rm1 M1 X1.m n 248).put HMp.out (fun k hk => .inl hk) (fun k hk => by
                rcases hk with hk | rfl
                · exact (H3.at 2 rfl : MapIs _ rm1 M1 X1.m n 248).lt k hk
                · exact (Array.getElem?_eq_some_iff.1 (H3.at 7 rfl : _ = some _)).1) HBL.out (.inr ⟨gc, 0, capc, by rw [HBL.out], by rw [HBL.out]; exact hcc, .inr (.inr rfl), BytesAt.front (H3.at 7 rfl)⟩) h HHN.out) (fun k hk => hk.elim) (fun k hk => by
                rcases hk with hk | rfl
                · exact .inl (.inr hk)
                · exact .inr (.inl rfl))
            clear H3
            have H := J.take 6
            clear J
            replace H : St O R w _ (logL g gd gm { X1 with m := fun k => if k = h then some bs else X1.m k } (M1.put (keyI h) (.held (.slice (some ⟨gc, 0, none⟩) 248 capc))) (fun k => rm1 k ∨ k = gc) n D4 own5 rd5 ++ [rdA _ (putV ps), putsA rp ps]) := H
            rw [← HTK.out] at H
            go_wp2
            go_roundw
            case rel => exact ⟨j + 1, _, _, congrArg _ (by omega), HLT.out, H⟩
            case measure => have := HLT.out; simp [intOf]; omega
          · obtain rfl : j = ps.length := by omega
            have hji2 : ¬ ((ps.length : Int) < (ps.length : Int)) := by omega
            have et : X.took ps ps.length = { X with m := putM X.m ps } := by unfold LS.took; rw [List.take_length]
            rw [et] at H
            clear et
            replace H : St O R w _ [blk g (.cells (lRow (.pointer (some ⟨gd, 0, none⟩)) X.lives false X.s X.turn X.place X.ring X.free (.map (some gm))).toArray 84 (0, 0)), mapA gm (Go.Maps.size M1) M1, mapIsA rm1 M1 (putM X.m ps) n 248, dA gd D4 own5 rd5, rdA p (putV ps), putsA rp ps] := H
            go_upto_region 36 with (first
              | (refine wpList_load1_st rfl 33 _ rfl _ _ rfl _ _ _ (H.at 0 rfl) _ Tryz.underlying33 rfl _ (lRow4 _ _ _ _ _ _ _ _ _) ?_)
              | (refine wpList_store1_st H 0 rfl 33 _ _ rfl _ _ (.int .u64 ((X.turn : Int) + 1)) rfl rfl rfl _ _ rfl rfl (by simp [lRow]) ?_; clear H; intro W H; (try simp only [logL, List.set_cons_zero, List.set_cons_succ] at H); (try simp only [lSet2, lSet3, lSet4, lSet5, lSet6, lSet7, lSet8] at H)))
            obtain ⟨q, hq⟩ : ∃ q, (X.place + 1 + ps.length) % X.ring = q := ⟨_, rfl⟩
            have HQ := Lib.hid hq
            have hpl : X.place < 512 := by have := HF.out.place; have := HF.out.r2; omega
            have hr0 : ((X.ring : Int) == 0) = false := beq_eq_false_iff_ne.2 (by have := HF.out.r1; omega)
            have hr1 : ¬ ((X.ring : Int) = 0) := by have := HF.out.r1; omega
            have hr2 : X.ring ≠ 0 := by have := HF.out.r1; omega
            have hw1 : IntKind.i64.wrap ((X.place : Int) + 1) = (X.place : Int) + 1 := by rw [IntKind.wrap_i64]; omega
            have hw2 : IntKind.i64.wrap ((X.place : Int) + 1 + (ps.length : Int)) = (X.place : Int) + 1 + (ps.length : Int) := by rw [IntKind.wrap_i64]; omega
            have hqt : ((X.place : Int) + 1 + (ps.length : Int)).tmod (X.ring : Int) = (q : Int) := by rw [Int.tmod_eq_emod_of_nonneg (by omega), ← hq]; rfl
            clear hq
            (try simp only [Act.put])
            replace H := H.drew
            refine wp_region_held_drew (S := fun w' => w'.cell? ⟨g, 6, none⟩ = some (.int .i64 (X.ring : Int))) (by kernel_rfl) (row_cell (H.at 0 rfl) (lRow6 _ _ _ _ _ _ _ _ _)) (fun hHeld => ?_)
            (refine wpAnyH_take (i := 0) (v := ?_) rfl (by kernel_rfl) (by kernel_rfl) (by kernel_rfl) (fun _ _ _ h => h) (Or.inl ⟨by rfl, ?_⟩) (by assumption) ?_; rotate_left; focus (intro w hSw; (try dsimp only at hSw); go_simp; all_goals (with_reducible rfl))); (try simp only [Act.put, List.setIfInBounds_toArray, List.set_cons_zero, List.set_cons_succ, List.getElem_toArray, List.getElem_cons_succ, List.getElem_cons_zero])
            (refine wpAnyH_take (i := 1) (v := ?_) rfl (by kernel_rfl) (by kernel_rfl) (by kernel_rfl) (fun _ _ _ h => h) (Or.inl ⟨by rfl, ?_⟩) (by assumption) ?_; rotate_left; focus (intro w hSw; (try dsimp only at hSw); go_simp; all_goals (with_reducible rfl))); (try simp only [Act.put, List.setIfInBounds_toArray, List.set_cons_zero, List.set_cons_succ, List.getElem_toArray, List.getElem_cons_succ, List.getElem_cons_zero])
            (refine wpAnyH_take (i := 2) (v := ?_) rfl (by kernel_rfl) (by kernel_rfl) (by kernel_rfl) (fun _ _ _ h => h) (Or.inl ⟨by rfl, ?_⟩) (by assumption) ?_; rotate_left; focus (intro w hSw; (try dsimp only at hSw); go_simp; all_goals (with_reducible rfl))); (try simp only [Act.put, List.setIfInBounds_toArray, List.set_cons_zero, List.set_cons_succ, List.getElem_toArray, List.getElem_cons_succ, List.getElem_cons_zero])
            (refine wpAnyH_take (i := 3) (v := ?_) rfl (by kernel_rfl) (by kernel_rfl) (by kernel_rfl) (fun _ _ _ h => h) (Or.inl ⟨by rfl, ?_⟩) (by assumption) ?_; rotate_left; focus (intro w hSw; (try dsimp only at hSw); go_simp; all_goals (with_reducible rfl))); (try simp only [Act.put, List.setIfInBounds_toArray, List.set_cons_zero, List.set_cons_succ, List.getElem_toArray, List.getElem_cons_succ, List.getElem_cons_zero])
            (refine wpAnyH_take (i := 4) (v := ?_) rfl (by kernel_rfl) (by kernel_rfl) (by kernel_rfl) (fun _ _ _ h => h) (Or.inl ⟨by rfl, ?_⟩) (by assumption) ?_; rotate_left; focus (intro w hSw; (try dsimp only at hSw); go_simp; all_goals (with_reducible rfl))); (try simp only [Act.put, List.setIfInBounds_toArray, List.set_cons_zero, List.set_cons_succ, List.getElem_toArray, List.getElem_cons_succ, List.getElem_cons_zero])
            (refine wpAnyH_take (i := 7) (v := ?_) rfl (by kernel_rfl) (by kernel_rfl) (by kernel_rfl) (fun _ _ _ h => h) (Or.inl ⟨by rfl, ?_⟩) (by assumption) ?_; rotate_left; focus (intro w hSw; (try dsimp only at hSw); go_simp; all_goals (with_reducible rfl))); (try simp only [Act.put, List.setIfInBounds_toArray, List.set_cons_zero, List.set_cons_succ, List.getElem_toArray, List.getElem_cons_succ, List.getElem_cons_zero])
            (refine wpAnyH_take (i := 8) (v := ?_) rfl (by kernel_rfl) (by kernel_rfl) (by kernel_rfl) (fun _ _ _ h => h) (Or.inl ⟨by rfl, ?_⟩) (by assumption) ?_; rotate_left; focus (intro w hSw; (try dsimp only at hSw); go_simp; all_goals (with_reducible rfl))); (try simp only [Act.put, List.setIfInBounds_toArray, List.set_cons_zero, List.set_cons_succ, List.getElem_toArray, List.getElem_cons_succ, List.getElem_cons_zero])
            (refine wpAnyH_take (i := 10) (v := ?_) rfl (by kernel_rfl) (by kernel_rfl) (by kernel_rfl) (fun _ _ _ h => h) (Or.inl ⟨by rfl, ?_⟩) (by assumption) ?_; rotate_left; focus (intro w hSw; (try dsimp only at hSw); go_simp; all_goals (with_reducible rfl))); (try simp only [Act.put, List.setIfInBounds_toArray, List.set_cons_zero, List.set_cons_succ, List.getElem_toArray, List.getElem_cons_succ, List.getElem_cons_zero])
            (refine wpAnyH_take (i := 11) (v := ?_) rfl (by kernel_rfl) (by kernel_rfl) (by kernel_rfl) (fun _ _ _ h => h) (Or.inl ⟨by rfl, ?_⟩) (by assumption) ?_; rotate_left; focus (intro w hSw; (try dsimp only at hSw); go_simp; all_goals (with_reducible rfl))); (try simp only [Act.put, List.setIfInBounds_toArray, List.set_cons_zero, List.set_cons_succ, List.getElem_toArray, List.getElem_cons_succ, List.getElem_cons_zero])
            (refine wpAnyH_take (i := 12) (v := ?_) rfl (by kernel_rfl) (by kernel_rfl) (by kernel_rfl) (fun _ _ _ h => h) (Or.inl ⟨by rfl, ?_⟩) (by assumption) ?_; rotate_left; focus (intro w hSw; (try dsimp only at hSw); go_simp; all_goals (with_reducible rfl))); (try simp only [Act.put, List.setIfInBounds_toArray, List.set_cons_zero, List.set_cons_succ, List.getElem_toArray, List.getElem_cons_succ, List.getElem_cons_zero])
            (refine wpAnyH_take (i := 13) (v := ?_) rfl (by kernel_rfl) (by kernel_rfl) (by kernel_rfl) (fun _ _ _ h => h) (Or.inl ⟨by rfl, ?_⟩) (by assumption) ?_; rotate_left; focus (intro w hSw; (try dsimp only at hSw); go_simp; all_goals (with_reducible rfl))); (try simp only [Act.put, List.setIfInBounds_toArray, List.set_cons_zero, List.set_cons_succ, List.getElem_toArray, List.getElem_cons_succ, List.getElem_cons_zero])
            (refine wpAnyH_take (i := 14) rfl (by kernel_rfl) (by kernel_rfl) (by kernel_rfl) (fun _ _ _ h => h) ((yieldsIf_load1 (by rfl) 3 _ rfl _ _ (by rfl) _ Tryz.underlying3 rfl _ (fun w h => h))) (by assumption) ?_); (try simp only [Act.put, List.setIfInBounds_toArray, List.set_cons_zero, List.set_cons_succ, List.getElem_toArray, List.getElem_cons_succ, List.getElem_cons_zero])
            (refine wpAnyH_ready (rs := [5]) (by kernel_rfl) (by simp) (AllReadyH.cons rfl (fun K hK => ?_) AllReadyH.nil)); (rw [if_pos (by rfl)]); (refine wp_load1 3 _ rfl g 5 (by rfl) _ Tryz.underlying3 rfl _ (row_cell (H.at 0 rfl) (lRow5 _ _ _ _ _ _ _ _ _)) ?_; refine hK.out _ _ (row_cell (H.at 0 rfl) (lRow6 _ _ _ _ _ _ _ _ _)) (fun hHeld2 => ?_); clear hK K) ; (try simp only [Act.put, List.setIfInBounds_toArray, List.set_cons_zero, List.set_cons_succ, List.getElem_toArray, List.getElem_cons_succ, List.getElem_cons_zero])
            (refine wpAnyH_take (i := 6) (v := ?_) rfl (by kernel_rfl) (by kernel_rfl) (by kernel_rfl) (fun _ _ _ h => h) (Or.inl ⟨by rfl, ?_⟩) (by assumption) ?_; rotate_left; focus (intro w hSw; (try dsimp only at hSw); go_simp; all_goals (with_reducible rfl))); (try simp only [Act.put, List.setIfInBounds_toArray, List.set_cons_zero, List.set_cons_succ, List.getElem_toArray, List.getElem_cons_succ, List.getElem_cons_zero])
            (refine wpAnyH_take (i := 9) (v := ?_) rfl (by kernel_rfl) (by kernel_rfl) (by kernel_rfl) (fun _ _ _ h => h) (Or.inl ⟨by rfl, ?_⟩) (by assumption) ?_; rotate_left; focus (intro w hSw; (try dsimp only at hSw); go_simp; all_goals (with_reducible rfl))); (try simp only [Act.put, List.setIfInBounds_toArray, List.set_cons_zero, List.set_cons_succ, List.getElem_toArray, List.getElem_cons_succ, List.getElem_cons_zero])
            (refine wpAnyH_take (i := 15) (v := ?_) rfl (by kernel_rfl) (by kernel_rfl) (by kernel_rfl) (fun _ _ _ h => h) (Or.inl ⟨by rfl, ?_⟩) (by assumption) ?_; rotate_left; focus (intro w hSw; (try dsimp only at hSw); go_simp; all_goals (with_reducible rfl))); (try simp only [Act.put, List.setIfInBounds_toArray, List.set_cons_zero, List.set_cons_succ, List.getElem_toArray, List.getElem_cons_succ, List.getElem_cons_zero])
            (refine wpAnyH_take (i := 16) (v := ?_) rfl (by kernel_rfl) (by kernel_rfl) (by kernel_rfl) (fun _ _ _ h => h) (Or.inl ⟨by rfl, ?_⟩) (by assumption) ?_; rotate_left; focus (intro w hSw; (try dsimp only at hSw); go_simp; all_goals (with_reducible rfl))); (try simp only [Act.put, List.setIfInBounds_toArray, List.set_cons_zero, List.set_cons_succ, List.getElem_toArray, List.getElem_cons_succ, List.getElem_cons_zero])
            (refine wpAnyH_take (i := 17) (v := ?_) rfl (by kernel_rfl) (by kernel_rfl) (by kernel_rfl) (fun _ _ _ h => h) (Or.inl ⟨by rfl, ?_⟩) (by assumption) ?_; rotate_left; focus (intro w hSw; (try dsimp only at hSw); go_simp; all_goals (with_reducible rfl))); (try simp only [Act.put, List.setIfInBounds_toArray, List.set_cons_zero, List.set_cons_succ, List.getElem_toArray, List.getElem_cons_succ, List.getElem_cons_zero])
            (refine wpAnyH_take (i := 18) (v := ?_) rfl (by kernel_rfl) (by kernel_rfl) (by kernel_rfl) (fun _ _ _ h => h) (Or.inl ⟨by rfl, ?_⟩) (by assumption) ?_; rotate_left; focus (intro w hSw; (try dsimp only at hSw); go_simp; all_goals (with_reducible rfl))); (try simp only [Act.put, List.setIfInBounds_toArray, List.set_cons_zero, List.set_cons_succ, List.getElem_toArray, List.getElem_cons_succ, List.getElem_cons_zero])
            (refine wpAnyH_ready (rs := [19]) (by kernel_rfl) (by simp) (AllReadyH.cons rfl (fun K hK => ?_) AllReadyH.nil)); (rw [if_pos (by rfl)]); (refine wp_store1_st H 0 3 _ _ rfl g 5 (.int .i64 (q : Int)) (by rfl) (by rfl) rfl _ _ rfl rfl (by simp [lRow]) ?_; clear H; intro W H; simp only [List.set_cons_zero, lSet5] at H; refine hK.out _ _ (row_cell (H.at 0 rfl) (lRow6 _ _ _ _ _ _ _ _ _)) (fun hHeld3 => ?_); clear hK K) ; (try simp only [Act.put, List.setIfInBounds_toArray, List.set_cons_zero, List.set_cons_succ, List.getElem_toArray, List.getElem_cons_succ, List.getElem_cons_zero])
            (refine wpAnyH_done (by kernel_rfl) ?_ _)
            clear hHeld hHeld2 hHeld3 hw1 hw2 hqt hr0 hr1 hr2
            have hfr0 : 0 ≤ X.free := HF.out.free.1
            have hfr1 : X.free ≤ 512 := by have := HF.out.free.2; have := HF.out.r2; omega
            go_wp2_with (first
              | (refine wpList_load1_st rfl 3 _ rfl _ _ rfl _ _ _ (H.at 0 rfl) _ Tryz.underlying3 rfl _ (lRow7 _ _ _ _ _ _ _ _ _) ?_)
              | (refine wpList_store1_st H 0 rfl 3 _ _ rfl _ _ (.int .i64 (X.free - ((ps.length : Int) + 1))) rfl rfl rfl _ _ rfl rfl (by simp [lRow]) ?_; clear H; intro W H; (try simp only [logL, List.set_cons_zero, List.set_cons_succ] at H); (try simp only [lSet2, lSet3, lSet4, lSet5, lSet6, lSet7, lSet8] at H)))
            go_ret
            have HX : St O R w W (logL g gd gm (X.done ps) M1 rm1 n D4 own5 rd5 ++ [rdA p (putV ps), putsA rp ps]) := by
              have e1 : ((X.done ps).turn : Int) = (X.turn : Int) + 1 := by show ((X.turn + 1 : Nat) : Int) = _; omega
              have e2 : ((X.done ps).place : Int) = (q : Int) := by show (((X.place + 1 + ps.length) % X.ring : Nat) : Int) = _; rw [HQ.out]
              have e3 : (X.done ps).free = X.free - ((ps.length : Int) + 1) := by show X.free - ((ps.length + 1 : Nat) : Int) = _; omega
              unfold logL
              rw [e1, e2, e3]
              exact H
            exact ⟨rfl, M1, rm1, D4, own5, rd5, u + 1 + ps.length + 1, by have := HG.out.most; omega, HO4.out, HX.bunTo⟩

end Go.Proofs.YtajlhloapglafaaGreatDoor
