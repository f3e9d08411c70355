/- Texts of this proof, packed. -/
import Derived.Test.YtlgciddnpinpbaaGreatDoorPkBase4
import Derived.Test.YtlgciddnpinpbaaGreatDoorPqR
import Derived.Test.YtlgciddnpinpbaaGreatDoorPqB
import Derived.Test.YtlgciddnpinpbaaGreatDoorPqC
import Derived.Test.YtlgciddnpinpbaaGreatDoorPqE
import Derived.Test.YtlgciddnpinpbaaGreatDoorPqD
set_option linter.unusedSimpArgs false
set_option linter.unusedVariables false
namespace Go.Proofs.YtlgciddnpinpbaaGreatDoor
open Go.RowKit
set_option maxRecDepth 100000
section
variable {rest : List Oper} {ops : Array Oper} {o : Oper} {a : Act} {Q : Exit → Act → World → Prop} {W : World} {P : Program}
theorem wpList_load_cells (hwt : Region.wanted o (yielded ops a.tmps) = true) (ty : TypeId) (x : Operand) (ho : o.op = .load ty x) (ad : Addr) (hx : a.eval x = .pointer (some ad))
  (d : TypeDesc) (hu : P.underlying ty = some d) (hd : (match d with | .struct _ | .array _ _ => true | _ => false) = true) (xs : List Value) (hi : (P.info? ty).map (·.size) = some xs.length)
  (hc : ∀ j u,xs[j]? = some u → W.cell? (ad.add j) = some u) (h : wpList P ops Q rest (a.put o.dst (.agg xs.toArray)) W) : wpList P ops Q (o :: rest) a W := by
 refine wpList_want hwt fun K hK => ?_
 cases hq : P.info? ty with
 | none => simp [hq] at hi
 | some i =>
  have hs : i.size = xs.length := by simpa [hq] using hi
  have hagg : (isAgg ty).run P W = .ok true W := by
   unfold isAgg
   rw [Sem.run_bind,run_underlying hu W]
   cases d <;> simp_all
  have hl := run_loadCells_list (P := P) W ad xs hc
  unfold Oper.wp execOp
  simp only [ho,hx,Instr.loadAt,Instr.sureAddr,Sem.run_bind,Sem.run_pure,Result.andThen_ok,loadVar,hagg]
  simp [sizeOf,typeInfo,hq,hs,hl,Result.andThen]
  exact hK _ _ h
end
def leafP (ps : List PairT) (j : Nat) : List UInt8 := ([1,UInt8.ofNat ps.length] ++ List.replicate 6 0 ++ (ps.take j).flatMap PairT.b) ++ List.replicate (240 - j * 40) 0
theorem leafP_0 (ps : List PairT) : leafP ps 0 = ((List.replicate 248 (0 : UInt8)).set 1 (UInt8.ofNat ps.length)).set 0 1 := by
 simp [leafP]
theorem leafP_end (ps : List PairT) : leafP ps ps.length = encLeaf ps := by
 rw [leafP,encLeaf,List.take_of_length_le (Nat.le_refl _),Nat.mul_comm]
 simp only [List.append_assoc]
theorem leafP_head (ps : List PairT) (hp : ∀ p ∈ ps,PairOk p) (j : Nat) (hj : j ≤ ps.length) : ([1,UInt8.ofNat ps.length] ++ List.replicate 6 0 ++ (ps.take j).flatMap PairT.b).length = 8 + j * 40 := by
 simp only [List.length_append,List.length_replicate,List.length_cons,List.length_nil]
 rw [flat_pairs _ (fun q hq => hp q (List.mem_of_mem_take hq)),List.length_take,Nat.min_eq_left hj]
theorem leafP_len (ps : List PairT) (hp : ∀ p ∈ ps,PairOk p) (j : Nat) (hj : j ≤ ps.length) (h6 : ps.length ≤ 6) : (leafP ps j).length = 248 := by
 rw [leafP,List.length_append,leafP_head ps hp j hj,List.length_replicate];omega
theorem leafP_step (ps : List PairT) (hp : ∀ p ∈ ps,PairOk p) (j : Nat) (p : PairT) (hj : ps[j]? = some p) (h6 : ps.length ≤ 6) :
  (byteV (leafP ps j)).take (8 + j * 40) ++ byteV p.k ++ (byteV (leafP ps j)).drop (8 + j * 40 + (byteV p.k).length) = byteV ((leafP ps j).take (8 + j * 40) ++ p.k ++ List.replicate (240 - j * 40 - 32) 0) ∧
  (byteV ((leafP ps j).take (8 + j * 40) ++ p.k ++ List.replicate (240 - j * 40 - 32) 0)).take (8 + j * 40 + 32) ++ byteV p.v ++ (byteV ((leafP ps j).take (8 + j * 40) ++ p.k ++ List.replicate (240 - j * 40 - 32) 0)).drop (8 + j * 40 + 32 + (byteV p.v).length) = byteV (leafP ps (j + 1)) := by
 have hlt : j < ps.length := (List.getElem?_eq_some_iff.1 hj).1
 have hh := leafP_head ps hp j (by omega)
 have hg := hp p (List.mem_of_getElem? hj)
 obtain ⟨A,hA⟩ : ∃ A,[1,UInt8.ofNat ps.length] ++ List.replicate 6 0 ++ (ps.take j).flatMap PairT.b = A := ⟨_,rfl⟩
 rw [hA] at hh
 have e0 : leafP ps j = A ++ List.replicate (240 - j * 40) 0 := by rw [leafP,hA]
 have e1 : leafP ps (j + 1) = A ++ (p.k ++ p.v) ++ List.replicate (240 - (j + 1) * 40) 0 := by
  rw [leafP,List.take_add_one,hj,List.flatMap_append,← hA]
  simp [PairT.b]
 have e2 : (leafP ps j).take (8 + j * 40) = A := by rw [e0,← hh,List.take_left]
 rw [e2]
 refine ⟨?_,?_⟩
 ·have e3 : (byteV (leafP ps j)).take (8 + j * 40) = byteV A := by rw [byteV,← List.map_take,e2];rfl
  have e4 : (byteV (leafP ps j)).drop (8 + j * 40 + (byteV p.k).length) = byteV (List.replicate (240 - j * 40 - 32) 0) := by
   rw [byteV_length,hg.k,byteV,← List.map_drop,e0,← hh,List.drop_append,List.drop_eq_nil_of_le (by omega),List.nil_append,show A.length + 32 - A.length = 32 by omega,List.drop_replicate];rfl
  rw [e3,e4];simp [byteV]
 ·have e3 : (byteV (A ++ p.k ++ List.replicate (240 - j * 40 - 32) 0)).take (8 + j * 40 + 32) = byteV (A ++ p.k) := by
   rw [byteV,← List.map_take,show 8 + j * 40 + 32 = (A ++ p.k).length by rw [List.length_append,hg.k,hh],List.take_left];rfl
  have e4 : (byteV (A ++ p.k ++ List.replicate (240 - j * 40 - 32) 0)).drop (8 + j * 40 + 32 + (byteV p.v).length) = byteV (List.replicate (240 - (j + 1) * 40) 0) := by
   rw [byteV_length,hg.v,byteV,← List.map_drop,show 8 + j * 40 + 32 + 8 = (A ++ p.k).length + 8 by rw [List.length_append,hg.k,hh],List.drop_append,List.drop_eq_nil_of_le (by omega),List.nil_append,show (A ++ p.k).length + 8 - (A ++ p.k).length = 8 by omega,List.drop_replicate]
   congr 2;omega
  rw [e3,e4,e1];simp [byteV]
theorem pair_cells {W : World} {g : Nat} {p : PairT} {t : TypeId} (hg : W.heap[g]? = some (.cells (byteV p.b).toArray t (0,0))) (hp : PairOk p) :
  (∀ i u,(byteV p.k)[i]? = some u → W.cell? ((⟨g,0,none⟩ : Addr).add i) = some u) ∧ ∀ i u,(byteV p.v)[i]? = some u → W.cell? ((⟨g,32,none⟩ : Addr).add i) = some u := by
 have e : byteV p.b = byteV p.k ++ byteV p.v := by simp [PairT.b,byteV]
 refine ⟨fun i u hu => blk_cell (off := 0) hg ?_,fun i u hu => blk_cell (off := 32) hg ?_⟩
 ·rw [List.drop_zero,e,List.getElem?_append_left (List.getElem?_eq_some_iff.1 hu).1];exact hu
 ·rw [e,show (byteV p.k ++ byteV p.v).drop 32 = byteV p.v by rw [show 32 = (byteV p.k).length by rw [byteV_length,hp.k],List.drop_left]];exact hu
theorem leaf_rows (ps : List PairT) (n : Nat) (hn : ps.length = n) (hu : ((UInt8.ofNat n).toNat : Int) = (n : Int)) :
  ((((byteV (List.replicate 248 (0 : UInt8))).toArray.setIfInBounds 0 (Value.int .u8 2)).setIfInBounds 1 (Value.int .u8 (n : Int))).setIfInBounds 0 (Value.int .u8 1)) = (byteV (leafP ps 0)).toArray := by
 have e1 : (Value.int .u8 2) = Value.int .u8 (((2 : UInt8).toNat : Nat) : Int) := rfl
 have e2 : (Value.int .u8 1) = Value.int .u8 (((1 : UInt8).toNat : Nat) : Int) := rfl
 rw [e1,e2,← hu,byteV_set,byteV_set,byteV_set,leafP_0,hn]
 rfl
theorem pairV_at {W : World} {pp : Option Addr} {ps : List PairT} (h : (rdA pp (pairV ps)).prop W) (hp : ∀ p ∈ ps,PairOk p) (j : Nat) (p : PairT) (hj : ps[j]? = some p) :
  ∃ g off,pp = some ⟨g,off,none⟩ ∧ ∀ i u,(byteV p.b)[i]? = some u → W.cell? ((⟨g,off + j * 40,none⟩ : Addr).add i) = some u := by
 have hlt : j < ps.length := (List.getElem?_eq_some_iff.1 hj).1
 have hl := pairV_len hp
 have e : ps = ps.take j ++ p :: ps.drop (j + 1) := by
  obtain ⟨h1,h2⟩ := List.getElem?_eq_some_iff.1 hj
  rw [← h2,← List.drop_eq_getElem_cons h1,List.take_append_drop]
 have hd : (pairV ps).drop (j * 40) = byteV p.b ++ pairV (ps.drop (j + 1)) := by
  have hl2 : (pairV (ps.take j)).length = j * 40 := by rw [pairV_len (fun q hq => hp q (List.mem_of_mem_take hq)),List.length_take,Nat.min_eq_left (by omega)]
  conv => lhs;rw [e]
  rw [pairV_append,← hl2,List.drop_left]
  simp [pairV]
 rcases h with h | ⟨g,off,rfl,_,h⟩
 ·rw [h] at hl;simp at hl;omega
 ·refine ⟨g,off,rfl,fun i u hu => ?_⟩
  rw [Addr.add_lit,Nat.add_assoc]
  refine h (j * 40 + i) u ?_
  have hi : i < (byteV p.b).length := (List.getElem?_eq_some_iff.1 hu).1
  rw [← List.getElem?_drop,hd,List.getElem?_append_left hi]
  exact hu
set_option maxHeartbeats 16000000 in
theorem save_leaf {w : World} {s : TX} {c g home cp : Nat} {pp : Option Addr} {ps : List PairT} (hb : Bundle w (s.L ++ [nodeA g home true (.slice pp ps.length cp) (.slice none 0 0) (.slice none 0 0),rdA pp (pairV ps)])) (h : s.Ok c) (hn : home < s.n) (hp : ∀ p ∈ ps,PairOk p) (h6 : ps.length ≤ 6) :
  Calls Tryz.prog 149 #[.pointer (some ⟨g,0,none⟩),.pointer (some ⟨s.g,0,none⟩)] w fun e w' => e = .returned .nilIface ∧ ∃ s',s.To s' c (updV s.V home (encLeaf ps)) ∧
   BunTo w (ownL (s.L ++ [nodeA g home true (.slice pp ps.length cp) (.slice none 0 0) (.slice none 0 0),rdA pp (pairV ps)])) (rdL (s.L ++ [nodeA g home true (.slice pp ps.length cp) (.slice none 0 0) (.slice none 0 0),rdA pp (pairV ps)])) (s'.L ++ [nodeA g home true (.slice pp ps.length cp) (.slice none 0 0) (.slice none 0 0),rdA pp (pairV ps)]) w' := by
 have H := hb.open_
 obtain ⟨O,hO⟩ : ∃ O,ownL (s.L ++ [nodeA g home true (.slice pp ps.length cp) (.slice none 0 0) (.slice none 0 0),rdA pp (pairV ps)]) = O := ⟨_,rfl⟩
 obtain ⟨R0,hR0⟩ : ∃ R,rdL (s.L ++ [nodeA g home true (.slice pp ps.length cp) (.slice none 0 0) (.slice none 0 0),rdA pp (pairV ps)]) = R := ⟨_,rfl⟩
 rw [hO,hR0] at H ⊢
 have HO := Lib.hid h
 have HN := Lib.hid hn
 have HP := Lib.hid hp
 obtain ⟨n,hnl⟩ : ∃ n,ps.length = n := ⟨_,rfl⟩
 have HPL := Lib.hid hnl
 rw [hnl] at h6 H ⊢
 have hn0 : 0 ≤ (n : Int) := by omega
 have hn7 : (n : Int) ≤ 6 := by omega
 have hu : ((UInt8.ofNat n).toNat : Int) = (n : Int) := by rw [UInt8.toNat_ofNat'];omega
 have HU := Lib.hid hu
 have H7 := Lib.hid h6
 have hnn : n ≤ 6 := h6
 clear hb h hO hR0 hn hp hnl hu h6
 have tok1 : True := trivial
 have tok2 : True := trivial
 have hf := row_cell (H.at 7 rfl) (nRow1 _ _ _ _ _)
 go_enter Tryz.func149,Tryz.ntmps149
 go_upto_region 3 with (first
  | (refine wpList_make2_st H rfl 22 _ _ rfl _ Tryz.underlying22 _ _ info_u8 rfl 248 248 rfl rfl (by omega) (by omega) (by simp only [maxLen];omega) ?_;clear H;intro W gb H;replace H : St O R0 w W (s.L ++ [nodeA g home true (.slice pp n cp) (.slice none 0 0) (.slice none 0 0),rdA pp (pairV ps),blk gb (.cells (byteV (List.replicate 248 0)).toArray 5 (0,0))]) := by { rw [show byteV (List.replicate 248 0) = List.replicate 248 (Value.int .u8 0) by simp [byteV]];exact H })
  | (go_at_call 169;go_loud ((refine (size_leaf (H.at 7 rfl)).mono ?_);rintro e W' ⟨rfl,rfl⟩))
  | (have _t := tok1;clear _t;refine wpList_store1_st H 9 rfl 5 _ _ rfl gb 0 (.int .u8 2) rfl rfl rfl _ _ rfl size_u8 (by simp) ?_;clear H tok1;intro W H)
  | (refine wpList_store1_st H 9 rfl 5 _ _ rfl gb 1 (.int .u8 (n : Int)) rfl rfl rfl _ _ rfl size_u8 (by simp) ?_;clear H;intro W H))
 clear hf
 have hf := row_cell (H.at 7 rfl) (nRow1 _ _ _ _ _)
 go_upto_region 5 with (first
  | (refine wpList_store1_st H 9 rfl 5 _ _ rfl gb 0 (.int .u8 1) rfl rfl rfl _ _ rfl size_u8 (by simp) ?_;clear H;intro W H))
 replace H : St O R0 w W (s.L ++ [nodeA g home true (.slice pp n cp) (.slice none 0 0) (.slice none 0 0),rdA pp (pairV ps),blk gb (.cells ((((byteV (List.replicate 248 (0 : UInt8))).toArray.setIfInBounds 0 (Value.int .u8 2)).setIfInBounds 1 (Value.int .u8 (n : Int))).setIfInBounds 0 (Value.int .u8 1)) 5 (0,0))]) := H
 rw [leaf_rows ps n HPL.out HU.out] at H
 clear hf
 have hp2 := row_cell (H.at 7 rfl) (nRow2 _ _ _ _ _)
 go_upto_region 7 with fail
 clear hp2
 go_loopw [6,30] (fun av u wr => ∃ j : Nat,u = .int .i64 (j : Int) ∧ av = .int .i64 ((8 + j * 40 : Nat) : Int) ∧ j ≤ n ∧ St O R0 w wr (s.L ++ [nodeA g home true (.slice pp n cp) (.slice none 0 0) (.slice none 0 0),rdA pp (pairV ps),blk gb (.cells (byteV (leafP ps j)).toArray 5 (0,0))])) (fun _ u _ => n - (intOf u).toNat)
 case atStart => exact ⟨0,rfl,rfl,Nat.zero_le _,H⟩
 case round =>
  clear H
  obtain ⟨j,rfl,rfl,hj,H⟩ := hrel
  have hj0 : 0 ≤ (j : Int) := by omega
  rcases Nat.lt_or_ge j n with hlt | hge
  ·have hjj : (j : Int) < (n : Int) := by omega
   obtain ⟨p,hp⟩ : ∃ p,ps[j]? = some p := ⟨_,List.getElem?_eq_getElem (by rw [HPL.out];exact hlt)⟩
   obtain ⟨gq,oq,hpq,hcells⟩ := pairV_at (H.at 8 rfl) HP.out j p hp
   have hpg := HP.out p (List.mem_of_getElem? hp)
   have hst := leafP_step ps HP.out j p hp (by rw [HPL.out];exact H7.out)
   obtain ⟨at_,hat⟩ : ∃ a,8 + j * 40 = a := ⟨_,rfl⟩
   rw [hat] at hst ⊢
   obtain ⟨lm,hlm⟩ : ∃ x,(leafP ps j).take at_ ++ p.k ++ List.replicate (240 - j * 40 - 32) 0 = x := ⟨_,rfl⟩
   rw [hlm] at hst
   have HS1 := Lib.hid hst.1
   have HS2 := Lib.hid hst.2
   have HLJ := Lib.hid (show (byteV (leafP ps j)).length = 248 by rw [byteV_length];exact leafP_len ps HP.out j (by rw [HPL.out];exact hj) (by rw [HPL.out];exact H7.out))
   have HLM := Lib.hid (show (byteV lm).length = 248 by
    have h1 := HLJ.out
    rw [byteV_length] at h1 ⊢
    rw [← hlm]
    simp only [List.length_append,List.length_take,h1,hpg.k,List.length_replicate]
    have := H7.out
    omega)
   have HKL := Lib.hid hpg
   have HPB := Lib.hid (show (byteV p.b).length = 40 by rw [byteV_length];exact hpg.len)
   have HJ := Lib.hid hlt
   have HA2 := Lib.hid (show 8 + (j + 1) * 40 = at_ + 32 + 8 by omega)
   have HAT := Lib.hid (show at_ ≤ 208 by have := H7.out;omega)
   have hs0 : 0 ≤ (at_ : Int) := by omega
   have hs1 : (at_ : Int) ≤ 248 := by have := HAT.out;omega
   have hs2 : ¬ 248 = at_ := by have := HAT.out;omega
   have hs3 : (at_ : Int) ≤ 208 := by have := HAT.out;omega
   subst hpq
   clear hp hpg hst hat hlm
   go_upto_region 9 with (first
    | (refine wpList_load_cells rfl 80 _ rfl ⟨gq,oq + j * 40,none⟩ rfl _ Tryz.underlying80 rfl (byteV p.b) (by rw [sizeP,HPB.out]) hcells ?_)
    | (refine wpList_alloc_st H rfl 80 rfl _ zeroP ?_;clear H hcells;intro W gv H)
    | (refine wpList_storerow_st H 10 rfl 80 _ _ rfl gv (byteV p.b).toArray rfl rfl _ _ rfl (size_pair _ HPB.out) (by simp [HPB.out];rfl) (all_oneCell_toArray (byteV_one _)) ?_;clear H;intro W H))
   replace H : St O R0 w W (s.L ++ [nodeA g home true (.slice (some ⟨gq,oq,none⟩) n cp) (.slice none 0 0) (.slice none 0 0),rdA (some ⟨gq,oq,none⟩) (pairV ps),blk gb (.cells (byteV (leafP ps j)).toArray 5 (0,0)),blk gv (.cells (byteV p.b).toArray 80 (0,0))]) := H
   replace H := H.drew
   refine wp_region_T (fun _ => True) [] (by kernel_rfl) trivial (fun hHeld => ?_)
   (refine wpAnyT_pure (i := 0) (v := ?_) rfl (by kernel_rfl) (by kernel_rfl) (by kernel_rfl) (by kernel_rfl) (fun _ _ _ h => h) (Or.inl ⟨by rfl,?_⟩) (Or.inr (by assumption)) ?_;rotate_left;focus (intro w hSw;clear hSw;go_simp;all_goals (with_reducible rfl)));(try simp only [Act.put,rp1,rp2,rp3,rp4,rp5,rp6])
   (refine wpAnyT_pure (i := 1) (v := ?_) rfl (by kernel_rfl) (by kernel_rfl) (by kernel_rfl) (by kernel_rfl) (fun _ _ _ h => h) (Or.inl ⟨by rfl,?_⟩) (Or.inr (by assumption)) ?_;rotate_left;focus (intro w hSw;clear hSw;go_simp;all_goals (with_reducible rfl)));(try simp only [Act.put,rp1,rp2,rp3,rp4,rp5,rp6])
   (refine wpAnyT_pure (i := 2) (v := ?_) rfl (by kernel_rfl) (by kernel_rfl) (by kernel_rfl) (by kernel_rfl) (fun _ _ _ h => h) (Or.inl ⟨by rfl,?_⟩) (Or.inr (by assumption)) ?_;rotate_left;focus (intro w hSw;clear hSw;go_simp;all_goals (with_reducible rfl)));(try simp only [Act.put,rp1,rp2,rp3,rp4,rp5,rp6])
   (refine wpAnyT_pure (i := 3) (v := ?_) rfl (by kernel_rfl) (by kernel_rfl) (by kernel_rfl) (by kernel_rfl) (fun _ _ _ h => h) (Or.inl ⟨by rfl,?_⟩) (Or.inr (by assumption)) ?_;rotate_left;focus (intro w hSw;clear hSw;go_simp;all_goals (with_reducible rfl)));(try simp only [Act.put,rp1,rp2,rp3,rp4,rp5,rp6])
   (refine wpAnyT_pure (i := 4) (v := ?_) rfl (by kernel_rfl) (by kernel_rfl) (by kernel_rfl) (by kernel_rfl) (fun _ _ _ h => h) (Or.inl ⟨by rfl,?_⟩) (Or.inr (by assumption)) ?_;rotate_left;focus (intro w hSw;clear hSw;go_simp;all_goals (with_reducible rfl)));(try simp only [Act.put,rp1,rp2,rp3,rp4,rp5,rp6])
   (refine wpAnyT_pure (i := 5) (v := ?_) rfl (by kernel_rfl) (by kernel_rfl) (by kernel_rfl) (by kernel_rfl) (fun _ _ _ h => h) (Or.inl ⟨by rfl,?_⟩) (Or.inr (by assumption)) ?_;rotate_left;focus (intro w hSw;clear hSw;go_simp;all_goals (with_reducible rfl)));(try simp only [Act.put,rp1,rp2,rp3,rp4,rp5,rp6])
   (refine wpAnyT_one (i := 6) (by kernel_rfl) rfl (fun K hK => ?_));(rw [if_pos (by rfl)]);(refine wp_copy_row H 9 _ _ 22 22 rfl _ Tryz.underlying22 1 size_u8 gb at_ (248 - at_) (248 - at_) (by rfl) ⟨gv,0,none⟩ 32 32 (by rfl) 32 (by have := HAT.out;omega) (byteV p.k) (by rw [byteV_length,HKL.out.k]) (pair_cells (H.at 10 rfl) HKL.out).1 (byteV_one _) (byteV (leafP ps j)) _ rfl (by rw [byteV_length,HKL.out.k,HLJ.out];have := HAT.out;omega) ?_;clear H;intro W3 H;refine hK.out _ _ (Or.inr trivial) ?_;clear hK K);(try simp only [Act.put,rp1,rp2,rp3,rp4,rp5,rp6])
   (refine wpAnyT_pure (i := 7) (v := ?_) rfl (by kernel_rfl) (by kernel_rfl) (by kernel_rfl) (by kernel_rfl) (fun _ _ _ h => h) (Or.inl ⟨by rfl,?_⟩) (Or.inr (by assumption)) ?_;rotate_left;focus (intro w hSw;clear hSw;go_simp;all_goals (with_reducible rfl)));(try simp only [Act.put,rp1,rp2,rp3,rp4,rp5,rp6])
   (refine wpAnyT_pure (i := 8) (v := ?_) rfl (by kernel_rfl) (by kernel_rfl) (by kernel_rfl) (by kernel_rfl) (fun _ _ _ h => h) (Or.inl ⟨by rfl,?_⟩) (Or.inr (by assumption)) ?_;rotate_left;focus (intro w hSw;clear hSw;go_simp;all_goals (with_reducible rfl)));(try simp only [Act.put,rp1,rp2,rp3,rp4,rp5,rp6])
   (refine wpAnyT_done (by kernel_rfl) ?_ _)
   replace H : St O R0 w W3 (s.L ++ [nodeA g home true (.slice (some ⟨gq,oq,none⟩) n cp) (.slice none 0 0) (.slice none 0 0),rdA (some ⟨gq,oq,none⟩) (pairV ps),blk gb (.cells ((byteV (leafP ps j)).take at_ ++ byteV p.k ++ (byteV (leafP ps j)).drop (at_ + (byteV p.k).length)).toArray 5 (0,0)),blk gv (.cells (byteV p.b).toArray 80 (0,0))]) := H
   rw [HS1.out] at H
   obtain ⟨bt,hbt⟩ : ∃ b,at_ + 32 = b := ⟨_,rfl⟩
   have HBT := Lib.hid hbt
   have hbt2 : (at_ : Int) + 32 = (bt : Int) := by omega
   have hs4 : 0 ≤ (bt : Int) := by omega
   have hs5 : (bt : Int) ≤ 248 := by omega
   have hs6 : ¬ 248 = bt := by omega
   have hs7 : (bt : Int) ≤ 240 := by omega
   rw [show IntKind.i64.wrap ((at_ : Int) + 32) = (bt : Int) by rw [IntKind.wrap_i64];omega]
   clear hbt2 hbt hs0 hs1 hs2 hs3
   go_upto_region 10 with fail
   replace H := H.drew
   refine wp_region_T (fun _ => True) [] (by kernel_rfl) trivial (fun hHeld => ?_)
   (refine wpAnyT_pure (i := 0) (v := ?_) rfl (by kernel_rfl) (by kernel_rfl) (by kernel_rfl) (by kernel_rfl) (fun _ _ _ h => h) (Or.inl ⟨by rfl,?_⟩) (Or.inr (by assumption)) ?_;rotate_left;focus (intro w hSw;clear hSw;go_simp;all_goals (with_reducible rfl)));(try simp only [Act.put,rp1,rp2,rp3,rp4,rp5,rp6])
   (refine wpAnyT_pure (i := 1) (v := ?_) rfl (by kernel_rfl) (by kernel_rfl) (by kernel_rfl) (by kernel_rfl) (fun _ _ _ h => h) (Or.inl ⟨by rfl,?_⟩) (Or.inr (by assumption)) ?_;rotate_left;focus (intro w hSw;clear hSw;go_simp;all_goals (with_reducible rfl)));(try simp only [Act.put,rp1,rp2,rp3,rp4,rp5,rp6])
   (refine wpAnyT_pure (i := 2) (v := ?_) rfl (by kernel_rfl) (by kernel_rfl) (by kernel_rfl) (by kernel_rfl) (fun _ _ _ h => h) (Or.inl ⟨by rfl,?_⟩) (Or.inr (by assumption)) ?_;rotate_left;focus (intro w hSw;clear hSw;go_simp;all_goals (with_reducible rfl)));(try simp only [Act.put,rp1,rp2,rp3,rp4,rp5,rp6])
   (refine wpAnyT_pure (i := 3) (v := ?_) rfl (by kernel_rfl) (by kernel_rfl) (by kernel_rfl) (by kernel_rfl) (fun _ _ _ h => h) (Or.inl ⟨by rfl,?_⟩) (Or.inr (by assumption)) ?_;rotate_left;focus (intro w hSw;clear hSw;go_simp;all_goals (with_reducible rfl)));(try simp only [Act.put,rp1,rp2,rp3,rp4,rp5,rp6])
   (refine wpAnyT_pure (i := 4) (v := ?_) rfl (by kernel_rfl) (by kernel_rfl) (by kernel_rfl) (by kernel_rfl) (fun _ _ _ h => h) (Or.inl ⟨by rfl,?_⟩) (Or.inr (by assumption)) ?_;rotate_left;focus (intro w hSw;clear hSw;go_simp;all_goals (with_reducible rfl)));(try simp only [Act.put,rp1,rp2,rp3,rp4,rp5,rp6])
   (refine wpAnyT_pure (i := 5) (v := ?_) rfl (by kernel_rfl) (by kernel_rfl) (by kernel_rfl) (by kernel_rfl) (fun _ _ _ h => h) (Or.inl ⟨by rfl,?_⟩) (Or.inr (by assumption)) ?_;rotate_left;focus (intro w hSw;clear hSw;go_simp;all_goals (with_reducible rfl)));(try simp only [Act.put,rp1,rp2,rp3,rp4,rp5,rp6])
   (refine wpAnyT_one (i := 6) (by kernel_rfl) rfl (fun K hK => ?_));(rw [if_pos (by rfl)]);(refine wp_copy_row H 9 _ _ 22 22 rfl _ Tryz.underlying22 1 size_u8 gb bt (248 - bt) (248 - bt) (by rfl) ⟨gv,32,none⟩ 8 8 (by rfl) 8 (by have := HAT.out;have := HBT.out;omega) (byteV p.v) (by rw [byteV_length,HKL.out.v]) (pair_cells (H.at 10 rfl) HKL.out).2 (byteV_one _) (byteV lm) _ rfl (by rw [byteV_length,HKL.out.v,HLM.out];have := HAT.out;have := HBT.out;omega) ?_;clear H;intro W4 H;refine hK.out _ _ (Or.inr trivial) ?_;clear hK K);(try simp only [Act.put,rp1,rp2,rp3,rp4,rp5,rp6])
   (refine wpAnyT_pure (i := 7) (v := ?_) rfl (by kernel_rfl) (by kernel_rfl) (by kernel_rfl) (by kernel_rfl) (fun _ _ _ h => h) (Or.inl ⟨by rfl,?_⟩) (Or.inr (by assumption)) ?_;rotate_left;focus (intro w hSw;clear hSw;go_simp;all_goals (with_reducible rfl)));(try simp only [Act.put,rp1,rp2,rp3,rp4,rp5,rp6])
   (refine wpAnyT_pure (i := 8) (v := ?_) rfl (by kernel_rfl) (by kernel_rfl) (by kernel_rfl) (by kernel_rfl) (fun _ _ _ h => h) (Or.inl ⟨by rfl,?_⟩) (Or.inr (by assumption)) ?_;rotate_left;focus (intro w hSw;clear hSw;go_simp;all_goals (with_reducible rfl)));(try simp only [Act.put,rp1,rp2,rp3,rp4,rp5,rp6])
   (refine wpAnyT_done (by kernel_rfl) ?_ _)
   replace H : St O R0 w W4 (s.L ++ [nodeA g home true (.slice (some ⟨gq,oq,none⟩) n cp) (.slice none 0 0) (.slice none 0 0),rdA (some ⟨gq,oq,none⟩) (pairV ps),blk gb (.cells ((byteV lm).take bt ++ byteV p.v ++ (byteV lm).drop (bt + (byteV p.v).length)).toArray 5 (0,0)),blk gv (.cells (byteV p.b).toArray 80 (0,0))]) := H
   rw [← HBT.out,HS2.out] at H
   rw [show IntKind.i64.wrap ((bt : Int) + 8) = ((8 + (j + 1) * 40 : Nat) : Int) by rw [IntKind.wrap_i64];have := HA2.out;have := HBT.out;omega]
   go_wp2
   go_roundw
   case rel => exact ⟨j + 1,congrArg _ (by omega),rfl,HJ.out,H.take 10⟩
   case measure => have := HJ.out;simp [intOf];omega
  ·obtain rfl : j = n := by omega
   have hp4 := row_cell (H.at 7 rfl) (nRow4 _ _ _ _ _)
   go_upto_region 13 with fail
   clear hp4
   go_loopw [56] (fun u wr => u = .int .i64 0 ∧ St O R0 w wr (s.L ++ [nodeA g home true (.slice pp j cp) (.slice none 0 0) (.slice none 0 0),rdA pp (pairV ps),blk gb (.cells (byteV (leafP ps j)).toArray 5 (0,0))])) (fun _ _ => 0)
   case atStart => exact ⟨rfl,H⟩
   case round =>
    clear H
    obtain ⟨rfl,H⟩ := hrel
    rw [show leafP ps j = encLeaf ps by rw [← HPL.out];exact leafP_end ps] at H
    have HBL := Lib.hid (show (encLeaf ps).length = 248 from encLeaf_len ps HP.out (by rw [HPL.out];exact H7.out))
    replace H := H.recast 9 (A' := ownB gb 0 (encLeaf ps)) rfl (fun h => ownB_of_row (by rw [List.append_nil];exact h)) (fun k hk => hk) (fun k hk => hk.elim)
    replace H : St O R0 w _ (s.L ++ [ownB gb 0 (encLeaf ps)] ++ [nodeA g home true (.slice pp j cp) (.slice none 0 0) (.slice none 0 0),rdA pp (pairV ps)]) := St.swap (A := s.L) (E := [nodeA g home true (.slice pp j cp) (.slice none 0 0) (.slice none 0 0),rdA pp (pairV ps)]) (R := [ownB gb 0 (encLeaf ps)]) H
    have hp0 := row_cell (H.at 8 rfl) (nRow0 _ _ _ _ _)
    go_wp2_with (first
     | (go_at_call 17;go_loud ((refine (wr_TX (s := s) (B := ownB gb 0 (encLeaf ps)) (H.take 8).bundle HO.out _ home rfl HN.out (fun W h => ⟨ownB_bytes h,ownB_lt h⟩) HBL.out).mono ?_);rintro e W ⟨rfl,s1,hs1,hto⟩;replace H := hto.front (R := [nodeA g home true (.slice pp j cp) (.slice none 0 0) (.slice none 0 0),rdA pp (pairV ps)]) H;clear hto hp0))
     | (go_at_call 123;go_loud ((refine (bad_okR _).mono ?_);rintro e W' ⟨rfl,rfl⟩)))
    go_ret
    refine ⟨rfl,s1,hs1,St.bunTo ?_⟩
    exact (St.swap (A := s1.L) (E := [ownB gb 0 (encLeaf ps)]) (R := [nodeA g home true (.slice pp j cp) (.slice none 0 0) (.slice none 0 0),rdA pp (pairV ps)]) H).take 9
end Go.Proofs.YtlgciddnpinpbaaGreatDoor
