/- Texts of this proof, packed. -/
import Derived.Test.YtlgciddnpinpbaaGreatDoorPkBase4
import Derived.Test.YtlgciddnpinpbaaGreatDoorPqA
import Derived.Test.YtlgciddnpinpbaaGreatDoorPqB
import Derived.Test.YtlgciddnpinpbaaGreatDoorPqC
import Derived.Test.YtlgciddnpinpbaaGreatDoorPqD
import Derived.Test.YtlgciddnpinpbaaGreatDoorPqG
import Derived.Test.YtlgciddnpinpbaaGreatDoorPqI
import Derived.Test.YtlgciddnpinpbaaGreatDoorPqK
import Derived.Test.YtlgciddnpinpbaaGreatDoorPqQ
import Derived.Test.YtlgciddnpinpbaaGreatDoorPqS
set_option linter.unusedSimpArgs false
set_option linter.unusedVariables false
namespace Go.Proofs.YtlgciddnpinpbaaGreatDoor
open Go.RowKit
set_option maxRecDepth 100000
structure Got where
 l : List PairT
 p : Option Addr
 cap : Nat
def gather (m : Int) (k : Nat) (l ps : List PairT) : List PairT := l ++ (ps.filter fun p => decide (k ≤ p.n)).take (m.toNat - l.length)
theorem gather_nil (m : Int) (k : Nat) (l : List PairT) : gather m k l [] = l := by simp [gather]
theorem gather_snoc (m : Int) (k : Nat) (l ps : List PairT) (p : PairT) : gather m k l (ps ++ [p]) = if k ≤ p.n ∧ ((gather m k l ps).length : Int) < m then gather m k l ps ++ [p] else gather m k l ps := by
 unfold gather
 rw [List.filter_append]
 by_cases h : k ≤ p.n
 ·have e : [p].filter (fun p => decide (k ≤ p.n)) = [p] := by simp [h]
  rw [e,List.take_append,List.length_append,List.length_take]
  obtain ⟨f,hf⟩ : ∃ f,(ps.filter fun p => decide (k ≤ p.n)).length = f := ⟨_,rfl⟩
  rw [hf]
  by_cases h2 : ((l.length + min (m.toNat - l.length) f : Nat) : Int) < m
  ·rw [if_pos ⟨h,h2⟩]
   have h3 : 0 < m.toNat - l.length - f := by omega
   obtain ⟨q,hq⟩ : ∃ q,m.toNat - l.length - f = q + 1 := ⟨m.toNat - l.length - f - 1,by omega⟩
   rw [hq];simp
  ·rw [if_neg (fun h4 => h2 h4.2)]
   have h3 : m.toNat - l.length - f = 0 := by omega
   rw [h3];simp
 ·have e : [p].filter (fun p => decide (k ≤ p.n)) = [] := by simp [h]
  rw [e,List.append_nil,if_neg (fun h4 => h h4.1)]
theorem gather_len (m : Int) (k : Nat) (l ps : List PairT) : (gather m k l ps).length ≤ l.length + ps.length := by
 unfold gather
 rw [List.length_append,List.length_take]
 have := List.length_filter_le (fun p => decide (k ≤ p.n)) ps
 omega
theorem gather_good {m : Int} {k : Nat} {l ps : List PairT} (h : ∀ p ∈ l,PairOk p) (h2 : ∀ p ∈ ps,PairOk p) : ∀ p ∈ gather m k l ps,PairOk p := fun p hp => by
 unfold gather at hp
 rcases List.mem_append.1 hp with hp | hp
 ·exact h p hp
 ·exact h2 p (List.mem_filter.1 (List.mem_of_mem_take hp)).1
def stS (m : Int) (k : Nat) (x : Got) (h : Nat) (ps : List PairT) (deep : Nat) (r : Got × Bool) : Prop :=
 ps.length ≤ 6 ∧ (∀ p ∈ ps,PairOk p) ∧ r.1.l = gather m k x.l ps ∧ r.2 = decide ((r.1.l.length : Int) < m)
def gotL (frm : List UInt8) (m : Int) (gf gl gm : Nat) (x : Got) : List Asrt := [blk gf (.cells (byteV frm).toArray 67 (0,0)),blk gl (.cells #[.slice x.p x.l.length x.cap] 76 (0,0)),ownS 80 40 x.p x.l.length x.cap (pairV x.l),blk gm (.cells #[.int .i64 m] 3 (0,0))]
set_option maxHeartbeats 16000000 in
theorem scan_see (frm : List UInt8) (hfrm : frm.length = 32) (m : Int) (gf gl gm : Nat) : SeeOk 85 #[.pointer (some ⟨gf,0,none⟩),.pointer (some ⟨gl,0,none⟩),.pointer (some ⟨gm,0,none⟩)] (fun x => bun (gotL frm m gf gl gm x)) (stS m (kn frm)) (fun x => x.l.length ≤ 12000 ∧ ∀ p ∈ x.l,PairOk p) := by
 intro x g home lf pp n cp b c ps deep z W hVx hb hnl h6 hp hd hz
 subst hz
 have H := hb.open_
 obtain ⟨O,hO⟩ : ∃ O,ownL [bun (gotL frm m gf gl gm x),nodeA g home lf (.slice pp n cp) b c,rdA pp (pairV ps)] = O := ⟨_,rfl⟩
 obtain ⟨R0,hR0⟩ : ∃ R,rdL [bun (gotL frm m gf gl gm x),nodeA g home lf (.slice pp n cp) b c,rdA pp (pairV ps)] = R := ⟨_,rfl⟩
 rw [hO,hR0] at H ⊢
 replace H : St O R0 W W ([nodeA g home lf (.slice pp n cp) b c,rdA pp (pairV ps)] ++ [bun (gotL frm m gf gl gm x)]) := St.rotate (A := [bun (gotL frm m gf gl gm x)]) H
 replace H := H.unbun
 have HFR := Lib.hid hfrm
 have HV := Lib.hid hVx
 have HN := Lib.hid hnl
 have H6 := Lib.hid h6
 have HP := Lib.hid hp
 have hn0 : 0 ≤ (n : Int) := by omega
 have hn6 : (n : Int) ≤ 6 := by omega
 obtain ⟨PP,hPP⟩ : ∃ PP : Ending → World → Prop,(fun e w' => ∃ r,stS m (kn frm) x home ps deep r ∧ e = .returned (.bool r.2) ∧ BunTo W O R0 [bun (gotL frm m gf gl gm r.1),nodeA g home lf (.slice pp n cp) b c,rdA pp (pairV ps)] w') = PP := ⟨_,rfl⟩
 have HPP := Lib.hid hPP
 rw [hPP]
 clear hb hfrm hVx hnl h6 hp hd hO hR0 hPP
 have hf := row_cell (H.at 0 rfl) (nRow2 _ _ _ _ _)
 show Calls Tryz.prog 85 #[.pointer (some ⟨g,0,none⟩),.int .i64 (deep : Int),.pointer (some ⟨gf,0,none⟩),.pointer (some ⟨gl,0,none⟩),.pointer (some ⟨gm,0,none⟩)] W PP
 go_enter Tryz.func85,Tryz.ntmps85
 go_upto_region 2 with fail
 clear hf
 go_loopw [15] (fun u wr => ∃ (j : Nat) (y : Got),u = .int .i64 (j : Int) ∧ j ≤ n ∧ Hid (y.l = gather m (kn frm) x.l (ps.take j)) ∧ St O R0 W wr ([nodeA g home lf (.slice pp n cp) b c,rdA pp (pairV ps)] ++ gotL frm m gf gl gm y)) (fun u _ => n - (intOf u).toNat)
 case atStart => exact ⟨0,x,rfl,Nat.zero_le _,Lib.hid (by rw [List.take_zero,gather_nil]),H⟩
 case round =>
  clear H
  obtain ⟨j,⟨l,pl,cl⟩,rfl,hj,HY,H⟩ := hrel
  have HLG := Lib.hid (show l.length ≤ 12006 ∧ ∀ p ∈ l,PairOk p by
   have h1 : l = gather m (kn frm) x.l (ps.take j) := HY.out
   rw [h1]
   refine ⟨?_,gather_good HV.out.2 (fun p hp => HP.out p (List.mem_of_mem_take hp))⟩
   have h2 := gather_len m (kn frm) x.l (ps.take j)
   rw [List.length_take] at h2
   have := HV.out.1;have := H6.out;have := HN.out
   omega)
  obtain ⟨q,hq⟩ : ∃ q,l.length = q := ⟨_,rfl⟩
  have HQ := Lib.hid hq
  replace H : St O R0 W wr [nodeA g home lf (.slice pp n cp) b c,rdA pp (pairV ps),blk gf (.cells (byteV frm).toArray 67 (0,0)),blk gl (.cells #[.slice pl q cl] 76 (0,0)),ownS 80 40 pl q cl (pairV l),blk gm (.cells #[.int .i64 m] 3 (0,0))] := by rw [← hq];exact H
  have hq0 : 0 ≤ (q : Int) := by omega
  have hq9 : (q : Int) ≤ 12006 := by have := HLG.out.1;omega
  clear hq
  have hj0 : 0 ≤ (j : Int) := by omega
  rcases Nat.lt_or_ge j n with hlt | hge
  ·have hjn : (j : Int) < (n : Int) := by omega
   obtain ⟨p,hp⟩ : ∃ p,ps[j]? = some p := ⟨_,List.getElem?_eq_getElem (by rw [HN.out];exact hlt)⟩
   have hpk := HP.out p (List.mem_of_getElem? hp)
   obtain ⟨gq,oq,hpq,hcells⟩ := pairV_at (H.at 1 rfl) HP.out j p hp
   subst hpq
   have HPJ := Lib.hid hp
   have HPK := Lib.hid hpk
   have HPB := Lib.hid (show (byteV p.b).length = 40 by rw [byteV_length];exact hpk.len)
   have HJ := Lib.hid hlt
   have HSN := Lib.hid (show gather m (kn frm) x.l (ps.take (j + 1)) = if kn frm ≤ p.n ∧ (q : Int) < m then l ++ [p] else l by
    have h1 : l = gather m (kn frm) x.l (ps.take j) := HY.out
    rw [List.take_add_one,hp]
    show gather m (kn frm) x.l (ps.take j ++ [p]) = _
    rw [gather_snoc,← h1,HQ.out])
   clear hp hpk hj hlt
   obtain ⟨zc,hzc⟩ : ∃ zc,Lib.compareBytes p.k frm = zc := ⟨_,rfl⟩
   have HZ := Lib.hid hzc
   have HZL := Lib.hid (show zc < 0 ↔ p.n < kn frm by rw [← hzc];exact cmp_lt _ _ (by rw [HPK.out.k,HFR.out]))
   clear hzc
   go_upto_region 4 with (first
    | (refine wpList_load_cells rfl 80 _ rfl ⟨gq,oq + j * 40,none⟩ rfl _ Tryz.underlying80 rfl (byteV p.b) (by rw [sizeP,HPB.out]) hcells ?_)
    | (refine wpList_alloc_st H rfl 80 rfl _ zeroP ?_;clear H hcells;intro W1 gv H)
    | (refine wpList_storerow_st H 6 rfl 80 _ _ rfl gv (byteV p.b).toArray rfl rfl _ _ rfl (size_pair _ HPB.out) (by simp [HPB.out];rfl) (all_oneCell_toArray (byteV_one _)) ?_;clear H;intro W1 H))
   replace H : St O R0 W W1 [nodeA g home lf (.slice (some ⟨gq,oq,none⟩) n cp) b c,rdA (some ⟨gq,oq,none⟩) (pairV ps),blk gf (.cells (byteV frm).toArray 67 (0,0)),blk gl (.cells #[.slice pl q cl] 76 (0,0)),ownS 80 40 pl q cl (pairV l),blk gm (.cells #[.int .i64 m] 3 (0,0)),blk gv (.cells (byteV p.b).toArray 80 (0,0))] := H
   by_cases hz0 : zc < 0
   ·go_wp2_with (first
     | (refine wpList_load_cells rfl 67 _ rfl ⟨gv,0,none⟩ rfl _ Tryz.underlying67 rfl (byteV p.k) (by rw [sizeK,byteV_length,HPK.out.k]) (pair_cells (H.at 6 rfl) HPK.out).1 ?_)
     | (refine wpList_loadrow_st rfl 67 _ rfl gf rfl _ _ _ (H.at 2 rfl) _ Tryz.underlying67 rfl (size_key32 frm HFR.out) ?_)
     | (go_at_call 86;go_loud ((refine (order_calls p.k frm HPK.out.k HFR.out _).mono ?_);rintro e W2 ⟨rfl,hb⟩;rw [HZ.out];replace H := H.stay (Fix.of_below hb _);clear hb)))
    go_roundw
    case rel =>
     refine ⟨j + 1,⟨l,pl,cl⟩,congrArg _ (by omega),HJ.out,Lib.hid ?_,?_⟩
     ·show l = _
      rw [HSN.out,if_neg (fun h => by have h5 := HZL.out;have := h.1;omega)]
     ·show St O R0 W _ [nodeA g home lf (.slice (some ⟨gq,oq,none⟩) n cp) b c,rdA (some ⟨gq,oq,none⟩) (pairV ps),blk gf (.cells (byteV frm).toArray 67 (0,0)),blk gl (.cells #[.slice pl l.length cl] 76 (0,0)),ownS 80 40 pl l.length cl (pairV l),blk gm (.cells #[.int .i64 m] 3 (0,0))]
      rw [HQ.out];exact H.take 6
    case measure => have := HJ.out;simp [intOf];omega
   ·have hz1 : 0 ≤ zc := by omega
    by_cases hm0 : (q : Int) < m
    ·go_upto_region 5 with (first
      | (refine wpList_load_cells rfl 67 _ rfl ⟨gv,0,none⟩ rfl _ Tryz.underlying67 rfl (byteV p.k) (by rw [sizeK,byteV_length,HPK.out.k]) (pair_cells (H.at 6 rfl) HPK.out).1 ?_)
      | (refine wpList_loadrow_st rfl 67 _ rfl gf rfl _ _ _ (H.at 2 rfl) _ Tryz.underlying67 rfl (size_key32 frm HFR.out) ?_)
      | (go_at_call 86;go_loud ((refine (order_calls p.k frm HPK.out.k HFR.out _).mono ?_);rintro e W2 ⟨rfl,hb⟩;rw [HZ.out];replace H := H.stay (Fix.of_below hb _);clear hb;have hl2 := row_cell (H.at 3 rfl) (off := 0) (v := .slice pl q cl) rfl;have hm2 := row_cell (H.at 5 rfl) (off := 0) (v := .int .i64 m) rfl)))
     go_upto_region 6 with (first
      | (refine wpList_loadrow_st rfl 80 _ rfl gv rfl _ _ _ (H.at 6 rfl) _ Tryz.underlying80 rfl (size_pair _ HPB.out) ?_)
      | (refine wpList_buildslice_st H rfl 76 80 _ _ rfl Tryz.underlying76 40 sizeP _ zeroP (by decide) (by decide) [(0,.agg (byteV p.b).toArray)] (by first | (simp [Act.eval];done) | (simp [Act.eval,Act.put];done)) _ (fill_one 40 (byteV p.b) _ (by simp) HPB.out) ?_;clear H hl2 hm2;intro W3 gr H)
      | (at_builtin;refine wpList_append_ownS H 4 rfl _ _ 76 rfl _ Tryz.underlying76 _ 40 40 infoP rfl (by omega) pl q cl (by rfl) _ rfl ⟨gr,0,none⟩ 1 _ (by rfl) (byteV p.b) (by rw [HPB.out]) (fun i u hu => World.news_of_block (H.at 7 rfl) i u hu) (byteV_one _) (by omega) (by have := HLG.out.1;have := HQ.out;simp only [maxLen];omega) (by have := HLG.out.1;have := HQ.out;omega) ?_;clear H;intro W3 gn cn H)
      | (refine wpList_store1_st H 3 rfl 76 _ _ rfl gl 0 (.slice (some ⟨gn,0,none⟩) (q + 1) cn) (by rfl) (by rfl) rfl _ _ rfl size_slP (by simp) ?_;clear H;intro W3 H))
     go_wp2
     go_roundw
     case rel =>
      refine ⟨j + 1,⟨l ++ [p],some ⟨gn,0,none⟩,cn⟩,congrArg _ (by omega),HJ.out,Lib.hid ?_,?_⟩
      ·show l ++ [p] = _
       rw [HSN.out,if_pos ⟨by have h5 := HZL.out;omega,by omega⟩]
      ·have e1 : (l ++ [p]).length = q + 1 := by rw [List.length_append,HQ.out];rfl
       have e2 : pairV (l ++ [p]) = pairV l ++ byteV p.b := by simp [pairV]
       show St O R0 W _ [nodeA g home lf (.slice (some ⟨gq,oq,none⟩) n cp) b c,rdA (some ⟨gq,oq,none⟩) (pairV ps),blk gf (.cells (byteV frm).toArray 67 (0,0)),blk gl (.cells #[.slice (some ⟨gn,0,none⟩) (l ++ [p]).length cn] 76 (0,0)),ownS 80 40 (some ⟨gn,0,none⟩) (l ++ [p]).length cn (pairV (l ++ [p])),blk gm (.cells #[.int .i64 m] 3 (0,0))]
       rw [e1,e2];exact H.take 6
     case measure => have := HJ.out;simp [intOf];omega
    ·go_wp2_with (first
      | (refine wpList_load_cells rfl 67 _ rfl ⟨gv,0,none⟩ rfl _ Tryz.underlying67 rfl (byteV p.k) (by rw [sizeK,byteV_length,HPK.out.k]) (pair_cells (H.at 6 rfl) HPK.out).1 ?_)
      | (refine wpList_loadrow_st rfl 67 _ rfl gf rfl _ _ _ (H.at 2 rfl) _ Tryz.underlying67 rfl (size_key32 frm HFR.out) ?_)
      | (go_at_call 86;go_loud ((refine (order_calls p.k frm HPK.out.k HFR.out _).mono ?_);rintro e W2 ⟨rfl,hb⟩;rw [HZ.out];replace H := H.stay (Fix.of_below hb _);clear hb;have hl2 := row_cell (H.at 3 rfl) (off := 0) (v := .slice pl q cl) rfl;have hm2 := row_cell (H.at 5 rfl) (off := 0) (v := .int .i64 m) rfl)))
     go_roundw
     case rel =>
      refine ⟨j + 1,⟨l,pl,cl⟩,congrArg _ (by omega),HJ.out,Lib.hid ?_,?_⟩
      ·show l = _
       rw [HSN.out,if_neg (fun h => by have := h.2;omega)]
      ·show St O R0 W _ [nodeA g home lf (.slice (some ⟨gq,oq,none⟩) n cp) b c,rdA (some ⟨gq,oq,none⟩) (pairV ps),blk gf (.cells (byteV frm).toArray 67 (0,0)),blk gl (.cells #[.slice pl l.length cl] 76 (0,0)),ownS 80 40 pl l.length cl (pairV l),blk gm (.cells #[.int .i64 m] 3 (0,0))]
       rw [HQ.out];exact H.take 6
     case measure => have := HJ.out;simp [intOf];omega
  ·obtain rfl : j = n := by omega
   have hjj : ¬ ((j : Int) < (j : Int)) := by omega
   have hl2 := row_cell (H.at 3 rfl) (off := 0) (v := .slice pl q cl) rfl
   have hm2 := row_cell (H.at 5 rfl) (off := 0) (v := .int .i64 m) rfl
   go_wp2
   first
    | (refine bodyPost_ret (results_tmp rfl _ _ _) rfl ?_)
    | skip
   rw [← HPP.out]
   have h1 : l = gather m (kn frm) x.l ps := by
    have h2 : l = gather m (kn frm) x.l (ps.take j) := HY.out
    rw [List.take_of_length_le (by rw [HN.out];exact Nat.le_refl _)] at h2
    exact h2
   refine ⟨(⟨l,pl,cl⟩,decide ((q : Int) < m)),⟨by rw [HN.out];exact H6.out,HP.out,h1,by rw [← HQ.out]⟩,rfl,?_⟩
   refine St.bunTo (St.rotate (A := [nodeA g home lf (.slice pp j cp) b c,rdA pp (pairV ps)]) (St.rebun (Ls := gotL frm m gf gl gm ⟨l,pl,cl⟩) ?_))
   show St O R0 W _ [nodeA g home lf (.slice pp j cp) b c,rdA pp (pairV ps),blk gf (.cells (byteV frm).toArray 67 (0,0)),blk gl (.cells #[.slice pl l.length cl] 76 (0,0)),ownS 80 40 pl l.length cl (pairV l),blk gm (.cells #[.int .i64 m] 3 (0,0))]
   rw [HQ.out];exact H
end Go.Proofs.YtlgciddnpinpbaaGreatDoor
namespace Go.Proofs.YtlgciddnpinpbaaGreatDoor
open Go.RowKit
set_option maxRecDepth 40000
theorem gather_append (m : Int) (k : Nat) (l a b : List PairT) : gather m k l (a ++ b) = gather m k (gather m k l a) b := by
 unfold gather
 rw [List.filter_append,List.take_append,List.length_append,List.length_take,List.append_assoc]
 congr 2
 congr 1
 omega
theorem gather_full {m : Int} {k : Nat} {l ps : List PairT} (h : ¬ (l.length : Int) < m) : gather m k l ps = l := by
 unfold gather
 have : m.toNat - l.length = 0 := by omega
 rw [this];simp
theorem gather_low {m : Int} {k : Nat} {l a b : List PairT} (h : ∀ p ∈ a,p.n < k) : gather m k l (a ++ b) = gather m k l b := by
 unfold gather
 rw [List.filter_append,filter_no (l := a) (fun p hp => decide_eq_false (by have := h p hp;omega)),List.nil_append]
theorem walkR_scan (m : Int) (k : Nat) (v : Nat → List UInt8) : ∀ (d deep h : Nat) (hs : List Nat) (ps : List PairT) (x : Got) (r : Got × Bool),WalkR (stS m k) k v d deep h hs ps x r → r.1.l = gather m k x.l ps ∧ r.2 = decide ((r.1.l.length : Int) < m)
 | 0,deep,h,hs,ps,x,r,hw => ⟨hw.2.2.1,hw.2.2.2⟩
 | d + 1,deep,h,hs,ps,x,r,⟨ks1,ks2,a,b,hi,hl,hwy,hhs,hps,hw⟩ => by
  subst hps
  have e : pairsOf (a ++ b) = pairsOf a ++ pairsOf b := by simp [pairsOf]
  have hlow : ∀ p ∈ pairsOf a,p.n < k := fun p hp => by
   obtain ⟨c,hc,hp⟩ := List.mem_flatMap.1 hp
   have hsep := hi.sep
   rw [List.map_append,List.map_append] at hsep
   obtain ⟨k',hk',hlt⟩ := last_of hsep (by simpa using hl) c.ns (List.mem_map.2 ⟨c,hc,rfl⟩) p.n (mem_ns.2 ⟨p,hp,rfl⟩)
   obtain ⟨k2,hk2,rfl⟩ := List.mem_map.1 hk'
   have := hwy.le k2 hk2
   omega
  rw [e,gather_low hlow]
  rcases hw with ⟨x1,h1,rfl⟩ | ⟨x1,h1,hf⟩
  ·have e1 : x1.l = x.l := by have := h1.2.2.1;rw [gather_nil] at this;exact this
   have e2 : ¬ (x1.l.length : Int) < m := by have := h1.2.2.2;simpa using this.symm
   exact ⟨by rw [e1] at e2 ⊢;exact (gather_full e2).symm,(decide_eq_false e2).symm⟩
  ·have e1 : x1.l = x.l := by have := h1.2.2.1;rw [gather_nil] at this;exact this
   have e2 : (x1.l.length : Int) < m := by have := h1.2.2.2;simpa using this.symm
   have key : ∀ (b : List Sub) (x : Got) (r : Got × Bool),(x.l.length : Int) < m → FoldR (fun (c : Sub) x r => WalkR (stS m k) k v d (deep + 1) c.h c.hs c.ps x r) b x r → r.1.l = gather m k x.l (pairsOf b) ∧ r.2 = decide ((r.1.l.length : Int) < m) := by
    intro b x r hx hf
    induction hf with
    | nil x => exact ⟨by simp [pairsOf,gather_nil],(decide_eq_true hx).symm⟩
    | @go c cs x x' r h k2 ih =>
     have h1 := walkR_scan m k v d _ _ _ _ _ _ h
     have h2 : (x'.l.length : Int) < m := by have := h1.2;simpa using this.symm
     have h3 := ih h2
     have e3 : pairsOf (c :: cs) = c.ps ++ pairsOf cs := by simp [pairsOf]
     rw [e3,gather_append,← h1.1]
     exact h3
    | @stop c cs x x' h =>
     have h1 := walkR_scan m k v d _ _ _ _ _ _ h
     have h2 : ¬ (x'.l.length : Int) < m := by have := h1.2;simpa using this.symm
     have e3 : pairsOf (c :: cs) = c.ps ++ pairsOf cs := by simp [pairsOf]
     rw [e3,gather_append,← h1.1]
     exact ⟨(gather_full h2).symm,(decide_eq_false h2).symm⟩
   have := key b x1 r e2 hf
   rw [e1] at this
   exact this
def scanOf (m : Int) (k : Nat) (ps : List PairT) : List PairT := gather m k [] ps
theorem zeroSlP : (Tryz.prog.info? 76).bind (·.zero) = some (.slice none 0 0) := by kernel_rfl
set_option maxHeartbeats 8000000 in
theorem Scan_calls {w : World} {s : TX} {c r : Nat} {hs : List Nat} {ps : List PairT} (hb : Bundle w s.L) (h0 : s.Ok c) (R : Root s r hs ps) (z : Int) (hz : (r : Int) = z) (frm : List UInt8) (hfrm : frm.length = 32) (m : Int) :
  Calls Tryz.prog 45 #[.pointer (some ⟨s.g,0,none⟩),.int .u32 z,arrV frm,.int .i64 m] w fun e w' => ∃ p cap,e = .returned (.tuple #[.slice p (scanOf m (kn frm) ps).length cap,.int .i64 0]) ∧
   BunTo w (ownL s.L) (rdL s.L) (s.L ++ [ownS 80 40 p (scanOf m (kn frm) ps).length cap (pairV (scanOf m (kn frm) ps))]) w' := by
 subst hz
 have H := hb.open_
 obtain ⟨O,hO⟩ : ∃ O,ownL s.L = O := ⟨_,rfl⟩
 obtain ⟨R0,hR0⟩ : ∃ R,rdL s.L = R := ⟨_,rfl⟩
 rw [hO,hR0] at H ⊢
 have HO := Lib.hid h0
 have HFR := Lib.hid hfrm
 obtain ⟨PP,hPP⟩ : ∃ PP : Ending → World → Prop,(fun e w' => ∃ p cap,e = .returned (.tuple #[.slice p (scanOf m (kn frm) ps).length cap,.int .i64 0]) ∧
   BunTo w O R0 (s.L ++ [ownS 80 40 p (scanOf m (kn frm) ps).length cap (pairV (scanOf m (kn frm) ps))]) w') = PP := ⟨_,rfl⟩
 have HPP := Lib.hid hPP
 rw [hPP]
 have R1 := R.is
 clear hb h0 R hO hR0 hPP hfrm
 rcases R1 with ⟨rfl,rfl,rfl⟩ | ⟨d,sz,h1,T⟩
 ·go_enter Tryz.func45,Tryz.ntmps45
  go_upto_region 5 with (first
   | (refine wpList_box_st H rfl 67 _ rfl (arrV frm) rfl ?_;clear H;intro W gf H;replace H : St O R0 w W (s.L ++ [blk gf (.cells (byteV frm).toArray 67 (0,0))]) := H)
   | (refine wpList_box_st H rfl 3 _ rfl (.int .i64 m) rfl ?_;clear H;intro W gm H)
   | (refine wpList_alloc_st H rfl 76 rfl _ zeroSlP ?_;clear H;intro W gl H)
   | (refine wpList_loadrow_st rfl 67 _ rfl gf rfl _ _ _ (H.at 7 rfl) _ Tryz.underlying67 rfl (size_key32 frm HFR.out) ?_)
   | (go_at_call 81;go_loud (replace H := H.addNil 80 40;replace H : St O R0 w W (s.L ++ gotL frm m gf gl gm ⟨[],none,0⟩) := H.pull 8 rfl;replace H := H.rebun;(refine (walks_none (s := s) H.bundle HO.out frm).mono ?_);rintro e W ⟨rfl,hto⟩;replace H := BunTo.front (R := []) hto (by rw [List.append_nil];exact H);rw [List.append_nil] at H;clear hto;replace H := H.unbun)))
  replace H : St O R0 w W (s.L ++ [blk gf (.cells (byteV frm).toArray 67 (0,0)),blk gl (.cells #[.slice none 0 0] 76 (0,0)),ownS 80 40 none 0 0 (pairV []),blk gm (.cells #[.int .i64 m] 3 (0,0))]) := H
  have hf := row_cell (H.at 8 rfl) (off := 0) (v := .slice none 0 0) rfl
  go_wp2
  rw [← HPP.out,show scanOf m (kn frm) [] = [] from gather_nil _ _ _]
  exact ⟨none,0,rfl,St.bunTo ((show St O R0 w _ (s.L ++ [ownS 80 40 none 0 0 (pairV []),_,_,_]) from (H.pull 7 rfl).pull 7 rfl).take 8)⟩
 ·have HT := Lib.hid T
  have H1 := Lib.hid h1
  clear T h1
  go_enter Tryz.func45,Tryz.ntmps45
  go_upto_region 5 with (first
   | (refine wpList_box_st H rfl 67 _ rfl (arrV frm) rfl ?_;clear H;intro W gf H;replace H : St O R0 w W (s.L ++ [blk gf (.cells (byteV frm).toArray 67 (0,0))]) := H)
   | (refine wpList_box_st H rfl 3 _ rfl (.int .i64 m) rfl ?_;clear H;intro W gm H)
   | (refine wpList_alloc_st H rfl 76 rfl _ zeroSlP ?_;clear H;intro W gl H)
   | (refine wpList_loadrow_st rfl 67 _ rfl gf rfl _ _ _ (H.at 7 rfl) _ Tryz.underlying67 rfl (size_key32 frm HFR.out) ?_)
   | (go_at_call 81;go_loud (replace H := H.addNil 80 40;replace H : St O R0 w W (s.L ++ gotL frm m gf gl gm ⟨[],none,0⟩) := H.pull 8 rfl;replace H := H.rebun;(refine (walks_some (x := ⟨[],none,0⟩) (scan_see frm HFR.out m gf gl gm) (enters_of Tryz.func85 (by kernel_rfl) rfl) (Vq := fun q x => x.l.length ≤ 6 * q ∧ ∀ p ∈ x.l,PairOk p) (fun q x hq hx => ⟨by have := hx.1;omega,hx.2⟩) (fun q x h ps deep x' hx hst => ⟨by have h5 := gather_len m (kn frm) x.l ps;have h6 := hst.1;have h7 := hx.1;have h8 : x'.l = _ := hst.2.2.1;rw [h8];omega,by have h8 : x'.l = _ := hst.2.2.1;rw [h8];exact gather_good hx.2 hst.2.1⟩) H.bundle ⟨Nat.zero_le _,fun p hp => by cases hp⟩ HO.out HT.out.lies HT.out.held H1.out HFR.out _ rfl).mono ?_);rintro e W ⟨y,hy,rfl,hto⟩;have HY := Lib.hid (walkR_scan _ _ _ _ _ _ _ _ _ _ hy).1;clear hy;replace H := BunTo.front (R := []) hto (by rw [List.append_nil];exact H);rw [List.append_nil] at H;clear hto;replace H := H.unbun)))
  obtain ⟨⟨l,pl,cl⟩,b⟩ := y
  have hl : l = scanOf m (kn frm) ps := HY.out
  subst hl
  obtain ⟨q,hq⟩ : ∃ q,(scanOf m (kn frm) ps).length = q := ⟨_,rfl⟩
  have HQ := Lib.hid hq
  replace H : St O R0 w W (s.L ++ [blk gf (.cells (byteV frm).toArray 67 (0,0)),blk gl (.cells #[.slice pl q cl] 76 (0,0)),ownS 80 40 pl q cl (pairV (scanOf m (kn frm) ps)),blk gm (.cells #[.int .i64 m] 3 (0,0))]) := by rw [← hq];exact H
  clear hq HY
  have hf := row_cell (H.at 8 rfl) (off := 0) (v := .slice pl q cl) rfl
  go_wp2
  rw [← HPP.out,HQ.out]
  exact ⟨pl,cl,rfl,St.bunTo ((show St O R0 w _ (s.L ++ [ownS 80 40 pl q cl (pairV (scanOf m (kn frm) ps)),_,_,_]) from (H.pull 7 rfl).pull 7 rfl).take 8)⟩
end Go.Proofs.YtlgciddnpinpbaaGreatDoor
