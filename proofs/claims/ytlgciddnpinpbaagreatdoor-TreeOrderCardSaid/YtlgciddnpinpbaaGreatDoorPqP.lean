/- Texts of this proof, packed. -/
import Derived.Test.YtlgciddnpinpbaaGreatDoorPkBase4
import Derived.Test.YtlgciddnpinpbaaGreatDoorPqA
import Derived.Test.YtlgciddnpinpbaaGreatDoorPqR
import Derived.Test.YtlgciddnpinpbaaGreatDoorPqB
import Derived.Test.YtlgciddnpinpbaaGreatDoorPqC
import Derived.Test.YtlgciddnpinpbaaGreatDoorPqE
import Derived.Test.YtlgciddnpinpbaaGreatDoorPqD
import Derived.Test.YtlgciddnpinpbaaGreatDoorPqF
import Derived.Test.YtlgciddnpinpbaaGreatDoorPqG
import Derived.Test.YtlgciddnpinpbaaGreatDoorPqH
import Derived.Test.YtlgciddnpinpbaaGreatDoorPqI
import Derived.Test.YtlgciddnpinpbaaGreatDoorPqK
import Derived.Test.YtlgciddnpinpbaaGreatDoorPqL
import Derived.Test.YtlgciddnpinpbaaGreatDoorPqM
import Derived.Test.YtlgciddnpinpbaaGreatDoorPqN
import Derived.Test.YtlgciddnpinpbaaGreatDoorPqO
set_option linter.unusedSimpArgs false
set_option linter.unusedVariables false
namespace Go.Proofs.YtlgciddnpinpbaaGreatDoor
open Go.RowKit
set_option maxRecDepth 40000
theorem split_cells {W : World} {g h : Nat} {k : List UInt8} (hg : (splitA g k h).prop W) (hk : k.length = 32) : (∀ j u,(byteV k)[j]? = some u → W.cell? ((⟨g,0,none⟩ : Addr).add j) = some u) ∧ W.cell? ⟨g,32,none⟩ = some (.int .i64 (h : Int)) := by
 have hb : W.heap[g]? = some (.cells (byteV k ++ [Value.int .i64 (h : Int)]).toArray 184 (0,0)) := hg
 refine ⟨fun j u hu => blk_cell (off := 0) hb ?_,?_⟩
 ·rw [List.drop_zero,List.getElem?_append_left (List.getElem?_eq_some_iff.1 hu).1];exact hu
 ·have := row_cell hb (off := 32) (v := .int .i64 (h : Int)) (by
   simp only [List.getElem?_toArray]
   rw [List.getElem?_append_right (by rw [byteV_length,hk];omega),byteV_length,hk];rfl)
  exact this
def PutOk (d : Nat) : Prop := ∀ (w : World) (s : TX) (c sz h deep : Nat) (hs : List Nat) (ps : List PairT) (p : PairT) (_ : Bundle w (s.L ++ [errA])) (_ : s.Ok c) (_ : Tree s d sz h hs ps) (_ : 1 ≤ sz) (_ : PairOk p) (_ : deep + d ≤ 40) (z1 z2 : Int) (_ : (h : Int) = z1) (_ : (deep : Int) = z2),
  Calls Tryz.prog 116 #[.pointer (some ⟨s.g,0,none⟩),.int .i64 z1,.agg (byteV p.b).toArray,.int .i64 z2] w (PutPost s c d sz h hs (ins p ps) w (ownL (s.L ++ [errA])) (rdL (s.L ++ [errA])))
structure PartT (k : List UInt8) (c1 c2 : Sub) : Prop where
 k32 : k.length = 32
set_option maxHeartbeats 16000000 in
theorem put_innerW {d : Nat} (IH : PutOk d) : PutOk (d + 1) := by
 intro w s c sz h deep hs ps p hb h0 T h1 hp hd z1 z2 hz1 hz2
 subst hz1 hz2
 have H := hb.open_
 obtain ⟨O,hO⟩ : ∃ O,ownL (s.L ++ [errA]) = O := ⟨_,rfl⟩
 obtain ⟨R0,hR0⟩ : ∃ R,rdL (s.L ++ [errA]) = R := ⟨_,rfl⟩
 rw [hO,hR0] at H ⊢
 obtain ⟨ks,cs,hi,hv,hks,hcs,h6,hhs,hps⟩ := T.lies.inner
 have HO := Lib.hid h0
 have HIH := Lib.hid IH
 have HT := Lib.hid T
 obtain ⟨n,hn⟩ : ∃ n,sz = n := ⟨_,rfl⟩
 rw [hn] at hks hcs h6 h1
 have hlk : ∀ x ∈ cs.map Sub.h,x < s.n := fun x hx => by
  obtain ⟨ch,hch,rfl⟩ := List.mem_map.1 hx
  have hm : ch.h ∈ hs := by rw [hhs];exact List.mem_cons_of_mem _ (List.mem_flatMap.2 ⟨ch,hch,(hi.kids ch hch).2.mem⟩)
  exact (T.held.taken _ hm).2.1
 have hsn := h0.nn.2
 obtain ⟨x0,xs,hx⟩ : ∃ x0 xs,cs.map Sub.h = x0 :: xs := by
  match cs,hcs with
  | c :: cs,_ => exact ⟨c.h,cs.map Sub.h,rfl⟩
 have HX := Lib.hid hx
 have HLK := Lib.hid (show ∀ x ∈ x0 :: xs,x < s.n by rw [← hx];exact hlk)
 have HSN := Lib.hid hsn
 have HXL := Lib.hid (show xs.length = n by
  have := congrArg List.length hx
  simp only [List.length_map,List.length_cons] at this;omega)
 have HI := Lib.hid hi
 have HV := Lib.hid hv
 have HKS := Lib.hid hks
 have HCS := Lib.hid hcs
 have HHS := Lib.hid hhs
 have HPS := Lib.hid hps
 have HP := Lib.hid hp
 have HSZ := Lib.hid hn
 have H1 := Lib.hid h1
 have H6 := Lib.hid h6
 have HD := Lib.hid hd
 have HH := Lib.hid (T.held.taken h (by rw [hhs];exact List.mem_cons_self ..))
 have HPB := Lib.hid (show (byteV p.b).length = 40 by rw [byteV_length];exact hp.len)
 have hd2 : ¬ (40 < (deep : Int)) := by omega
 have hd3 : 0 ≤ (deep : Int) := by omega
 have hd4 : (deep : Int) ≤ 40 := by omega
 have hn0 : 0 ≤ (n : Int) := by omega
 have hn6 : (n : Int) ≤ 6 := by omega
 obtain ⟨PP,hPP⟩ : ∃ PP,PutPost s c (d + 1) sz h hs (ins p ps) w O R0 = PP := ⟨_,rfl⟩
 have HPP := Lib.hid hPP
 rw [hPP]
 clear hb h0 T hi hv hks hcs h6 hhs hps hn hp h1 hd hO hR0 hPP hlk hsn hx IH
 go_enter Tryz.func116,Tryz.ntmps116
 go_upto_region 6 with (first
  | (refine wpList_box_st H rfl 80 _ rfl (.agg (byteV p.b).toArray) rfl ?_;clear H;intro W gp H;replace H : St O R0 w W (s.L ++ [errA,blk gp (.cells (byteV p.b).toArray 80 (0,0))]) := H)
  | (go_at_call 124;go_loud ((refine (load_inner (s := s) (H.take 7).bundle HO.out _ h rfl HH.out.2.1 ks x0 xs (by rw [HV.out,HX.out]) (by rw [HXL.out,HKS.out]) (by rw [HKS.out];exact H1.out) (by rw [HKS.out];exact H6.out) HI.out.k32 (by have := HLK.out x0 (by simp);have := HSN.out;omega) (fun x hx => by have := HLK.out x (by simp [hx]);have := HSN.out;omega)).mono ?_);rintro e W ⟨g,pk,ck,pc,cc,rfl,hto⟩;replace H := BunTo.front2 (R := [errA,blk gp (.cells (byteV p.b).toArray 80 (0,0))]) hto H;clear hto;rw [HKS.out] at H)))
 replace H : St O R0 w W (s.L ++ [errA,blk gp (.cells (byteV p.b).toArray 80 (0,0)),nodeA g h false (.slice none 0 0) (.slice pk n ck) (.slice pc (n + 1) cc),ownS 67 32 pk n ck (keyV ks),ownS 3 1 pc (n + 1) cc (intsV (x0 :: xs))]) := H
 have hf := row_cell (H.at 9 rfl) (nRow1 _ _ _ _ _)
 go_upto_region 13 with (first
  | (refine wpList_load_cells rfl 67 _ rfl ⟨gp,0,none⟩ rfl _ Tryz.underlying67 rfl (byteV p.k) (by rw [sizeK,byteV_length,HP.out.k]) (pair_cells (H.at 8 rfl) HP.out).1 ?_)
  | (go_at_call 153;go_loud ((refine (way_calls (H.at 9 rfl) (ownS_rd (H.at 10 rfl)) HKS.out HI.out.k32 HP.out.k HI.out.rise (by have := H6.out;omega)).mono ?_);rintro e W' ⟨j,rfl,hj,hW,hb⟩;replace H := H.stay (Fix.of_below hb _);clear hb hf)))
 obtain ⟨ch,hch,hroad⟩ := road_of (n := p.n) HT.out HI.out HV.out (HKS.out.trans HSZ.out.symm) (by rw [HCS.out,HSZ.out]) (by rw [HSZ.out];exact H6.out) HHS.out HPS.out (by rw [HSZ.out];exact hj) hW
 have HR := Lib.hid hroad
 have HCH := Lib.hid hch
 have HJ := Lib.hid hj
 have hj0 : 0 ≤ (j : Int) := by omega
 have hj6 : (j : Int) < (n : Int) + 1 := by omega
 have hj7 : (j : Int) ≤ 6 := by omega
 have hxj : (x0 :: xs)[j]? = some ch.h := by rw [← HX.out,List.getElem?_map,hch];rfl
 obtain ⟨gq,oq,hpq,hcell⟩ := intsV_at (ownS_rd (H.at 11 rfl)) j ch.h hxj
 obtain ⟨pc',hpc⟩ : ∃ q,pc = q := ⟨_,rfl⟩
 subst hpq
 clear hroad hch hj hW hxj pc' hpc
 replace H := H.drew
 refine wp_region_T (fun w' => w'.cell? ⟨g,4,none⟩ = some (.slice (some ⟨gq,oq,none⟩) (n + 1) cc) ∧ w'.cell? ⟨gq,oq + j,none⟩ = some (.int .i64 (ch.h : Int)) ∧ w'.heap[gp]? = some (.cells (byteV p.b).toArray 80 (0,0))) [11] (by kernel_rfl) ⟨row_cell (H.at 9 rfl) (nRow4 _ _ _ _ _),hcell,H.at 8 rfl⟩ (fun hHeld => ?_)
 (refine wpAnyT_take (i := 0) (f := 20) (v := ?_) rfl (by kernel_rfl) (by kernel_rfl) (by kernel_rfl) (by kernel_rfl) (by kernel_rfl) (fun _ _ _ h => h) (Or.inl ⟨by rfl,?_⟩) (by assumption) ?_;rotate_left;focus (intro w hSw;(try dsimp only at hSw);go_simp;all_goals (with_reducible rfl)));(try simp only [Act.put,rp1,rp2,rp3,rp4,rp5,rp6])
 (refine wpAnyT_take (i := 1) (f := 20) (v := ?_) rfl (by kernel_rfl) (by kernel_rfl) (by kernel_rfl) (by kernel_rfl) (by kernel_rfl) (fun _ _ _ h => h) (Or.inl ⟨by rfl,?_⟩) (by assumption) ?_;rotate_left;focus (intro w hSw;(try dsimp only at hSw);go_simp;all_goals (with_reducible rfl)));(try simp only [Act.put,rp1,rp2,rp3,rp4,rp5,rp6])
 (refine wpAnyT_take (i := 2) (f := 20) (v := ?_) rfl (by kernel_rfl) (by kernel_rfl) (by kernel_rfl) (by kernel_rfl) (by kernel_rfl) (fun _ _ _ h => h) (Or.inl ⟨by rfl,?_⟩) (by assumption) ?_;rotate_left;focus (intro w hSw;(try dsimp only at hSw);go_simp;all_goals (with_reducible rfl)));(try simp only [Act.put,rp1,rp2,rp3,rp4,rp5,rp6])
 (refine wpAnyT_take (i := 3) (f := 20) (v := ?_) rfl (by kernel_rfl) (by kernel_rfl) (by kernel_rfl) (by kernel_rfl) (by kernel_rfl) (fun _ _ _ h => h) (Or.inl ⟨by rfl,?_⟩) (by assumption) ?_;rotate_left;focus (intro w hSw;(try dsimp only at hSw);go_simp;all_goals (with_reducible rfl)));(try simp only [Act.put,rp1,rp2,rp3,rp4,rp5,rp6])
 (refine wpAnyT_take (i := 4) (f := 20) rfl (by kernel_rfl) (by kernel_rfl) (by kernel_rfl) (by kernel_rfl) (by kernel_rfl) (fun _ _ _ h => h) ((yieldsIf_load1 (by rfl) 72 _ rfl _ _ (by rfl) _ Tryz.underlying72 rfl _ (fun w h => h.1))) (by assumption) ?_);(try simp only [Act.put,rp1,rp2,rp3,rp4,rp5,rp6])
 (refine wpAnyT_take (i := 5) (f := 20) (v := ?_) rfl (by kernel_rfl) (by kernel_rfl) (by kernel_rfl) (by kernel_rfl) (by kernel_rfl) (fun _ _ _ h => h) (Or.inl ⟨by rfl,?_⟩) (by assumption) ?_;rotate_left;focus (intro w hSw;(try dsimp only at hSw);go_simp;all_goals (with_reducible rfl)));(try simp only [Act.put,rp1,rp2,rp3,rp4,rp5,rp6])
 (refine wpAnyT_take (i := 6) (f := 20) (v := ?_) rfl (by kernel_rfl) (by kernel_rfl) (by kernel_rfl) (by kernel_rfl) (by kernel_rfl) (fun _ _ _ h => h) (Or.inl ⟨by rfl,?_⟩) (by assumption) ?_;rotate_left;focus (intro w hSw;(try dsimp only at hSw);go_simp;all_goals (with_reducible rfl)));(try simp only [Act.put,rp1,rp2,rp3,rp4,rp5,rp6])
 (refine wpAnyT_take (i := 7) (f := 20) rfl (by kernel_rfl) (by kernel_rfl) (by kernel_rfl) (by kernel_rfl) (by kernel_rfl) (fun _ _ _ h => h) ((yieldsIf_load1 (by rfl) 3 _ rfl _ _ (by rfl) _ Tryz.underlying3 rfl _ (fun w h => h.2.1))) (by assumption) ?_);(try simp only [Act.put,rp1,rp2,rp3,rp4,rp5,rp6])
 (refine wpAnyT_take (i := 8) (f := 20) rfl (by kernel_rfl) (by kernel_rfl) (by kernel_rfl) (by kernel_rfl) (by kernel_rfl) (fun _ _ _ h => h) ((yieldsIf_loadrow (by rfl) 80 _ rfl _ (by rfl) _ _ _ _ Tryz.underlying80 rfl (size_pair _ HPB.out) (fun w h => h.2.2))) (by assumption) ?_);(try simp only [Act.put,rp1,rp2,rp3,rp4,rp5,rp6])
 (refine wpAnyT_take (i := 9) (f := 20) (v := ?_) rfl (by kernel_rfl) (by kernel_rfl) (by kernel_rfl) (by kernel_rfl) (by kernel_rfl) (fun _ _ _ h => h) (Or.inl ⟨by rfl,?_⟩) (by assumption) ?_;rotate_left;focus (intro w hSw;(try dsimp only at hSw);go_simp;all_goals (with_reducible rfl)));(try simp only [Act.put,rp1,rp2,rp3,rp4,rp5,rp6])
 (refine wpAnyT_take (i := 10) (f := 20) (v := ?_) rfl (by kernel_rfl) (by kernel_rfl) (by kernel_rfl) (by kernel_rfl) (by kernel_rfl) (fun _ _ _ h => h) (Or.inl ⟨by rfl,?_⟩) (by assumption) ?_;rotate_left;focus (intro w hSw;(try dsimp only at hSw);go_simp;all_goals (with_reducible rfl)));(try simp only [Act.put,rp1,rp2,rp3,rp4,rp5,rp6])
 (refine wpAnyT_one (i := 11) (by kernel_rfl) rfl (fun K hK => ?_));(rw [if_pos (by rfl)]);go_simp;go_at_call 116
 rw [show IntKind.i64.wrap ((deep : Int) + 1) = ((deep + 1 : Nat) : Int) by rw [IntKind.wrap_i64];omega]
 refine (HIH.out _ s c _ _ (deep + 1) _ _ p (H.take 8).bundle HO.out HR.out.child (by have := HR.out.child3;omega) HP.out (by have := HD.out;omega) _ _ rfl rfl).mono ?_
 rintro e W (⟨c',s1,ws,rfl,hput,hmv,hws,hln,hto⟩ | ⟨c1,c2,k,h2,gs,s1,ws,rfl,hput,hmv,hws,hln,hto⟩ | ⟨ge,inner,s1,rfl,hge,hlo,hok,ht1,hg1,hgl1,hto⟩)
 ·have HA := Lib.hid (And.intro hput (And.intro hmv (And.intro hws hln)))
  clear hput hmv hws hln hHeld hcell
  replace H := BunTo.front (R := [blk gp (.cells (byteV p.b).toArray 80 (0,0)),nodeA g h false (.slice none 0 0) (.slice pk n ck) (.slice (some ⟨gq,oq,none⟩) (n + 1) cc),ownS 67 32 pk n ck (keyV ks),ownS 3 1 (some ⟨gq,oq,none⟩) (n + 1) cc (intsV (x0 :: xs))]) hto H
  clear hto
  (try go_wp2_with fail)
  refine hK.out _ _ (Or.inl ⟨11,by simp,by kernel_rfl⟩) ?_;clear hK K
  (try simp only [Act.put,rp1,rp2,rp3,rp4,rp5,rp6])
  (refine wpAnyT_pure (i := 12) (v := ?_) rfl (by kernel_rfl) (by kernel_rfl) (by kernel_rfl) (by kernel_rfl) (fun _ _ _ h => h) (Or.inl ⟨by rfl,?_⟩) (Or.inl ⟨11,by simp,by kernel_rfl⟩) ?_;rotate_left;focus (intro w hSw;clear hSw;go_simp;all_goals (with_reducible rfl)));(try simp only [Act.put,rp1,rp2,rp3,rp4,rp5,rp6])
  (refine wpAnyT_pure (i := 13) (v := ?_) rfl (by kernel_rfl) (by kernel_rfl) (by kernel_rfl) (by kernel_rfl) (fun _ _ _ h => h) (Or.inl ⟨by rfl,?_⟩) (Or.inl ⟨11,by simp,by kernel_rfl⟩) ?_;rotate_left;focus (intro w hSw;clear hSw;go_simp;all_goals (with_reducible rfl)));(try simp only [Act.put,rp1,rp2,rp3,rp4,rp5,rp6])
  (refine wpAnyT_pure (i := 14) (v := ?_) rfl (by kernel_rfl) (by kernel_rfl) (by kernel_rfl) (by kernel_rfl) (fun _ _ _ h => h) (Or.inl ⟨by rfl,?_⟩) (Or.inl ⟨11,by simp,by kernel_rfl⟩) ?_;rotate_left;focus (intro w hSw;clear hSw;go_simp;all_goals (with_reducible rfl)));(try simp only [Act.put,rp1,rp2,rp3,rp4,rp5,rp6])
  (refine wpAnyT_pure (i := 15) (v := ?_) rfl (by kernel_rfl) (by kernel_rfl) (by kernel_rfl) (by kernel_rfl) (fun _ _ _ h => h) (Or.inl ⟨by rfl,?_⟩) (Or.inl ⟨11,by simp,by kernel_rfl⟩) ?_;rotate_left;focus (intro w hSw;clear hSw;go_simp;all_goals (with_reducible rfl)));(try simp only [Act.put,rp1,rp2,rp3,rp4,rp5,rp6])
  (refine wpAnyT_pure (i := 16) (v := ?_) rfl (by kernel_rfl) (by kernel_rfl) (by kernel_rfl) (by kernel_rfl) (fun _ _ _ h => h) (Or.inl ⟨by rfl,?_⟩) (Or.inl ⟨11,by simp,by kernel_rfl⟩) ?_;rotate_left;focus (intro w hSw;clear hSw;go_simp;all_goals (with_reducible rfl)));(try simp only [Act.put,rp1,rp2,rp3,rp4,rp5,rp6])
  (refine wpAnyT_done (by kernel_rfl) ?_ _)
  go_wp2_with (first
   | (go_at_call 117;go_loud ((refine (below_nilR _).mono ?_);rintro e W' ⟨rfl,rfl⟩)))
  rw [← HPP.out]
  exact putPost_inner1 HR.out HA.out.1 HA.out.2.1 HA.out.2.2.1 HA.out.2.2.2 rfl (St.bunTo (H.take 8))
 ·have HA := Lib.hid (And.intro hput (And.intro hmv (And.intro hws hln)))
  have HPT := Lib.hid (PartT.mk (c1 := c1) (c2 := c2) hput.2.2.2.2.2.2.2.1)
  clear hput hmv hws hln hHeld hcell
  replace H := BunTo.front (R := [blk gp (.cells (byteV p.b).toArray 80 (0,0)),nodeA g h false (.slice none 0 0) (.slice pk n ck) (.slice (some ⟨gq,oq,none⟩) (n + 1) cc),ownS 67 32 pk n ck (keyV ks),ownS 3 1 (some ⟨gq,oq,none⟩) (n + 1) cc (intsV (x0 :: xs))]) hto H
  clear hto
  obtain ⟨pc,hpc⟩ : ∃ pc,(some ⟨gq,oq,none⟩ : Option Addr) = pc := ⟨_,rfl⟩
  rw [hpc] at H
  clear hpc
  replace H : St O R0 w W (s1.L ++ [errA,splitA gs k h2,blk gp (.cells (byteV p.b).toArray 80 (0,0)),nodeA g h false (.slice none 0 0) (.slice pk n ck) (.slice pc (n + 1) cc),ownS 67 32 pk n ck (keyV ks),ownS 3 1 pc (n + 1) cc (intsV (x0 :: xs))]) := H
  (try go_wp2_with fail)
  refine hK.out _ _ (Or.inl ⟨11,by simp,by kernel_rfl⟩) ?_;clear hK K
  (try simp only [Act.put,rp1,rp2,rp3,rp4,rp5,rp6])
  (refine wpAnyT_pure (i := 12) (v := ?_) rfl (by kernel_rfl) (by kernel_rfl) (by kernel_rfl) (by kernel_rfl) (fun _ _ _ h => h) (Or.inl ⟨by rfl,?_⟩) (Or.inl ⟨11,by simp,by kernel_rfl⟩) ?_;rotate_left;focus (intro w hSw;clear hSw;go_simp;all_goals (with_reducible rfl)));(try simp only [Act.put,rp1,rp2,rp3,rp4,rp5,rp6])
  (refine wpAnyT_pure (i := 13) (v := ?_) rfl (by kernel_rfl) (by kernel_rfl) (by kernel_rfl) (by kernel_rfl) (fun _ _ _ h => h) (Or.inl ⟨by rfl,?_⟩) (Or.inl ⟨11,by simp,by kernel_rfl⟩) ?_;rotate_left;focus (intro w hSw;clear hSw;go_simp;all_goals (with_reducible rfl)));(try simp only [Act.put,rp1,rp2,rp3,rp4,rp5,rp6])
  (refine wpAnyT_pure (i := 14) (v := ?_) rfl (by kernel_rfl) (by kernel_rfl) (by kernel_rfl) (by kernel_rfl) (fun _ _ _ h => h) (Or.inl ⟨by rfl,?_⟩) (Or.inl ⟨11,by simp,by kernel_rfl⟩) ?_;rotate_left;focus (intro w hSw;clear hSw;go_simp;all_goals (with_reducible rfl)));(try simp only [Act.put,rp1,rp2,rp3,rp4,rp5,rp6])
  (refine wpAnyT_pure (i := 15) (v := ?_) rfl (by kernel_rfl) (by kernel_rfl) (by kernel_rfl) (by kernel_rfl) (fun _ _ _ h => h) (Or.inl ⟨by rfl,?_⟩) (Or.inl ⟨11,by simp,by kernel_rfl⟩) ?_;rotate_left;focus (intro w hSw;clear hSw;go_simp;all_goals (with_reducible rfl)));(try simp only [Act.put,rp1,rp2,rp3,rp4,rp5,rp6])
  (refine wpAnyT_pure (i := 16) (v := ?_) rfl (by kernel_rfl) (by kernel_rfl) (by kernel_rfl) (by kernel_rfl) (fun _ _ _ h => h) (Or.inl ⟨by rfl,?_⟩) (Or.inl ⟨11,by simp,by kernel_rfl⟩) ?_;rotate_left;focus (intro w hSw;clear hSw;go_simp;all_goals (with_reducible rfl)));(try simp only [Act.put,rp1,rp2,rp3,rp4,rp5,rp6])
  (refine wpAnyT_done (by kernel_rfl) ?_ _)
  have HG := Lib.hid (show s1.g = s.g from HA.out.2.1.g)
  rw [← HA.out.2.1.g]
  go_upto_region 16 with fail
  replace H := H.drew
  refine wp_region_T (fun w' => w'.cell? ⟨g,3,none⟩ = some (.slice pk n ck) ∧ w'.cell? ⟨g,4,none⟩ = some (.slice pc (n + 1) cc) ∧ (∀ j u,(byteV k)[j]? = some u → w'.cell? ((⟨gs,0,none⟩ : Addr).add j) = some u) ∧ w'.cell? ⟨gs,32,none⟩ = some (.int .i64 (h2 : Int))) [24] (by kernel_rfl) ⟨row_cell (H.at 10 rfl) (nRow3 _ _ _ _ _),row_cell (H.at 10 rfl) (nRow4 _ _ _ _ _),(split_cells (H.at 8 rfl) HPT.out.k32).1,(split_cells (H.at 8 rfl) HPT.out.k32).2⟩ (fun hHeld => ?_)
  (refine wpAnyT_pure (i := 0) (v := ?_) rfl (by kernel_rfl) (by kernel_rfl) (by kernel_rfl) (by kernel_rfl) (fun _ _ _ h => h) (Or.inl ⟨by rfl,?_⟩) (Or.inr (by assumption)) ?_;rotate_left;focus (intro w hSw;clear hSw;go_simp;all_goals (with_reducible rfl)));(try simp only [Act.put,rp1,rp2,rp3,rp4,rp5,rp6])
  (refine wpAnyT_pure (i := 1) (v := ?_) rfl (by kernel_rfl) (by kernel_rfl) (by kernel_rfl) (by kernel_rfl) (fun _ _ _ h => h) (Or.inl ⟨by rfl,?_⟩) (Or.inr (by assumption)) ?_;rotate_left;focus (intro w hSw;clear hSw;go_simp;all_goals (with_reducible rfl)));(try simp only [Act.put,rp1,rp2,rp3,rp4,rp5,rp6])
  (refine wpAnyT_pure (i := 2) (v := ?_) rfl (by kernel_rfl) (by kernel_rfl) (by kernel_rfl) (by kernel_rfl) (fun _ _ _ h => h) (Or.inl ⟨by rfl,?_⟩) (Or.inr (by assumption)) ?_;rotate_left;focus (intro w hSw;clear hSw;go_simp;all_goals (with_reducible rfl)));(try simp only [Act.put,rp1,rp2,rp3,rp4,rp5,rp6])
  (refine wpAnyT_pure (i := 3) (v := ?_) rfl (by kernel_rfl) (by kernel_rfl) (by kernel_rfl) (by kernel_rfl) (fun _ _ _ h => h) (Or.inl ⟨by rfl,?_⟩) (Or.inr (by assumption)) ?_;rotate_left;focus (intro w hSw;clear hSw;go_simp;all_goals (with_reducible rfl)));(try simp only [Act.put,rp1,rp2,rp3,rp4,rp5,rp6])
  (refine wpAnyT_pure (i := 4) (v := ?_) rfl (by kernel_rfl) (by kernel_rfl) (by kernel_rfl) (by kernel_rfl) (fun _ _ _ h => h) (Or.inl ⟨by rfl,?_⟩) (Or.inr (by assumption)) ?_;rotate_left;focus (intro w hSw;clear hSw;go_simp;all_goals (with_reducible rfl)));(try simp only [Act.put,rp1,rp2,rp3,rp4,rp5,rp6])
  (refine wpAnyT_take (i := 5) (f := 30) rfl (by kernel_rfl) (by kernel_rfl) (by kernel_rfl) (by kernel_rfl) (by kernel_rfl) (fun _ _ _ h => h) ((yieldsIf_load1 (by rfl) 147 _ rfl _ _ (by rfl) _ Tryz.underlying147 rfl _ (fun w h => h.1))) (by assumption) ?_);(try simp only [Act.put,rp1,rp2,rp3,rp4,rp5,rp6])
  (refine wpAnyT_pure (i := 6) (v := ?_) rfl (by kernel_rfl) (by kernel_rfl) (by kernel_rfl) (by kernel_rfl) (fun _ _ _ h => h) (Or.inl ⟨by rfl,?_⟩) (Or.inr (by assumption)) ?_;rotate_left;focus (intro w hSw;clear hSw;go_simp;all_goals (with_reducible rfl)));(try simp only [Act.put,rp1,rp2,rp3,rp4,rp5,rp6])
  (refine wpAnyT_pure (i := 7) (v := ?_) rfl (by kernel_rfl) (by kernel_rfl) (by kernel_rfl) (by kernel_rfl) (fun _ _ _ h => h) (Or.inl ⟨by rfl,?_⟩) (Or.inr (by assumption)) ?_;rotate_left;focus (intro w hSw;clear hSw;go_simp;all_goals (with_reducible rfl)));(try simp only [Act.put,rp1,rp2,rp3,rp4,rp5,rp6])
  (refine wpAnyT_pure (i := 8) (v := ?_) rfl (by kernel_rfl) (by kernel_rfl) (by kernel_rfl) (by kernel_rfl) (fun _ _ _ h => h) (Or.inl ⟨by rfl,?_⟩) (Or.inr (by assumption)) ?_;rotate_left;focus (intro w hSw;clear hSw;go_simp;all_goals (with_reducible rfl)));(try simp only [Act.put,rp1,rp2,rp3,rp4,rp5,rp6])
  (refine wpAnyT_pure (i := 9) (v := ?_) rfl (by kernel_rfl) (by kernel_rfl) (by kernel_rfl) (by kernel_rfl) (fun _ _ _ h => h) (Or.inl ⟨by rfl,?_⟩) (Or.inr (by assumption)) ?_;rotate_left;focus (intro w hSw;clear hSw;go_simp;all_goals (with_reducible rfl)));(try simp only [Act.put,rp1,rp2,rp3,rp4,rp5,rp6])
  (refine wpAnyT_take (i := 10) (f := 30) rfl (by kernel_rfl) (by kernel_rfl) (by kernel_rfl) (by kernel_rfl) (by kernel_rfl) (fun _ _ _ h => h) ((yieldsIf_load_cells (by rfl) 67 _ rfl ⟨gs,0,none⟩ (by rfl) _ Tryz.underlying67 rfl (byteV k) (by rw [sizeK,byteV_length,HPT.out.k32]) (fun w h => h.2.2.1))) (by assumption) ?_);(try simp only [Act.put,rp1,rp2,rp3,rp4,rp5,rp6])
  (refine wpAnyT_pure (i := 13) (v := ?_) rfl (by kernel_rfl) (by kernel_rfl) (by kernel_rfl) (by kernel_rfl) (fun _ _ _ h => h) (Or.inl ⟨by rfl,?_⟩) (Or.inr (by assumption)) ?_;rotate_left;focus (intro w hSw;clear hSw;go_simp;all_goals (with_reducible rfl)));(try simp only [Act.put,rp1,rp2,rp3,rp4,rp5,rp6])
  (refine wpAnyT_pure (i := 14) (v := ?_) rfl (by kernel_rfl) (by kernel_rfl) (by kernel_rfl) (by kernel_rfl) (fun _ _ _ h => h) (Or.inl ⟨by rfl,?_⟩) (Or.inr (by assumption)) ?_;rotate_left;focus (intro w hSw;clear hSw;go_simp;all_goals (with_reducible rfl)));(try simp only [Act.put,rp1,rp2,rp3,rp4,rp5,rp6])
  (refine wpAnyT_pure (i := 15) (v := ?_) rfl (by kernel_rfl) (by kernel_rfl) (by kernel_rfl) (by kernel_rfl) (fun _ _ _ h => h) (Or.inl ⟨by rfl,?_⟩) (Or.inr (by assumption)) ?_;rotate_left;focus (intro w hSw;clear hSw;go_simp;all_goals (with_reducible rfl)));(try simp only [Act.put,rp1,rp2,rp3,rp4,rp5,rp6])
  (refine wpAnyT_take (i := 16) (f := 30) rfl (by kernel_rfl) (by kernel_rfl) (by kernel_rfl) (by kernel_rfl) (by kernel_rfl) (fun _ _ _ h => h) ((yieldsIf_load1 (by rfl) 72 _ rfl _ _ (by rfl) _ Tryz.underlying72 rfl _ (fun w h => h.2.1))) (by assumption) ?_);(try simp only [Act.put,rp1,rp2,rp3,rp4,rp5,rp6])
  (refine wpAnyT_pure (i := 17) (v := ?_) rfl (by kernel_rfl) (by kernel_rfl) (by kernel_rfl) (by kernel_rfl) (fun _ _ _ h => h) (Or.inl ⟨by rfl,?_⟩) (Or.inr (by assumption)) ?_;rotate_left;focus (intro w hSw;clear hSw;go_simp;all_goals (with_reducible rfl)));(try simp only [Act.put,rp1,rp2,rp3,rp4,rp5,rp6])
  (refine wpAnyT_pure (i := 18) (v := ?_) rfl (by kernel_rfl) (by kernel_rfl) (by kernel_rfl) (by kernel_rfl) (fun _ _ _ h => h) (Or.inl ⟨by rfl,?_⟩) (Or.inr (by assumption)) ?_;rotate_left;focus (intro w hSw;clear hSw;go_simp;all_goals (with_reducible rfl)));(try simp only [Act.put,rp1,rp2,rp3,rp4,rp5,rp6])
  (refine wpAnyT_pure (i := 19) (v := ?_) rfl (by kernel_rfl) (by kernel_rfl) (by kernel_rfl) (by kernel_rfl) (fun _ _ _ h => h) (Or.inl ⟨by rfl,?_⟩) (Or.inr (by assumption)) ?_;rotate_left;focus (intro w hSw;clear hSw;go_simp;all_goals (with_reducible rfl)));(try simp only [Act.put,rp1,rp2,rp3,rp4,rp5,rp6])
  (refine wpAnyT_pure (i := 20) (v := ?_) rfl (by kernel_rfl) (by kernel_rfl) (by kernel_rfl) (by kernel_rfl) (fun _ _ _ h => h) (Or.inl ⟨by rfl,?_⟩) (Or.inr (by assumption)) ?_;rotate_left;focus (intro w hSw;clear hSw;go_simp;all_goals (with_reducible rfl)));(try simp only [Act.put,rp1,rp2,rp3,rp4,rp5,rp6])
  (refine wpAnyT_pure (i := 21) (v := ?_) rfl (by kernel_rfl) (by kernel_rfl) (by kernel_rfl) (by kernel_rfl) (fun _ _ _ h => h) (Or.inl ⟨by rfl,?_⟩) (Or.inr (by assumption)) ?_;rotate_left;focus (intro w hSw;clear hSw;go_simp;all_goals (with_reducible rfl)));(try simp only [Act.put,rp1,rp2,rp3,rp4,rp5,rp6])
  (refine wpAnyT_take (i := 22) (f := 30) rfl (by kernel_rfl) (by kernel_rfl) (by kernel_rfl) (by kernel_rfl) (by kernel_rfl) (fun _ _ _ h => h) ((yieldsIf_load1 (by rfl) 3 _ rfl _ _ (by rfl) _ Tryz.underlying3 rfl _ (fun w h => h.2.2.2))) (by assumption) ?_);(try simp only [Act.put,rp1,rp2,rp3,rp4,rp5,rp6])
  have HKB := Lib.hid (show (byteV k).length = 32 by rw [byteV_length];exact HPT.out.k32)
  apply share7 (P := fun W gk2 ck2 gi2 ci2 gv gv2 => St O R0 w W (s1.L ++ [errA,splitA gs k h2,blk gp (.cells (byteV p.b).toArray 80 (0,0)),nodeA g h false (.slice none 0 0) (.slice pk n ck) (.slice pc (n + 1) cc),ownS 67 32 (some ⟨gk2,0,none⟩) (n + 1) ck2 ((keyV ks).take (j * 32) ++ (byteV k ++ (keyV ks).drop (j * 32))),blk gv (.cells (byteV k).toArray 67 (0,0)),ownS 3 1 (some ⟨gi2,0,none⟩) (n + 1 + 1) ci2 ((intsV (x0 :: xs)).take (j + 1) ++ ([Value.int .i64 (h2 : Int)] ++ (intsV (x0 :: xs)).drop (j + 1))),blk gv2 (.cells [Value.int .i64 (h2 : Int)].toArray 3 (0,0))]))
  ·intro tail
   refine wpAnyT_two (i := 11) (j := 23) (by kernel_rfl) rfl rfl (fun K hK => ?_) (fun K hK => ?_)
   ·(rw [if_pos (by rfl)]);(refine wp_buildslice_st H 147 67 _ _ rfl Tryz.underlying147 32 sizeK _ zeroK (by decide) (by decide) [(0,.agg (byteV k).toArray)] (by simp [Act.eval]) _ (fill_one 32 (byteV k) _ (by simp) HKB.out) ?_;intro W gv H;have hH2 := (show (fun w' => w'.cell? ⟨g,3,none⟩ = some (.slice pk n ck) ∧ w'.cell? ⟨g,4,none⟩ = some (.slice pc (n + 1) cc) ∧ (∀ j u,(byteV k)[j]? = some u → w'.cell? ((⟨gs,0,none⟩ : Addr).add j) = some u) ∧ w'.cell? ⟨gs,32,none⟩ = some (.int .i64 (h2 : Int))) W from ⟨row_cell (H.at 10 rfl) (nRow3 _ _ _ _ _),row_cell (H.at 10 rfl) (nRow4 _ _ _ _ _),(split_cells (H.at 8 rfl) HPT.out.k32).1,(split_cells (H.at 8 rfl) HPT.out.k32).2⟩);refine hK.out _ _ (Or.inr hH2) ?_;clear hK K );(try simp only [Act.put,rp1,rp2,rp3,rp4,rp5,rp6])
    refine wpAnyT_two (i := 12) (j := 23) (by kernel_rfl) rfl rfl (fun K hK => ?_) (fun K hK => ?_)
    ·(rw [if_pos (by rfl)]);(replace H : St O R0 w W (s1.L ++ [errA,splitA gs k h2,blk gp (.cells (byteV p.b).toArray 80 (0,0)),nodeA g h false (.slice none 0 0) (.slice pk n ck) (.slice pc (n + 1) cc),ownS 3 1 pc (n + 1) cc (intsV (x0 :: xs)),blk gv (.cells (byteV k).toArray 67 (0,0)),ownS 67 32 pk n ck (keyV ks)]) := H.pull 11 rfl;replace H : St O R0 w W ((s1.L ++ [errA,splitA gs k h2,blk gp (.cells (byteV p.b).toArray 80 (0,0)),nodeA g h false (.slice none 0 0) (.slice pk n ck) (.slice pc (n + 1) cc),ownS 3 1 pc (n + 1) cc (intsV (x0 :: xs))]) ++ [ownS 67 32 pk n ck (keyV ks),blk gv (.cells (byteV k).toArray 67 (0,0))]) := H.pull 12 rfl;go_simp;go_at_call 154;(refine (insertK H.lastB _ j rfl HJ.out H1.out (by have := H6.out;omega) HKB.out (byteV_one _) (keyV_one _)).mono ?_);rintro e W ⟨gk2,ck2,rfl,hto⟩;replace H := BunTo.last hto H;clear hto;(try go_wp2_with fail);have hH3 := (show (fun w' => w'.cell? ⟨g,3,none⟩ = some (.slice pk n ck) ∧ w'.cell? ⟨g,4,none⟩ = some (.slice pc (n + 1) cc) ∧ (∀ j u,(byteV k)[j]? = some u → w'.cell? ((⟨gs,0,none⟩ : Addr).add j) = some u) ∧ w'.cell? ⟨gs,32,none⟩ = some (.int .i64 (h2 : Int))) W from ⟨row_cell (H.at 10 rfl) (nRow3 _ _ _ _ _),row_cell (H.at 10 rfl) (nRow4 _ _ _ _ _),(split_cells (H.at 8 rfl) HPT.out.k32).1,(split_cells (H.at 8 rfl) HPT.out.k32).2⟩);refine hK.out _ _ (Or.inr hH3) ?_;clear hK K hH2);(try simp only [Act.put,rp1,rp2,rp3,rp4,rp5,rp6])
     (refine wpAnyT_one (i := 23) (by kernel_rfl) rfl (fun K hK => ?_));(rw [if_pos (by rfl)]);(refine wp_buildslice_st H 72 3 _ _ rfl Tryz.underlying72 _ size_int _ zero_i64 (by decide) (by decide) [(0,.int .i64 (h2 : Int))] (by simp [Act.eval]) _ (fill_int _) ?_;intro W gv2 H;have hH4 := (show (fun w' => w'.cell? ⟨g,3,none⟩ = some (.slice pk n ck) ∧ w'.cell? ⟨g,4,none⟩ = some (.slice pc (n + 1) cc) ∧ (∀ j u,(byteV k)[j]? = some u → w'.cell? ((⟨gs,0,none⟩ : Addr).add j) = some u) ∧ w'.cell? ⟨gs,32,none⟩ = some (.int .i64 (h2 : Int))) W from ⟨row_cell (H.at 10 rfl) (nRow3 _ _ _ _ _),row_cell (H.at 10 rfl) (nRow4 _ _ _ _ _),(split_cells (H.at 8 rfl) HPT.out.k32).1,(split_cells (H.at 8 rfl) HPT.out.k32).2⟩);refine hK.out _ _ (Or.inr hH4) ?_;clear hK K hH3);(try simp only [Act.put,rp1,rp2,rp3,rp4,rp5,rp6])
     (refine wpAnyT_one (i := 24) (by kernel_rfl) rfl (fun K hK => ?_));(rw [if_pos (by rfl)]);(replace H : St O R0 w W (s1.L ++ [errA,splitA gs k h2,blk gp (.cells (byteV p.b).toArray 80 (0,0)),nodeA g h false (.slice none 0 0) (.slice pk n ck) (.slice pc (n + 1) cc),ownS 67 32 (some ⟨gk2,0,none⟩) (n + 1) ck2 ((keyV ks).take (j * 32) ++ (byteV k ++ (keyV ks).drop (j * 32))),blk gv (.cells (byteV k).toArray 67 (0,0)),blk gv2 (.cells [Value.int .i64 (h2 : Int)].toArray 3 (0,0)),ownS 3 1 pc (n + 1) cc (intsV (x0 :: xs))]) := H.pull 11 rfl;replace H : St O R0 w W ((s1.L ++ [errA,splitA gs k h2,blk gp (.cells (byteV p.b).toArray 80 (0,0)),nodeA g h false (.slice none 0 0) (.slice pk n ck) (.slice pc (n + 1) cc),ownS 67 32 (some ⟨gk2,0,none⟩) (n + 1) ck2 ((keyV ks).take (j * 32) ++ (byteV k ++ (keyV ks).drop (j * 32))),blk gv (.cells (byteV k).toArray 67 (0,0))]) ++ [ownS 3 1 pc (n + 1) cc (intsV (x0 :: xs)),blk gv2 (.cells [Value.int .i64 (h2 : Int)].toArray 3 (0,0))]) := H.pull 13 rfl;rw [show IntKind.i64.wrap ((j : Int) + 1) = ((j + 1 : Nat) : Int) by rw [IntKind.wrap_i64];omega];go_simp;go_at_call 155;(refine (insertI H.lastB _ (j + 1) (by omega) (by have := HJ.out;omega) (by omega) (by have := H6.out;omega) rfl (by simp [Value.oneCell']) (intsV_one _)).mono ?_);rintro e W ⟨gi2,ci2,rfl,hto⟩;replace H := BunTo.last hto H;clear hto;(try go_wp2_with fail);refine hK.out _ _ (Or.inl ⟨24,by simp,by kernel_rfl⟩) ?_;clear hK K hH4);(try simp only [Act.put,rp1,rp2,rp3,rp4,rp5,rp6])
     replace H : St O R0 w W (s1.L ++ [errA,splitA gs k h2,blk gp (.cells (byteV p.b).toArray 80 (0,0)),nodeA g h false (.slice none 0 0) (.slice pk n ck) (.slice pc (n + 1) cc),ownS 67 32 (some ⟨gk2,0,none⟩) (n + 1) ck2 ((keyV ks).take (j * 32) ++ (byteV k ++ (keyV ks).drop (j * 32))),blk gv (.cells (byteV k).toArray 67 (0,0)),ownS 3 1 (some ⟨gi2,0,none⟩) (n + 1 + 1) ci2 ((intsV (x0 :: xs)).take (j + 1) ++ ([Value.int .i64 (h2 : Int)] ++ (intsV (x0 :: xs)).drop (j + 1))),blk gv2 (.cells [Value.int .i64 (h2 : Int)].toArray 3 (0,0))]) := H;exact tail W gk2 ck2 gi2 ci2 gv gv2 H
    ·(rw [if_pos (by rfl)]);(refine wp_buildslice_st H 72 3 _ _ rfl Tryz.underlying72 _ size_int _ zero_i64 (by decide) (by decide) [(0,.int .i64 (h2 : Int))] (by simp [Act.eval]) _ (fill_int _) ?_;intro W gv2 H;have hH3 := (show (fun w' => w'.cell? ⟨g,3,none⟩ = some (.slice pk n ck) ∧ w'.cell? ⟨g,4,none⟩ = some (.slice pc (n + 1) cc) ∧ (∀ j u,(byteV k)[j]? = some u → w'.cell? ((⟨gs,0,none⟩ : Addr).add j) = some u) ∧ w'.cell? ⟨gs,32,none⟩ = some (.int .i64 (h2 : Int))) W from ⟨row_cell (H.at 10 rfl) (nRow3 _ _ _ _ _),row_cell (H.at 10 rfl) (nRow4 _ _ _ _ _),(split_cells (H.at 8 rfl) HPT.out.k32).1,(split_cells (H.at 8 rfl) HPT.out.k32).2⟩);refine hK.out _ _ (Or.inr hH3) ?_;clear hK K hH2);(try simp only [Act.put,rp1,rp2,rp3,rp4,rp5,rp6])
     (refine wpAnyT_one (i := 12) (by kernel_rfl) rfl (fun K hK => ?_));(rw [if_pos (by rfl)]);(replace H : St O R0 w W (s1.L ++ [errA,splitA gs k h2,blk gp (.cells (byteV p.b).toArray 80 (0,0)),nodeA g h false (.slice none 0 0) (.slice pk n ck) (.slice pc (n + 1) cc),ownS 3 1 pc (n + 1) cc (intsV (x0 :: xs)),blk gv (.cells (byteV k).toArray 67 (0,0)),blk gv2 (.cells [Value.int .i64 (h2 : Int)].toArray 3 (0,0)),ownS 67 32 pk n ck (keyV ks)]) := H.pull 11 rfl;replace H : St O R0 w W ((s1.L ++ [errA,splitA gs k h2,blk gp (.cells (byteV p.b).toArray 80 (0,0)),nodeA g h false (.slice none 0 0) (.slice pk n ck) (.slice pc (n + 1) cc),ownS 3 1 pc (n + 1) cc (intsV (x0 :: xs)),blk gv2 (.cells [Value.int .i64 (h2 : Int)].toArray 3 (0,0))]) ++ [ownS 67 32 pk n ck (keyV ks),blk gv (.cells (byteV k).toArray 67 (0,0))]) := H.pull 12 rfl;go_simp;go_at_call 154;(refine (insertK H.lastB _ j rfl HJ.out H1.out (by have := H6.out;omega) HKB.out (byteV_one _) (keyV_one _)).mono ?_);rintro e W ⟨gk2,ck2,rfl,hto⟩;replace H := BunTo.last hto H;clear hto;(try go_wp2_with fail);have hH4 := (show (fun w' => w'.cell? ⟨g,3,none⟩ = some (.slice pk n ck) ∧ w'.cell? ⟨g,4,none⟩ = some (.slice pc (n + 1) cc) ∧ (∀ j u,(byteV k)[j]? = some u → w'.cell? ((⟨gs,0,none⟩ : Addr).add j) = some u) ∧ w'.cell? ⟨gs,32,none⟩ = some (.int .i64 (h2 : Int))) W from ⟨row_cell (H.at 10 rfl) (nRow3 _ _ _ _ _),row_cell (H.at 10 rfl) (nRow4 _ _ _ _ _),(split_cells (H.at 8 rfl) HPT.out.k32).1,(split_cells (H.at 8 rfl) HPT.out.k32).2⟩);refine hK.out _ _ (Or.inr hH4) ?_;clear hK K hH3);(try simp only [Act.put,rp1,rp2,rp3,rp4,rp5,rp6])
     (refine wpAnyT_one (i := 24) (by kernel_rfl) rfl (fun K hK => ?_));(rw [if_pos (by rfl)]);(replace H : St O R0 w W (s1.L ++ [errA,splitA gs k h2,blk gp (.cells (byteV p.b).toArray 80 (0,0)),nodeA g h false (.slice none 0 0) (.slice pk n ck) (.slice pc (n + 1) cc),blk gv2 (.cells [Value.int .i64 (h2 : Int)].toArray 3 (0,0)),ownS 67 32 (some ⟨gk2,0,none⟩) (n + 1) ck2 ((keyV ks).take (j * 32) ++ (byteV k ++ (keyV ks).drop (j * 32))),blk gv (.cells (byteV k).toArray 67 (0,0)),ownS 3 1 pc (n + 1) cc (intsV (x0 :: xs))]) := H.pull 11 rfl;replace H : St O R0 w W ((s1.L ++ [errA,splitA gs k h2,blk gp (.cells (byteV p.b).toArray 80 (0,0)),nodeA g h false (.slice none 0 0) (.slice pk n ck) (.slice pc (n + 1) cc),ownS 67 32 (some ⟨gk2,0,none⟩) (n + 1) ck2 ((keyV ks).take (j * 32) ++ (byteV k ++ (keyV ks).drop (j * 32))),blk gv (.cells (byteV k).toArray 67 (0,0))]) ++ [ownS 3 1 pc (n + 1) cc (intsV (x0 :: xs)),blk gv2 (.cells [Value.int .i64 (h2 : Int)].toArray 3 (0,0))]) := H.pull 11 rfl;rw [show IntKind.i64.wrap ((j : Int) + 1) = ((j + 1 : Nat) : Int) by rw [IntKind.wrap_i64];omega];go_simp;go_at_call 155;(refine (insertI H.lastB _ (j + 1) (by omega) (by have := HJ.out;omega) (by omega) (by have := H6.out;omega) rfl (by simp [Value.oneCell']) (intsV_one _)).mono ?_);rintro e W ⟨gi2,ci2,rfl,hto⟩;replace H := BunTo.last hto H;clear hto;(try go_wp2_with fail);refine hK.out _ _ (Or.inl ⟨24,by simp,by kernel_rfl⟩) ?_;clear hK K hH4);(try simp only [Act.put,rp1,rp2,rp3,rp4,rp5,rp6])
     replace H : St O R0 w W (s1.L ++ [errA,splitA gs k h2,blk gp (.cells (byteV p.b).toArray 80 (0,0)),nodeA g h false (.slice none 0 0) (.slice pk n ck) (.slice pc (n + 1) cc),ownS 67 32 (some ⟨gk2,0,none⟩) (n + 1) ck2 ((keyV ks).take (j * 32) ++ (byteV k ++ (keyV ks).drop (j * 32))),blk gv (.cells (byteV k).toArray 67 (0,0)),ownS 3 1 (some ⟨gi2,0,none⟩) (n + 1 + 1) ci2 ((intsV (x0 :: xs)).take (j + 1) ++ ([Value.int .i64 (h2 : Int)] ++ (intsV (x0 :: xs)).drop (j + 1))),blk gv2 (.cells [Value.int .i64 (h2 : Int)].toArray 3 (0,0))]) := H;exact tail W gk2 ck2 gi2 ci2 gv gv2 H
   ·(rw [if_pos (by rfl)]);(refine wp_buildslice_st H 72 3 _ _ rfl Tryz.underlying72 _ size_int _ zero_i64 (by decide) (by decide) [(0,.int .i64 (h2 : Int))] (by simp [Act.eval]) _ (fill_int _) ?_;intro W gv2 H;have hH2 := (show (fun w' => w'.cell? ⟨g,3,none⟩ = some (.slice pk n ck) ∧ w'.cell? ⟨g,4,none⟩ = some (.slice pc (n + 1) cc) ∧ (∀ j u,(byteV k)[j]? = some u → w'.cell? ((⟨gs,0,none⟩ : Addr).add j) = some u) ∧ w'.cell? ⟨gs,32,none⟩ = some (.int .i64 (h2 : Int))) W from ⟨row_cell (H.at 10 rfl) (nRow3 _ _ _ _ _),row_cell (H.at 10 rfl) (nRow4 _ _ _ _ _),(split_cells (H.at 8 rfl) HPT.out.k32).1,(split_cells (H.at 8 rfl) HPT.out.k32).2⟩);refine hK.out _ _ (Or.inr hH2) ?_;clear hK K );(try simp only [Act.put,rp1,rp2,rp3,rp4,rp5,rp6])
    (refine wpAnyT_one (i := 11) (by kernel_rfl) rfl (fun K hK => ?_));(rw [if_pos (by rfl)]);(refine wp_buildslice_st H 147 67 _ _ rfl Tryz.underlying147 32 sizeK _ zeroK (by decide) (by decide) [(0,.agg (byteV k).toArray)] (by simp [Act.eval]) _ (fill_one 32 (byteV k) _ (by simp) HKB.out) ?_;intro W gv H;have hH3 := (show (fun w' => w'.cell? ⟨g,3,none⟩ = some (.slice pk n ck) ∧ w'.cell? ⟨g,4,none⟩ = some (.slice pc (n + 1) cc) ∧ (∀ j u,(byteV k)[j]? = some u → w'.cell? ((⟨gs,0,none⟩ : Addr).add j) = some u) ∧ w'.cell? ⟨gs,32,none⟩ = some (.int .i64 (h2 : Int))) W from ⟨row_cell (H.at 10 rfl) (nRow3 _ _ _ _ _),row_cell (H.at 10 rfl) (nRow4 _ _ _ _ _),(split_cells (H.at 8 rfl) HPT.out.k32).1,(split_cells (H.at 8 rfl) HPT.out.k32).2⟩);refine hK.out _ _ (Or.inr hH3) ?_;clear hK K hH2);(try simp only [Act.put,rp1,rp2,rp3,rp4,rp5,rp6])
    (refine wpAnyT_one (i := 12) (by kernel_rfl) rfl (fun K hK => ?_));(rw [if_pos (by rfl)]);(replace H : St O R0 w W (s1.L ++ [errA,splitA gs k h2,blk gp (.cells (byteV p.b).toArray 80 (0,0)),nodeA g h false (.slice none 0 0) (.slice pk n ck) (.slice pc (n + 1) cc),ownS 3 1 pc (n + 1) cc (intsV (x0 :: xs)),blk gv2 (.cells [Value.int .i64 (h2 : Int)].toArray 3 (0,0)),blk gv (.cells (byteV k).toArray 67 (0,0)),ownS 67 32 pk n ck (keyV ks)]) := H.pull 11 rfl;replace H : St O R0 w W ((s1.L ++ [errA,splitA gs k h2,blk gp (.cells (byteV p.b).toArray 80 (0,0)),nodeA g h false (.slice none 0 0) (.slice pk n ck) (.slice pc (n + 1) cc),ownS 3 1 pc (n + 1) cc (intsV (x0 :: xs)),blk gv2 (.cells [Value.int .i64 (h2 : Int)].toArray 3 (0,0))]) ++ [ownS 67 32 pk n ck (keyV ks),blk gv (.cells (byteV k).toArray 67 (0,0))]) := H.pull 13 rfl;go_simp;go_at_call 154;(refine (insertK H.lastB _ j rfl HJ.out H1.out (by have := H6.out;omega) HKB.out (byteV_one _) (keyV_one _)).mono ?_);rintro e W ⟨gk2,ck2,rfl,hto⟩;replace H := BunTo.last hto H;clear hto;(try go_wp2_with fail);have hH4 := (show (fun w' => w'.cell? ⟨g,3,none⟩ = some (.slice pk n ck) ∧ w'.cell? ⟨g,4,none⟩ = some (.slice pc (n + 1) cc) ∧ (∀ j u,(byteV k)[j]? = some u → w'.cell? ((⟨gs,0,none⟩ : Addr).add j) = some u) ∧ w'.cell? ⟨gs,32,none⟩ = some (.int .i64 (h2 : Int))) W from ⟨row_cell (H.at 10 rfl) (nRow3 _ _ _ _ _),row_cell (H.at 10 rfl) (nRow4 _ _ _ _ _),(split_cells (H.at 8 rfl) HPT.out.k32).1,(split_cells (H.at 8 rfl) HPT.out.k32).2⟩);refine hK.out _ _ (Or.inr hH4) ?_;clear hK K hH3);(try simp only [Act.put,rp1,rp2,rp3,rp4,rp5,rp6])
    (refine wpAnyT_one (i := 24) (by kernel_rfl) rfl (fun K hK => ?_));(rw [if_pos (by rfl)]);(replace H : St O R0 w W (s1.L ++ [errA,splitA gs k h2,blk gp (.cells (byteV p.b).toArray 80 (0,0)),nodeA g h false (.slice none 0 0) (.slice pk n ck) (.slice pc (n + 1) cc),blk gv2 (.cells [Value.int .i64 (h2 : Int)].toArray 3 (0,0)),ownS 67 32 (some ⟨gk2,0,none⟩) (n + 1) ck2 ((keyV ks).take (j * 32) ++ (byteV k ++ (keyV ks).drop (j * 32))),blk gv (.cells (byteV k).toArray 67 (0,0)),ownS 3 1 pc (n + 1) cc (intsV (x0 :: xs))]) := H.pull 11 rfl;replace H : St O R0 w W ((s1.L ++ [errA,splitA gs k h2,blk gp (.cells (byteV p.b).toArray 80 (0,0)),nodeA g h false (.slice none 0 0) (.slice pk n ck) (.slice pc (n + 1) cc),ownS 67 32 (some ⟨gk2,0,none⟩) (n + 1) ck2 ((keyV ks).take (j * 32) ++ (byteV k ++ (keyV ks).drop (j * 32))),blk gv (.cells (byteV k).toArray 67 (0,0))]) ++ [ownS 3 1 pc (n + 1) cc (intsV (x0 :: xs)),blk gv2 (.cells [Value.int .i64 (h2 : Int)].toArray 3 (0,0))]) := H.pull 11 rfl;rw [show IntKind.i64.wrap ((j : Int) + 1) = ((j + 1 : Nat) : Int) by rw [IntKind.wrap_i64];omega];go_simp;go_at_call 155;(refine (insertI H.lastB _ (j + 1) (by omega) (by have := HJ.out;omega) (by omega) (by have := H6.out;omega) rfl (by simp [Value.oneCell']) (intsV_one _)).mono ?_);rintro e W ⟨gi2,ci2,rfl,hto⟩;replace H := BunTo.last hto H;clear hto;(try go_wp2_with fail);refine hK.out _ _ (Or.inl ⟨24,by simp,by kernel_rfl⟩) ?_;clear hK K hH4);(try simp only [Act.put,rp1,rp2,rp3,rp4,rp5,rp6])
    replace H : St O R0 w W (s1.L ++ [errA,splitA gs k h2,blk gp (.cells (byteV p.b).toArray 80 (0,0)),nodeA g h false (.slice none 0 0) (.slice pk n ck) (.slice pc (n + 1) cc),ownS 67 32 (some ⟨gk2,0,none⟩) (n + 1) ck2 ((keyV ks).take (j * 32) ++ (byteV k ++ (keyV ks).drop (j * 32))),blk gv (.cells (byteV k).toArray 67 (0,0)),ownS 3 1 (some ⟨gi2,0,none⟩) (n + 1 + 1) ci2 ((intsV (x0 :: xs)).take (j + 1) ++ ([Value.int .i64 (h2 : Int)] ++ (intsV (x0 :: xs)).drop (j + 1))),blk gv2 (.cells [Value.int .i64 (h2 : Int)].toArray 3 (0,0))]) := H;exact tail W gk2 ck2 gi2 ci2 gv gv2 H
  clear H hHeld
  intro W gk2 ck2 gi2 ci2 gv gv2 H
  (refine wpAnyT_pure (i := 25) (v := ?_) rfl (by kernel_rfl) (by kernel_rfl) (by kernel_rfl) (by kernel_rfl) (fun _ _ _ h => h) (Or.inl ⟨by rfl,?_⟩) (Or.inl ⟨24,by simp,by kernel_rfl⟩) ?_;rotate_left;focus (intro w hSw;clear hSw;go_simp;all_goals (with_reducible rfl)));(try simp only [Act.put,rp1,rp2,rp3,rp4,rp5,rp6])
  (refine wpAnyT_pure (i := 26) (v := ?_) rfl (by kernel_rfl) (by kernel_rfl) (by kernel_rfl) (by kernel_rfl) (fun _ _ _ h => h) (Or.inl ⟨by rfl,?_⟩) (Or.inl ⟨24,by simp,by kernel_rfl⟩) ?_;rotate_left;focus (intro w hSw;clear hSw;go_simp;all_goals (with_reducible rfl)));(try simp only [Act.put,rp1,rp2,rp3,rp4,rp5,rp6])
  (refine wpAnyT_one (i := 27) (by kernel_rfl) rfl (fun K hK => ?_));(rw [if_pos (by rfl)]);(refine wp_store1_st H 10 147 _ _ rfl g 3 (.slice (some ⟨gk2,0,none⟩) (n + 1) ck2) (by rfl) (by rfl) rfl _ _ rfl size_slK (by simp [nRow]) ?_;clear H;intro W H;refine hK.out _ _ (Or.inl ⟨24,by simp,by kernel_rfl⟩) ?_;clear hK K);(try simp only [Act.put,rp1,rp2,rp3,rp4,rp5,rp6])
  (refine wpAnyT_pure (i := 28) (v := ?_) rfl (by kernel_rfl) (by kernel_rfl) (by kernel_rfl) (by kernel_rfl) (fun _ _ _ h => h) (Or.inl ⟨by rfl,?_⟩) (Or.inl ⟨24,by simp,by kernel_rfl⟩) ?_;rotate_left;focus (intro w hSw;clear hSw;go_simp;all_goals (with_reducible rfl)));(try simp only [Act.put,rp1,rp2,rp3,rp4,rp5,rp6])
  (refine wpAnyT_pure (i := 29) (v := ?_) rfl (by kernel_rfl) (by kernel_rfl) (by kernel_rfl) (by kernel_rfl) (fun _ _ _ h => h) (Or.inl ⟨by rfl,?_⟩) (Or.inl ⟨24,by simp,by kernel_rfl⟩) ?_;rotate_left;focus (intro w hSw;clear hSw;go_simp;all_goals (with_reducible rfl)));(try simp only [Act.put,rp1,rp2,rp3,rp4,rp5,rp6])
  (refine wpAnyT_one (i := 30) (by kernel_rfl) rfl (fun K hK => ?_));(rw [if_pos (by rfl)]);(refine wp_store1_st H 10 72 _ _ rfl g 4 (.slice (some ⟨gi2,0,none⟩) (n + 1 + 1) ci2) (by rfl) (by rfl) rfl _ _ rfl size_slI (by simp [nRow]) ?_;clear H;intro W H;refine hK.out _ _ (Or.inl ⟨24,by simp,by kernel_rfl⟩) ?_;clear hK K);(try simp only [Act.put,rp1,rp2,rp3,rp4,rp5,rp6])
  (refine wpAnyT_done (by kernel_rfl) ?_ _)
  rw [(keyV_take HI.out.k32 j (by rw [HKS.out];exact HJ.out)).1,(keyV_take HI.out.k32 j (by rw [HKS.out];exact HJ.out)).2,(intsV_take (x0 :: xs) (j + 1)).1,(intsV_take (x0 :: xs) (j + 1)).2] at H
  obtain ⟨ks',hks'⟩ : ∃ l,ks.take j ++ k :: ks.drop j = l := ⟨_,rfl⟩
  obtain ⟨y0,ys,hys⟩ : ∃ y0 ys,(cs.take j ++ c1 :: c2 :: cs.drop (j + 1)).map Sub.h = y0 :: ys := by
   cases h : (cs.take j ++ c1 :: c2 :: cs.drop (j + 1)).map Sub.h with
   | nil => have := congrArg List.length h;simp at this
   | cons a l => exact ⟨a,l,rfl⟩
  have hkr : keyV (ks.take j) ++ (byteV k ++ keyV (ks.drop j)) = keyV ks' := by rw [← hks'];simp [keyV]
  have hir : intsV ((x0 :: xs).take (j + 1)) ++ ([Value.int .i64 (h2 : Int)] ++ intsV ((x0 :: xs).drop (j + 1))) = intsV (y0 :: ys) := by
   have e1 : c1.h = ch.h := HA.out.1.2.2.2.2.1
   have e2 : c2.h = h2 := HA.out.1.2.2.2.2.2.1
   have e3 : cs.take (j + 1) = cs.take j ++ [ch] := by rw [List.take_add_one,HCH.out];rfl
   rw [← hys,← HX.out,← List.map_take,← List.map_drop,e3]
   simp [intsV,e1,e2]
  rw [hkr,hir] at H
  clear hkr hir
  have HKL := Lib.hid (show ks'.length = n + 1 by
   rw [← hks'];simp only [List.length_append,List.length_cons,List.length_take,List.length_drop,HKS.out];have := HJ.out;omega)
  have HK32 := Lib.hid (show ∀ z ∈ ks',z.length = 32 by
   intro z hz
   rw [← hks'] at hz
   simp only [List.mem_append,List.mem_cons] at hz
   rcases hz with hz | rfl | hz
   ·exact HI.out.k32 z (List.mem_of_mem_take hz)
   ·exact HPT.out.k32
   ·exact HI.out.k32 z (List.mem_of_mem_drop hz))
  have HYL := Lib.hid (show ys.length = n + 1 by
   have := congrArg List.length hys
   simp only [List.length_map,List.length_append,List.length_cons,List.length_take,List.length_drop,HCS.out] at this;have := HJ.out;omega)
  have HYC := Lib.hid (show ∀ z ∈ y0 :: ys,z < 4294967296 by
   intro z hz
   rw [← hys] at hz
   obtain ⟨q,hq,rfl⟩ := List.mem_map.1 hz
   have hlt : q.h < s1.n := by
    obtain ⟨g1,g2,g3,g4,hm,hln,hh⟩ := part_moves HR.out HA.out.1 HA.out.2.1 HA.out.2.2.2
    have := (g1.kids q hq).2.mem
    exact (hh.taken q.h (List.mem_cons_of_mem _ (List.mem_flatMap.2 ⟨q,hq,this⟩))).2.1
   rw [HA.out.2.1.n] at hlt
   have := HSN.out;omega)
  have HO1 := Lib.hid HA.out.2.1.ok
  have HN1 := Lib.hid (show h < s1.n by rw [HA.out.2.1.n];exact HH.out.2.1)
  have HKS' := Lib.hid hks'
  have HYS := Lib.hid hys
  clear hks' hys
  replace H : St O R0 w W (s1.L ++ [errA,nodeA g h false (.slice none 0 0) (.slice (some ⟨gk2,0,none⟩) (n + 1) ck2) (.slice (some ⟨gi2,0,none⟩) (n + 1 + 1) ci2),ownS 67 32 (some ⟨gk2,0,none⟩) (n + 1) ck2 (keyV ks'),ownS 3 1 (some ⟨gi2,0,none⟩) (n + 1 + 1) ci2 (intsV (y0 :: ys)),blk gv2 (.cells [Value.int .i64 (h2 : Int)].toArray 3 (0,0)),splitA gs k h2,blk gp (.cells (byteV p.b).toArray 80 (0,0)),blk gv (.cells (byteV k).toArray 67 (0,0))]) := ((H.pull 8 rfl).pull 8 rfl).pull 10 rfl
  replace H := H.take 11
  rcases (show n + 1 ≤ 6 ∨ n = 6 by have := H6.out;omega) with h5 | h5
  ·have H5 := Lib.hid h5
   clear h5
   go_wp2_with (first
    | (go_at_call 152;go_loud ((refine (halves_inner1 (s := s1) H.bundle HO1.out HN1.out HKL.out HYL.out H5.out HK32.out (HYC.out y0 (by simp)) (fun z hz => HYC.out z (by simp [hz]))).mono ?_);rintro e W ⟨rfl,s',hs',hto⟩;have HS' := Lib.hid hs';clear hs';replace H := BunTo.front (R := []) hto (by rw [List.append_nil];exact H);rw [List.append_nil] at H;clear hto)))
   rw [← HPP.out]
   exact putPost_inner2 HR.out HA.out.1 HA.out.2.1 HA.out.2.2.1 HA.out.2.2.2 (by rw [HSZ.out];exact H5.out) (by rw [HKS'.out,HYS.out];exact HS'.out) rfl H.bunTo
  ·subst h5
   rcases (show leftOf (s1.v 1) s1.n = 0 ∨ 0 < leftOf (s1.v 1) s1.n by omega) with h8 | h8
   ·have HL0 := Lib.hid h8
    clear h8
    go_wp2_with (first
     | (go_at_call 152;go_loud ((refine (halves_inner0 (s := s1) (H.take 9).bundle HO1.out (none_left HL0.out)).mono ?_);rintro e W ⟨ge,rfl,hge,hto⟩;have HGE := Lib.hid hge;clear hge;replace H := BunTo.front (R := [_,_]) hto H;clear hto;unfold faultVR)))
    rw [← HPP.out]
    exact putPost_full (inner := .nilIface) rfl HGE.out (inner3_full HA.out.2.1 HA.out.2.2.2 HL0.out) HO1.out HA.out.2.1.t HA.out.2.1.g HA.out.2.1.gl (St.bunTo (H.take 8))
   ·obtain ⟨i,hi2,hin,hif,hit⟩ := lowest h8
    have HLW := Lib.hid (And.intro hi2 (And.intro hin (And.intro hif hit)))
    clear hi2 hin hif hit h8
    obtain ⟨x,q,y,hlx,hx,hy⟩ : ∃ x q y,ks' = x ++ q :: y ∧ x.length = 3 ∧ y.length = 3 := by
     have h2 := HKL.out
     refine ⟨ks'.take 3,ks'[3]'(by omega),ks'.drop 4,?_,by rw [List.length_take];omega,by rw [List.length_drop];omega⟩
     rw [← List.drop_eq_getElem_cons,List.take_append_drop]
    subst hlx
    obtain ⟨X,Y,hXY,hXl,hYl⟩ : ∃ X Y : List Sub,cs.take j ++ c1 :: c2 :: cs.drop (j + 1) = X ++ Y ∧ X.length = 4 ∧ Y.length = 4 := by
     obtain ⟨l,hl⟩ : ∃ l,cs.take j ++ c1 :: c2 :: cs.drop (j + 1) = l := ⟨_,rfl⟩
     have h2 : l.length = 8 := by
      have := congrArg List.length HYS.out
      rw [hl] at this
      simp only [List.length_map,List.length_cons,HYL.out] at this;omega
     rw [hl]
     exact ⟨l.take 4,l.drop 4,(List.take_append_drop _ _).symm,by rw [List.length_take];omega,by rw [List.length_drop];omega⟩
    obtain ⟨u0,us,hus⟩ : ∃ u0 us,X.map Sub.h = u0 :: us := by
     match X,hXl with
     | c :: cs,_ => exact ⟨c.h,cs.map Sub.h,rfl⟩
    obtain ⟨v0,vs,hvs⟩ : ∃ v0 vs,Y.map Sub.h = v0 :: vs := by
     match Y,hYl with
     | c :: cs,_ => exact ⟨c.h,cs.map Sub.h,rfl⟩
    have hyu : y0 :: ys = (u0 :: us) ++ (v0 :: vs) := by rw [← HYS.out,hXY,List.map_append,hus,hvs]
    rw [hyu] at H HYC
    have HXY := Lib.hid (And.intro hx (And.intro hy (And.intro hXY (And.intro hXl (And.intro hus hvs)))))
    have HU3 := Lib.hid (show us.length = 3 by have := congrArg List.length hus;simp only [List.length_map,List.length_cons] at this;omega)
    have HV3 := Lib.hid (show vs.length = 3 by have := congrArg List.length hvs;simp only [List.length_map,List.length_cons] at this;omega)
    clear hx hy hXY hXl hYl hus hvs hyu
    go_wp2_with (first
     | (go_at_call 152;go_loud ((refine (halves_inner2 (s := s1) H.bundle HO1.out HN1.out HXY.out.1 HXY.out.2.1 HU3.out HV3.out HK32.out HYC.out HLW.out.1 HLW.out.2.1 HLW.out.2.2.1 HLW.out.2.2.2).mono ?_);rintro e W ⟨gs2,rfl,s',hs',hto⟩;have HS' := Lib.hid hs';clear hs';replace H := BunTo.front (R := []) hto (by rw [List.append_nil];exact H);rw [List.append_nil] at H;clear hto)))
    rw [← HPP.out]
    exact putPost_inner3 HR.out HA.out.1 HA.out.2.1 HA.out.2.2.1 HA.out.2.2.2 HKS'.out HXY.out.2.2.1 HXY.out.1 HXY.out.2.1 HXY.out.2.2.2.1 HLW.out.1 HLW.out.2.1 HLW.out.2.2.1 (by rw [HXY.out.2.2.2.2.1,HXY.out.2.2.2.2.2];exact HS'.out) rfl H.bunTo
 ·have HA := Lib.hid (And.intro hge (And.intro hlo (And.intro hok (And.intro ht1 (And.intro hg1 hgl1)))))
  clear hge hlo hok ht1 hg1 hgl1 hHeld hcell
  replace H := BunTo.front (R := [blk gp (.cells (byteV p.b).toArray 80 (0,0)),nodeA g h false (.slice none 0 0) (.slice pk n ck) (.slice (some ⟨gq,oq,none⟩) (n + 1) cc),ownS 67 32 pk n ck (keyV ks),ownS 3 1 (some ⟨gq,oq,none⟩) (n + 1) cc (intsV (x0 :: xs))]) hto H
  clear hto
  unfold faultVR
  (try go_wp2_with fail)
  refine hK.out _ _ (Or.inl ⟨11,by simp,by kernel_rfl⟩) ?_;clear hK K
  (try simp only [Act.put,rp1,rp2,rp3,rp4,rp5,rp6])
  (refine wpAnyT_pure (i := 12) (v := ?_) rfl (by kernel_rfl) (by kernel_rfl) (by kernel_rfl) (by kernel_rfl) (fun _ _ _ h => h) (Or.inl ⟨by rfl,?_⟩) (Or.inl ⟨11,by simp,by kernel_rfl⟩) ?_;rotate_left;focus (intro w hSw;clear hSw;go_simp;all_goals (with_reducible rfl)));(try simp only [Act.put,rp1,rp2,rp3,rp4,rp5,rp6])
  (refine wpAnyT_pure (i := 13) (v := ?_) rfl (by kernel_rfl) (by kernel_rfl) (by kernel_rfl) (by kernel_rfl) (fun _ _ _ h => h) (Or.inl ⟨by rfl,?_⟩) (Or.inl ⟨11,by simp,by kernel_rfl⟩) ?_;rotate_left;focus (intro w hSw;clear hSw;go_simp;all_goals (with_reducible rfl)));(try simp only [Act.put,rp1,rp2,rp3,rp4,rp5,rp6])
  (refine wpAnyT_pure (i := 14) (v := ?_) rfl (by kernel_rfl) (by kernel_rfl) (by kernel_rfl) (by kernel_rfl) (fun _ _ _ h => h) (Or.inl ⟨by rfl,?_⟩) (Or.inl ⟨11,by simp,by kernel_rfl⟩) ?_;rotate_left;focus (intro w hSw;clear hSw;go_simp;all_goals (with_reducible rfl)));(try simp only [Act.put,rp1,rp2,rp3,rp4,rp5,rp6])
  (refine wpAnyT_pure (i := 15) (v := ?_) rfl (by kernel_rfl) (by kernel_rfl) (by kernel_rfl) (by kernel_rfl) (fun _ _ _ h => h) (Or.inl ⟨by rfl,?_⟩) (Or.inl ⟨11,by simp,by kernel_rfl⟩) ?_;rotate_left;focus (intro w hSw;clear hSw;go_simp;all_goals (with_reducible rfl)));(try simp only [Act.put,rp1,rp2,rp3,rp4,rp5,rp6])
  (refine wpAnyT_pure (i := 16) (v := ?_) rfl (by kernel_rfl) (by kernel_rfl) (by kernel_rfl) (by kernel_rfl) (fun _ _ _ h => h) (Or.inl ⟨by rfl,?_⟩) (Or.inl ⟨11,by simp,by kernel_rfl⟩) ?_;rotate_left;focus (intro w hSw;clear hSw;go_simp;all_goals (with_reducible rfl)));(try simp only [Act.put,rp1,rp2,rp3,rp4,rp5,rp6])
  (refine wpAnyT_done (by kernel_rfl) ?_ _)
  go_wp2_with (first
   | (go_at_call 117;go_loud ((refine (below_faultR ge 9 inner _ (H.at 7 rfl) HA.out.1).mono ?_);rintro e W' ⟨ge2,rfl,hge2,hgo2,hbl⟩;have HGO := Lib.hid hgo2;replace H := H.stay (Fix.of_below hbl _);clear hbl hgo2;unfold faultVR)))
  rw [← HPP.out]
  exact putPost_full rfl HGO.out (by have := HA.out.2.1;omega) HA.out.2.2.1 HA.out.2.2.2.1 HA.out.2.2.2.2.1 HA.out.2.2.2.2.2 (St.bunTo (H.take 8))
theorem put_ok : ∀ d,PutOk d
 | 0 => fun _ _ _ _ _ _ _ _ _ hb h0 T h1 hp hd z1 z2 hz1 hz2 => put_leafW hb h0 T h1 hp (by omega) z1 z2 hz1 hz2
 | d + 1 => put_innerW (put_ok d)
end Go.Proofs.YtlgciddnpinpbaaGreatDoor
