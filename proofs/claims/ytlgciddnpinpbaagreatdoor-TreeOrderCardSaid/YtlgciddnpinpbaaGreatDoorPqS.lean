/- Texts of this proof, packed. -/
import Derived.Test.YtlgciddnpinpbaaGreatDoorPkBase4
import Derived.Test.YtlgciddnpinpbaaGreatDoorPqA
import Derived.Test.YtlgciddnpinpbaaGreatDoorPqR
import Derived.Test.YtlgciddnpinpbaaGreatDoorPqB
import Derived.Test.YtlgciddnpinpbaaGreatDoorPqE
import Derived.Test.YtlgciddnpinpbaaGreatDoorPqD
import Derived.Test.YtlgciddnpinpbaaGreatDoorPqF
import Derived.Test.YtlgciddnpinpbaaGreatDoorPqH
import Derived.Test.YtlgciddnpinpbaaGreatDoorPqI
import Derived.Test.YtlgciddnpinpbaaGreatDoorPqK
import Derived.Test.YtlgciddnpinpbaaGreatDoorPqL
import Derived.Test.YtlgciddnpinpbaaGreatDoorPqQ
set_option linter.unusedSimpArgs false
set_option linter.unusedVariables false
namespace Go.Proofs.YtlgciddnpinpbaaGreatDoor
open Go.RowKit
set_option maxRecDepth 40000
theorem way_while {ks : List (List UInt8)} {m : Nat} (hr : (ks.map kn).Pairwise (· < ·)) : Way (ks.takeWhile (fun k => decide (kn k ≤ m))) (ks.dropWhile (fun k => decide (kn k ≤ m))) m := by
 induction ks with
 | nil => exact ⟨fun k hk => by simp at hk,fun k hk => by simp at hk⟩
 | cons k ks ih =>
  rw [List.map_cons,List.pairwise_cons] at hr
  by_cases h : kn k ≤ m
  ·have := ih hr.2
   rw [List.takeWhile_cons_of_pos (by simpa using h),List.dropWhile_cons_of_pos (by simpa using h)]
   refine ⟨fun q hq => ?_,this.gt⟩
   rcases List.mem_cons.1 hq with rfl | hq
   ·exact h
   ·exact this.le q hq
  ·rw [List.takeWhile_cons_of_neg (by simpa using h),List.dropWhile_cons_of_neg (by simpa using h)]
   refine ⟨fun q hq => (by cases hq),fun q hq => ?_⟩
   rcases List.mem_cons.1 hq with rfl | hq
   ·omega
   ·have := hr.1 (kn q) (List.mem_map.2 ⟨q,hq,rfl⟩);omega
set_option maxHeartbeats 16000000 in
theorem walk_innerW {σ : Type} {fn : Nat} {cb : Array Value} {A : σ → Asrt} {st : σ → Nat → List PairT → Nat → σ × Bool → Prop} {V : σ → Prop} (hS : SeeOk fn cb A st V) (eg : ∀ args w,(callFunc fn args).run Tryz.prog w = .ok (.enter fn args) w) {frm : List UInt8} (hV : ∀ x h ps deep x',V x → st x h ps deep (x',true) → V x') (hfrm : frm.length = 32) {d : Nat} (IH : WalkOk fn cb A st V frm d) : WalkOk fn cb A st V frm (d + 1) := by
 intro w s c sz h deep hs ps x hb hVx h0 hl hlt h1 hd z1 z2 hz1 hz2
 subst hz1 hz2
 have H := hb.open_
 obtain ⟨O,hO⟩ : ∃ O,ownL (s.L ++ [A x]) = O := ⟨_,rfl⟩
 obtain ⟨R0,hR0⟩ : ∃ R,rdL (s.L ++ [A x]) = R := ⟨_,rfl⟩
 rw [hO,hR0] at H ⊢
 obtain ⟨ks,cs,hi,hv,hks,hcs,h6,hhs,hps⟩ := hl.inner
 obtain ⟨n,hn⟩ : ∃ n,sz = n := ⟨_,rfl⟩
 rw [hn] at hks hcs h6 h1
 have HO := Lib.hid h0
 have HVX := Lib.hid hVx
 have HIH := Lib.hid IH
 have HS := Lib.hid hS
 have HFR := Lib.hid hfrm
 have hlk : ∀ y ∈ cs.map Sub.h,y < s.n := fun y hy => by
  obtain ⟨ch,hch,rfl⟩ := List.mem_map.1 hy
  exact hlt ch.h (by rw [hhs];exact List.mem_cons_of_mem _ (List.mem_flatMap.2 ⟨ch,hch,(hi.kids ch hch).2.mem⟩))
 obtain ⟨x0,xs,hx⟩ : ∃ x0 xs,cs.map Sub.h = x0 :: xs := by
  match cs,hcs with
  | c :: cs,_ => exact ⟨c.h,cs.map Sub.h,rfl⟩
 have HX := Lib.hid hx
 have HLK := Lib.hid (show ∀ y ∈ x0 :: xs,y < s.n by rw [← hx];exact hlk)
 have HLT := Lib.hid hlt
 have HSN := Lib.hid h0.nn.2
 have HXL := Lib.hid (show xs.length = n by
  have := congrArg List.length hx
  simp only [List.length_map,List.length_cons] at this;omega)
 have HI := Lib.hid hi
 have HV := Lib.hid hv
 have HKS := Lib.hid hks
 have HCS := Lib.hid hcs
 have HHS := Lib.hid hhs
 have HPS := Lib.hid hps
 have H1 := Lib.hid h1
 have H6 := Lib.hid h6
 have HD := Lib.hid hd
 have HHN := Lib.hid (hlt h (by rw [hhs];exact List.mem_cons_self ..))
 have HVV := Lib.hid hV
 have hd2 : ¬ (40 < (deep : Int)) := by omega
 have hd3 : 0 ≤ (deep : Int) := by omega
 have hd4 : (deep : Int) ≤ 40 := by omega
 have hn0 : 0 ≤ (n : Int) := by omega
 have hn6 : (n : Int) ≤ 6 := by omega
 obtain ⟨PP,hPP⟩ : ∃ PP : Ending → World → Prop,(fun e w' => ∃ r,WalkR st (kn frm) s.v (d + 1) deep h hs ps x r ∧ e = .returned (.tuple #[.bool r.2,.nilIface]) ∧ (r.2 = true → V r.1) ∧ BunTo w O R0 (s.L ++ [A r.1]) w') = PP := ⟨_,rfl⟩
 have HPP := Lib.hid hPP
 rw [hPP]
 clear hb h0 hl hlt h1 hd hi hv hks hcs h6 hhs hps hn hlk hx hS IH hO hR0 hPP hfrm hVx hV
 have tok1 : True := trivial
 go_enter Tryz.func118,Tryz.ntmps118
 go_upto_region 6 with (first
  | (have _t := tok1;clear _t;refine wpList_box_st H rfl 67 _ rfl (arrV _) rfl ?_;clear H tok1;intro W gf H;(try simp only [cells_arrV,List.nil_append,List.cons_append,List.set_cons_zero,List.set_cons_succ] at H))
  | (go_at_call 124;go_loud ((refine (load_inner (s := s) (H.take 7).bundle HO.out _ h rfl HHN.out ks x0 xs (by rw [HV.out,HX.out]) (by rw [HXL.out,HKS.out]) (by rw [HKS.out];exact H1.out) (by rw [HKS.out];exact H6.out) HI.out.k32 (by have := HLK.out x0 (by simp);have := HSN.out;omega) (fun y hy => by have := HLK.out y (by simp [hy]);have := HSN.out;omega)).mono ?_);rintro e W ⟨g,pk,ck,pc,cc,rfl,hto⟩;replace H := BunTo.front2 (R := [A x,blk gf (.cells (byteV frm).toArray 67 (0,0))]) hto H;clear hto;rw [HKS.out] at H)))
 replace H : St O R0 w W (s.L ++ [A x,blk gf (.cells (byteV frm).toArray 67 (0,0)),nodeA g h false (.slice none 0 0) (.slice pk n ck) (.slice pc (n + 1) cc),ownS 67 32 pk n ck (keyV ks),ownS 3 1 pc (n + 1) cc (intsV (x0 :: xs)),rdA none (pairV [])]) := H.addRd
 obtain ⟨gq,hpq,hcc⟩ : ∃ gq,pc = some ⟨gq,0,none⟩ ∧ n + 1 ≤ cc := by
  rcases (H.at 11 rfl).2 with ⟨_,h0⟩ | ⟨gq,_,_,e1,_,_,h3,_⟩
  ·omega
  ·cases e1;exact ⟨gq,rfl,h3⟩
 subst hpq
 replace H : St O R0 w W (s.L ++ [blk gf (.cells (byteV frm).toArray 67 (0,0)),nodeA g h false (.slice none 0 0) (.slice pk n ck) (.slice (some ⟨gq,0,none⟩) (n + 1) cc),ownS 67 32 pk n ck (keyV ks),ownS 3 1 (some ⟨gq,0,none⟩) (n + 1) cc (intsV (x0 :: xs)),rdA none (pairV []),A x]) := H.pull 7 rfl
 replace H : St O R0 w W (s.L ++ [blk gf (.cells (byteV frm).toArray 67 (0,0)),ownS 67 32 pk n ck (keyV ks),ownS 3 1 (some ⟨gq,0,none⟩) (n + 1) cc (intsV (x0 :: xs)),rdA none (pairV []),A x,nodeA g h false (.slice none 0 0) (.slice pk n ck) (.slice (some ⟨gq,0,none⟩) (n + 1) cc)]) := H.pull 8 rfl
 replace H : St O R0 w W ((s.L ++ [blk gf (.cells (byteV frm).toArray 67 (0,0)),ownS 67 32 pk n ck (keyV ks),ownS 3 1 (some ⟨gq,0,none⟩) (n + 1) cc (intsV (x0 :: xs))]) ++ [A x,nodeA g h false (.slice none 0 0) (.slice pk n ck) (.slice (some ⟨gq,0,none⟩) (n + 1) cc),rdA none (pairV [])]) := H.pull 10 rfl
 go_upto_region 10 with (first
  | (go_at_fn fn;go_loud ((refine (HS.out x g h false none 0 0 _ _ [] deep _ _ HVX.out H.lastB rfl (by omega) (fun p hp => by cases hp) (by have := HD.out;omega) rfl).mono ?_);rintro e W ⟨⟨x1,b1⟩,hst,rfl,hto⟩;have HST := Lib.hid hst;clear hst;replace H := BunTo.last hto H;clear hto;replace H : St O R0 w W (s.L ++ [ownS 67 32 pk n ck (keyV ks),ownS 3 1 (some ⟨gq,0,none⟩) (n + 1) cc (intsV (x0 :: xs)),A x1,nodeA g h false (.slice none 0 0) (.slice pk n ck) (.slice (some ⟨gq,0,none⟩) (n + 1) cc),rdA none (pairV []),blk gf (.cells (byteV frm).toArray 67 (0,0))]) := H.pull 7 rfl;replace H : St O R0 w W (s.L ++ [ownS 67 32 pk n ck (keyV ks),ownS 3 1 (some ⟨gq,0,none⟩) (n + 1) cc (intsV (x0 :: xs)),A x1,rdA none (pairV []),blk gf (.cells (byteV frm).toArray 67 (0,0)),nodeA g h false (.slice none 0 0) (.slice pk n ck) (.slice (some ⟨gq,0,none⟩) (n + 1) cc)]) := H.pull 10 rfl;replace H : St O R0 w W (s.L ++ [ownS 3 1 (some ⟨gq,0,none⟩) (n + 1) cc (intsV (x0 :: xs)),A x1,rdA none (pairV []),blk gf (.cells (byteV frm).toArray 67 (0,0)),nodeA g h false (.slice none 0 0) (.slice pk n ck) (.slice (some ⟨gq,0,none⟩) (n + 1) cc),ownS 67 32 pk n ck (keyV ks)]) := H.pull 7 rfl;replace H : St O R0 w W (s.L ++ [A x1,rdA none (pairV []),blk gf (.cells (byteV frm).toArray 67 (0,0)),nodeA g h false (.slice none 0 0) (.slice pk n ck) (.slice (some ⟨gq,0,none⟩) (n + 1) cc),ownS 67 32 pk n ck (keyV ks),ownS 3 1 (some ⟨gq,0,none⟩) (n + 1) cc (intsV (x0 :: xs))]) := H.pull 7 rfl;have hf := row_cell (H.at 10 rfl) (nRow1 _ _ _ _ _))))
 ·obtain rfl : b1 = false := by cases b1 with | false => rfl | true => exact absurd ‹(!true) = true› (by simp)
  rw [← HPP.out]
  refine ⟨(x1,false),?_,rfl,fun h => (by cases h),St.bunTo (H.take 8)⟩
  refine ⟨ks.takeWhile (fun k => decide (kn k ≤ kn frm)),ks.dropWhile (fun k => decide (kn k ≤ kn frm)),cs.take (ks.takeWhile (fun k => decide (kn k ≤ kn frm))).length,cs.drop (ks.takeWhile (fun k => decide (kn k ≤ kn frm))).length,?_,?_,?_,?_,?_,.inl ⟨x1,HST.out,rfl⟩⟩
  ·rw [List.takeWhile_append_dropWhile,List.take_append_drop];exact HI.out
  ·rw [List.length_take,Nat.min_eq_left]
   have h5 := congrArg List.length (List.takeWhile_append_dropWhile (p := fun k => decide (kn k ≤ kn frm)) (l := ks))
   rw [List.length_append,HKS.out] at h5
   rw [HCS.out];omega
  ·exact way_while HI.out.rise
  ·rw [List.take_append_drop];exact HHS.out
  ·rw [List.take_append_drop];exact HPS.out
 ·obtain rfl : b1 = true := by cases b1 with | true => rfl | false => exact absurd ‹(!false) = false› (by simp)
  try clear hf
  try clear hb1
  have HV1 := Lib.hid (HVV.out _ _ _ _ _ HVX.out HST.out)
  have hcc1 : (n : Int) + 1 ≤ (cc : Int) := by omega
  have HCC := Lib.hid hcc
  clear hcc
  replace H := H.drew
  refine wp_region_T (fun w' => w'.cell? ⟨g,4,none⟩ = some (.slice (some ⟨gq,0,none⟩) (n + 1) cc) ∧ w'.heap[gf]? = some (.cells (byteV frm).toArray 67 (0,0))) [] (by kernel_rfl) ⟨row_cell (H.at 10 rfl) (nRow4 _ _ _ _ _),H.at 9 rfl⟩ (fun hHeld => ?_)
  (refine wpAnyT_pure (i := 0) (v := ?_) rfl (by kernel_rfl) (by kernel_rfl) (by kernel_rfl) (by kernel_rfl) (fun _ _ _ h => h) (Or.inl ⟨by rfl,?_⟩) (Or.inr (by assumption)) ?_;rotate_left;focus (intro w hSw;clear hSw;go_simp;all_goals (with_reducible rfl)));(try simp only [Act.put,rp1,rp2,rp3,rp4,rp5,rp6])
  (refine wpAnyT_pure (i := 1) (v := ?_) rfl (by kernel_rfl) (by kernel_rfl) (by kernel_rfl) (by kernel_rfl) (fun _ _ _ h => h) (Or.inl ⟨by rfl,?_⟩) (Or.inr (by assumption)) ?_;rotate_left;focus (intro w hSw;clear hSw;go_simp;all_goals (with_reducible rfl)));(try simp only [Act.put,rp1,rp2,rp3,rp4,rp5,rp6])
  (refine wpAnyT_pure (i := 2) (v := ?_) rfl (by kernel_rfl) (by kernel_rfl) (by kernel_rfl) (by kernel_rfl) (fun _ _ _ h => h) (Or.inl ⟨by rfl,?_⟩) (Or.inr (by assumption)) ?_;rotate_left;focus (intro w hSw;clear hSw;go_simp;all_goals (with_reducible rfl)));(try simp only [Act.put,rp1,rp2,rp3,rp4,rp5,rp6])
  (refine wpAnyT_take (i := 3) (f := 20) rfl (by kernel_rfl) (by kernel_rfl) (by kernel_rfl) (by kernel_rfl) (by kernel_rfl) (fun _ _ _ h => h) ((yieldsIf_load1 (by rfl) 72 _ rfl _ _ (by rfl) _ Tryz.underlying72 rfl _ (fun w h => h.1))) (by assumption) ?_);(try simp only [Act.put,rp1,rp2,rp3,rp4,rp5,rp6])
  (refine wpAnyT_pure (i := 4) (v := ?_) rfl (by kernel_rfl) (by kernel_rfl) (by kernel_rfl) (by kernel_rfl) (fun _ _ _ h => h) (Or.inl ⟨by rfl,?_⟩) (Or.inr (by assumption)) ?_;rotate_left;focus (intro w hSw;clear hSw;go_simp;all_goals (with_reducible rfl)));(try simp only [Act.put,rp1,rp2,rp3,rp4,rp5,rp6])
  (refine wpAnyT_take (i := 5) (f := 20) rfl (by kernel_rfl) (by kernel_rfl) (by kernel_rfl) (by kernel_rfl) (by kernel_rfl) (fun _ _ _ h => h) ((yieldsIf_loadrow (by rfl) 67 _ rfl _ (by rfl) _ _ _ _ Tryz.underlying67 rfl (size_key32 frm HFR.out) (fun w h => h.2))) (by assumption) ?_);(try simp only [Act.put,rp1,rp2,rp3,rp4,rp5,rp6])
  (refine wpAnyT_pure (i := 9) (v := ?_) rfl (by kernel_rfl) (by kernel_rfl) (by kernel_rfl) (by kernel_rfl) (fun _ _ _ h => h) (Or.inl ⟨by rfl,?_⟩) (Or.inr (by assumption)) ?_;rotate_left;focus (intro w hSw;clear hSw;go_simp;all_goals (with_reducible rfl)));(try simp only [Act.put,rp1,rp2,rp3,rp4,rp5,rp6])
  (refine wpAnyT_one (i := 6) (by kernel_rfl) rfl (fun K hK => ?_));(rw [if_pos (by rfl)]);(go_simp;go_at_call 153;(refine (way_calls (H.at 10 rfl) (ownS_rd (H.at 11 rfl)) HKS.out HI.out.k32 HFR.out HI.out.rise (by have := H6.out;omega)).mono ?_);rintro e W' ⟨j,rfl,hj,hW,hb⟩;replace H := H.stay (Fix.of_below hb _);clear hb;(try go_wp2_with fail);have hH2 := (show (fun w' => w'.cell? ⟨g,4,none⟩ = some (.slice (some ⟨gq,0,none⟩) (n + 1) cc) ∧ w'.heap[gf]? = some (.cells (byteV frm).toArray 67 (0,0))) W' from ⟨row_cell (H.at 10 rfl) (nRow4 _ _ _ _ _),H.at 9 rfl⟩);refine hK.out _ _ (Or.inr hH2) ?_;clear hK K hHeld);(try simp only [Act.put,rp1,rp2,rp3,rp4,rp5,rp6])
  have HJ := Lib.hid hj
  have HW := Lib.hid hW
  have hj0 : 0 ≤ (j : Int) := by omega
  have hj1 : (j : Int) ≤ (n : Int) + 1 := by omega
  have hj2 : (j : Int) ≤ 6 := by omega
  have hj3 : ¬ cc = j := by have := HCC.out;omega
  clear hj hW
  (refine wpAnyT_pure (i := 7) (v := ?_) rfl (by kernel_rfl) (by kernel_rfl) (by kernel_rfl) (by kernel_rfl) (fun _ _ _ h => h) (Or.inl ⟨by rfl,?_⟩) (Or.inr (by assumption)) ?_;rotate_left;focus (intro w hSw;clear hSw;go_simp;all_goals (with_reducible rfl)));(try simp only [Act.put,rp1,rp2,rp3,rp4,rp5,rp6])
  (refine wpAnyT_pure (i := 8) (v := ?_) rfl (by kernel_rfl) (by kernel_rfl) (by kernel_rfl) (by kernel_rfl) (fun _ _ _ h => h) (Or.inl ⟨by rfl,?_⟩) (Or.inr (by assumption)) ?_;rotate_left;focus (intro w hSw;clear hSw;go_simp;all_goals (with_reducible rfl)));(try simp only [Act.put,rp1,rp2,rp3,rp4,rp5,rp6])
  (refine wpAnyT_done (by kernel_rfl) ?_ _)
  clear hH2
  obtain ⟨m,hm⟩ : ∃ m,n + 1 - j = m := ⟨_,rfl⟩
  have HM := Lib.hid (show j + m = n + 1 by have := HJ.out;omega)
  obtain ⟨b,hbb⟩ : ∃ b,cs.drop j = b := ⟨_,rfl⟩
  have HB := Lib.hid hbb
  have HBL := Lib.hid (show b.length = m by rw [← hbb,List.length_drop,HCS.out];exact hm)
  rw [hm]
  have hm6 : (m : Int) ≤ 7 := by have := HM.out;have := H6.out;omega
  clear hm hbb hj0 hj1 hj2 hj3 hcc1
  go_upto_region 11 with fail
  go_loopw [48] (fun u wr => ∃ (q : Nat) (xq : σ),u = .int .i64 (q : Int) ∧ q ≤ m ∧ Hid (V xq) ∧ Hid (FoldR (fun (c : Sub) x r => WalkR st (kn frm) s.v d (deep + 1) c.h c.hs c.ps x r) (b.take q) x1 (xq,true)) ∧ St O R0 w wr (s.L ++ [A xq,rdA none (pairV []),blk gf (.cells (byteV frm).toArray 67 (0,0)),nodeA g h false (.slice none 0 0) (.slice pk n ck) (.slice (some ⟨gq,0,none⟩) (n + 1) cc),ownS 67 32 pk n ck (keyV ks),ownS 3 1 (some ⟨gq,0,none⟩) (n + 1) cc (intsV (x0 :: xs))])) (fun u _ => m - (intOf u).toNat)
  case atStart => exact ⟨0,x1,rfl,Nat.zero_le _,HV1,Lib.hid (by rw [List.take_zero];exact FoldR.nil _),H⟩
  case round =>
   clear H
   obtain ⟨q,xq,rfl,hq,HVQ,HFO,H⟩ := hrel
   have hq0 : 0 ≤ (q : Int) := by omega
   rcases Nat.lt_or_ge q m with hlt | hge
   ·have hqm : (q : Int) < (m : Int) := by omega
    obtain ⟨ch,hch⟩ : ∃ ch,b[q]? = some ch := ⟨_,List.getElem?_eq_getElem (by rw [HBL.out];exact hlt)⟩
    have hcj : cs[j + q]? = some ch := by rw [← HB.out,List.getElem?_drop] at hch;exact hch
    have hxj : (x0 :: xs)[j + q]? = some ch.h := by rw [← HX.out,List.getElem?_map,hcj];rfl
    obtain ⟨gq',oq,hpq,hcell⟩ := intsV_at (ownS_rd (H.at 12 rfl)) (j + q) ch.h hxj
    obtain ⟨rfl,rfl⟩ : gq = gq' ∧ oq = 0 := by cases hpq;exact ⟨rfl,rfl⟩
    rw [Nat.zero_add] at hcell
    have hmem := List.mem_of_getElem? hcj
    have HCHL := Lib.hid (HI.out.kids ch hmem)
    have HCHT := Lib.hid (show ∀ k ∈ ch.hs,k < s.n from fun k hk => HLT.out k (by rw [HHS.out];exact List.mem_cons_of_mem _ (List.mem_flatMap.2 ⟨ch,hmem,hk⟩)))
    have HCH := Lib.hid hch
    have HQ := Lib.hid hlt
    clear hch hcj hxj hpq hmem hq
    go_upto_region 14 with (first
     | (refine wpList_loadrow_st rfl 67 _ rfl gf rfl _ _ _ (H.at 9 rfl) _ Tryz.underlying67 rfl (size_key32 frm HFR.out) ?_)
     | (go_at_call 118;go_loud ((refine (HIH.out _ s c _ _ (deep + 1) _ _ xq (H.take 8).bundle HVQ.out HO.out HCHL.out.2 HCHT.out (by have := HCHL.out.1;omega) (by have := HD.out;omega) _ _ rfl (by omega)).mono ?_);rintro e W ⟨⟨x2,b2⟩,hr2,rfl,hv2,hto⟩;have HR2 := Lib.hid hr2;have HV2 := Lib.hid (show b2 = true → V x2 from hv2);clear hr2 hv2;replace H := BunTo.front (R := [rdA none (pairV []),blk gf (.cells (byteV frm).toArray 67 (0,0)),nodeA g h false (.slice none 0 0) (.slice pk n ck) (.slice (some ⟨gq,0,none⟩) (n + 1) cc),ownS 67 32 pk n ck (keyV ks),ownS 3 1 (some ⟨gq,0,none⟩) (n + 1) cc (intsV (x0 :: xs))]) hto H;clear hto hcell)))
    have HSN2 := Lib.hid (show b.take (q + 1) = b.take q ++ [ch] by rw [List.take_add_one,HCH.out];rfl)
    cases b2 with
    | false =>
     go_wp2_with (first
      | (go_at_call 117;go_loud ((refine (below_nilR _).mono ?_);rintro e W' ⟨rfl,rfl⟩)))
     first
      | (refine bodyPost_ret (results_tmp2 rfl _ _ _) rfl ?_)
      | skip
     rw [← HPP.out]
     refine ⟨(x2,false),⟨ks.take j,ks.drop j,cs.take j,b,?_,?_,?_,?_,?_,.inr ⟨x1,HST.out,?_⟩⟩,rfl,fun h => (by cases h),St.bunTo (H.take 8)⟩
     ·rw [List.take_append_drop,← HB.out,List.take_append_drop];exact HI.out
     ·rw [List.length_take,List.length_take,Nat.min_eq_left (by rw [HCS.out];have := HJ.out;omega),Nat.min_eq_left (by rw [HKS.out];exact HJ.out)]
     ·exact HW.out
     ·rw [← HB.out,List.take_append_drop];exact HHS.out
     ·rw [← HB.out,List.take_append_drop];exact HPS.out
     ·have h5 := (HFO.out.snoc HR2.out).stopped (ds := b.drop (q + 1))
      rw [← HSN2.out,List.take_append_drop] at h5
      exact h5
    | true =>
     go_wp2
     go_roundw
     case rel => exact ⟨q + 1,x2,congrArg _ (by omega),HQ.out,Lib.hid (HV2.out (by first | rfl | trivial)),Lib.hid (by rw [HSN2.out];exact HFO.out.snoc HR2.out),H⟩
     case measure => have := HQ.out;simp [intOf];omega
   ·obtain rfl : q = m := by omega
    have hqm : ¬ ((q : Int) < (q : Int)) := by omega
    go_wp2
    first
     | (refine bodyPost_ret (results_tmp2 rfl _ _ _) rfl ?_)
     | skip
    rw [← HPP.out]
    refine ⟨(xq,true),⟨ks.take j,ks.drop j,cs.take j,b,?_,?_,?_,?_,?_,.inr ⟨x1,HST.out,?_⟩⟩,rfl,fun _ => HVQ.out,St.bunTo (H.take 8)⟩
    ·rw [List.take_append_drop,← HB.out,List.take_append_drop];exact HI.out
    ·rw [List.length_take,List.length_take,Nat.min_eq_left (by rw [HCS.out];have := HJ.out;omega),Nat.min_eq_left (by rw [HKS.out];exact HJ.out)]
    ·exact HW.out
    ·rw [← HB.out,List.take_append_drop];exact HHS.out
    ·rw [← HB.out,List.take_append_drop];exact HPS.out
    ·have h5 := HFO.out
     rw [List.take_of_length_le (by rw [HBL.out];exact Nat.le_refl _)] at h5
     exact h5
theorem walk_ok {σ : Type} {fn : Nat} {cb : Array Value} {A : σ → Asrt} {st : σ → Nat → List PairT → Nat → σ × Bool → Prop} {V : σ → Prop} (hS : SeeOk fn cb A st V) (eg : ∀ args w,(callFunc fn args).run Tryz.prog w = .ok (.enter fn args) w) {frm : List UInt8} (hV : ∀ x h ps deep x',V x → st x h ps deep (x',true) → V x') (hfrm : frm.length = 32) : ∀ d,WalkOk fn cb A st V frm d
 | 0 => walk_ok0 hS eg hV frm
 | d + 1 => walk_innerW hS eg hV hfrm (walk_ok hS eg hV hfrm d)
end Go.Proofs.YtlgciddnpinpbaaGreatDoor
namespace Go.Proofs.YtlgciddnpinpbaaGreatDoor
open Go.RowKit
set_option maxRecDepth 40000
section
variable {σ : Type} (st : σ → Nat → List PairT → Nat → σ × Bool → Prop)
def stN (y : σ × Nat) (h : Nat) (ps : List PairT) (deep : Nat) (r : (σ × Nat) × Bool) : Prop := if y.2 + 1 ≤ 1900 then ∃ x',st y.1 h ps deep (x',r.2) ∧ r.1 = (x',y.2 + 1) else r = ((y.1,y.2 + 1),false)
theorem walkR_proj (frm : Nat) (v : Nat → List UInt8) : ∀ (d : Nat) (deep h : Nat) (hs : List Nat) (ps : List PairT) (y : σ × Nat) (r : (σ × Nat) × Bool),WalkR (stN st) frm v d deep h hs ps y r → (d = 0 → hs = [h]) → y.2 + hs.length ≤ 1900 → (∀ d' s h hs ps,Lies v d' s h hs ps → d' = 0 → hs = [h]) →
  WalkR st frm v d deep h hs ps y.1 (r.1.1,r.2) ∧ r.1.2 ≤ y.2 + hs.length
 | 0,deep,h,hs,ps,y,r,hw,he,hq,hz => by
  have hl := he rfl
  subst hl
  simp only [List.length_singleton] at hq ⊢
  have e : stN st y h ps deep r := hw
  unfold stN at e
  rw [if_pos hq] at e
  obtain ⟨x',h1,h2⟩ := e
  rw [h2]
  exact ⟨h1,Nat.le_refl _⟩
 | d + 1,deep,h,hs,ps,y,r,⟨ks1,ks2,a,b,hi,hl,hwy,hhs,hps,hw⟩,he,hq,hz => by
  have hq1 : y.2 + 1 ≤ 1900 := by rw [hhs] at hq;simp only [List.length_cons] at hq;omega
  rcases hw with ⟨x1,h1,rfl⟩ | ⟨x1,h1,hf⟩
  ·unfold stN at h1
   rw [if_pos hq1] at h1
   obtain ⟨x',h1,rfl⟩ := h1
   refine ⟨⟨ks1,ks2,a,b,hi,hl,hwy,hhs,hps,.inl ⟨x',h1,rfl⟩⟩,?_⟩
   rw [hhs];simp
  ·have key : ∀ (b : List Sub) (z : σ × Nat) (r : (σ × Nat) × Bool),(∀ c ∈ b,Lies v d c.s c.h c.hs c.ps) → z.2 + (homesOf b).length ≤ 1900 → FoldR (fun (c : Sub) x r => WalkR (stN st) frm v d (deep + 1) c.h c.hs c.ps x r) b z r →
     FoldR (fun (c : Sub) x r => WalkR st frm v d (deep + 1) c.h c.hs c.ps x r) b z.1 (r.1.1,r.2) ∧ r.1.2 ≤ z.2 + (homesOf b).length := by
    intro b z r hb hz2 hf
    induction hf with
    | nil x => exact ⟨.nil _,by simp⟩
    | @go c cs x x' r h k ih =>
     have hlen : (homesOf (c :: cs)).length = c.hs.length + (homesOf cs).length := by simp [homesOf]
     rw [hlen] at hz2 ⊢
     have h1 := walkR_proj frm v d (deep + 1) c.h c.hs c.ps x (x',true) h (fun e => hz _ _ _ _ _ (hb c (List.mem_cons_self ..)) e) (by omega) hz
     have h2 := ih (fun q hq => hb q (List.mem_cons_of_mem _ hq)) (by have := h1.2;simp only at this;omega)
     exact ⟨.go h1.1 h2.1,by have := h1.2;have := h2.2;simp only at *;omega⟩
    | @stop c cs x x' h =>
     have hlen : (homesOf (c :: cs)).length = c.hs.length + (homesOf cs).length := by simp [homesOf]
     rw [hlen] at hz2 ⊢
     have h1 := walkR_proj frm v d (deep + 1) c.h c.hs c.ps x (x',false) h (fun e => hz _ _ _ _ _ (hb c (List.mem_cons_self ..)) e) (by omega) hz
     exact ⟨.stop h1.1,by have := h1.2;simp only at *;omega⟩
   unfold stN at h1
   rw [if_pos hq1] at h1
   obtain ⟨x',h1,rfl⟩ := h1
   have hlb : (homesOf (a ++ b)).length = (homesOf a).length + (homesOf b).length := by simp [homesOf]
   rw [hhs,List.length_cons,hlb] at hq
   have hk := key b _ r (fun c hc => (hi.kids c (List.mem_append_right _ hc)).2) (by (try simp only);omega) hf
   refine ⟨⟨ks1,ks2,a,b,hi,hl,hwy,hhs,hps,.inr ⟨x',h1,hk.1⟩⟩,?_⟩
   rw [hhs,List.length_cons,hlb]
   have := hk.2
   (try simp only at this)
   omega
end
def wrapA {σ : Type} (A : σ → Asrt) (fv : Value) (gs gv : Nat) (y : σ × Nat) : Asrt := bun [A y.1,blk gs (.cells #[.int .i64 (y.2 : Int)] 3 (0,0)),blk gv (.cells #[fv] 146 (0,0))]
set_option maxHeartbeats 4000000 in
theorem wrap_see {σ : Type} {fn : Nat} {cb : Array Value} {A : σ → Asrt} {st : σ → Nat → List PairT → Nat → σ × Bool → Prop} {V : σ → Prop} (hS : SeeOk fn cb A st V) {Vq : Nat → σ → Prop} (hVq : ∀ q x,q ≤ 1900 → Vq q x → V x) (eg : ∀ args w,(callFunc fn args).run Tryz.prog w = .ok (.enter fn args) w) (gs gv : Nat) :
  SeeOk 119 #[.pointer (some ⟨gs,0,none⟩),.pointer (some ⟨gv,0,none⟩)] (wrapA A (.func (.func fn) #[] cb) gs gv) (stN st) (fun y => Vq y.2 y.1 ∧ y.2 ≤ 1900) := by
 rintro ⟨x,q⟩ g home lf pp n cp b c ps deep z W ⟨hVx,hq⟩ hb hnl h6 hp hd hz
 subst hz
 have H := hb.open_
 obtain ⟨O,hO⟩ : ∃ O,ownL [wrapA A (.func (.func fn) #[] cb) gs gv (x,q),nodeA g home lf (.slice pp n cp) b c,rdA pp (pairV ps)] = O := ⟨_,rfl⟩
 obtain ⟨R0,hR0⟩ : ∃ R,rdL [wrapA A (.func (.func fn) #[] cb) gs gv (x,q),nodeA g home lf (.slice pp n cp) b c,rdA pp (pairV ps)] = R := ⟨_,rfl⟩
 rw [hO,hR0] at H ⊢
 have HS := Lib.hid hS
 have HV := Lib.hid (hVq q x hq hVx)
 have HN := Lib.hid hnl
 have H6 := Lib.hid h6
 have HP := Lib.hid hp
 have HD := Lib.hid hd
 have HQ := Lib.hid hq
 replace H : St O R0 W W ([nodeA g home lf (.slice pp n cp) b c,rdA pp (pairV ps)] ++ [bun [A x,blk gs (.cells #[.int .i64 (q : Int)] 3 (0,0)),blk gv (.cells #[.func (.func fn) #[] cb] 146 (0,0))]]) := St.rotate (A := [wrapA A (.func (.func fn) #[] cb) gs gv (x,q)]) H
 replace H := H.unbun
 have hq0 : 0 ≤ (q : Int) := by omega
 have hq9 : (q : Int) ≤ 1900 := by omega
 obtain ⟨PP,hPP⟩ : ∃ PP : Ending → World → Prop,(fun e w' => ∃ r,stN st (x,q) home ps deep r ∧ e = .returned (.bool r.2) ∧ BunTo W O R0 [wrapA A (.func (.func fn) #[] cb) gs gv r.1,nodeA g home lf (.slice pp n cp) b c,rdA pp (pairV ps)] w') = PP := ⟨_,rfl⟩
 have HPP := Lib.hid hPP
 rw [hPP]
 clear hb hS hVx hVq hnl h6 hp hd hq hO hR0 hPP
 have hf := row_cell (H.at 3 rfl) (off := 0) (v := .int .i64 (q : Int)) rfl
 show Calls Tryz.prog 119 #[.pointer (some ⟨g,0,none⟩),.int .i64 (deep : Int),.pointer (some ⟨gs,0,none⟩),.pointer (some ⟨gv,0,none⟩)] W PP
 rcases Nat.lt_or_ge q 1900 with hlt | hge
 ·have hq1 : (q : Int) + 1 ≤ 1900 := by omega
  have HL := Lib.hid hlt
  clear hlt
  go_enter Tryz.func119,Tryz.ntmps119
  go_upto_region 2 with (first
   | (refine wpList_store1_st H 3 rfl 3 _ _ rfl gs 0 (.int .i64 ((q : Int) + 1)) (by rfl) (by rfl) rfl _ _ rfl size_int (by simp) ?_;clear H hf;intro W1 H))
  have hf := row_cell (H.at 3 rfl) (off := 0) (v := .int .i64 ((q : Int) + 1)) rfl
  have hf2 := row_cell (H.at 4 rfl) (off := 0) (v := .func (.func fn) #[] cb) rfl
  go_wp2_with (first
   | (go_at_fn fn;go_loud (replace H : St O R0 W W1 ([blk gs (.cells #[.int .i64 ((q : Int) + 1)] 3 (0,0)),blk gv (.cells #[.func (.func fn) #[] cb] 146 (0,0))] ++ [A x,nodeA g home lf (.slice pp n cp) b c,rdA pp (pairV ps)]) := ((H.pull 2 rfl).pull 0 rfl).pull 0 rfl;(refine (HS.out x g home lf pp n cp b c ps deep _ _ HV.out H.lastB HN.out H6.out HP.out HD.out rfl).mono ?_);rintro e W2 ⟨⟨x1,b1⟩,hst,rfl,hto⟩;have HST := Lib.hid hst;clear hst;replace H := BunTo.last hto H;clear hto hf hf2)))
  rw [← HPP.out]
  refine ⟨((x1,q + 1),b1),by unfold stN;rw [if_pos (show q + 1 ≤ 1900 by have := HL.out;omega)];exact ⟨x1,HST.out,rfl⟩,rfl,?_⟩
  replace H : St O R0 W W2 ([nodeA g home lf (.slice pp n cp) b c,rdA pp (pairV ps)] ++ [A x1,blk gs (.cells #[.int .i64 ((q + 1 : Nat) : Int)] 3 (0,0)),blk gv (.cells #[.func (.func fn) #[] cb] 146 (0,0))]) := ((H.pull 2 rfl).pull 0 rfl).pull 0 rfl
  exact (St.rotate (B := [wrapA A (.func (.func fn) #[] cb) gs gv (x1,q + 1)]) (St.rebun H)).bunTo
 ·obtain rfl : q = 1900 := by have := HQ.out;omega
  go_enter Tryz.func119,Tryz.ntmps119
  go_upto_region 2 with (first
   | (refine wpList_store1_st H 3 rfl 3 _ _ rfl gs 0 (.int .i64 1901) (by rfl) (by rfl) rfl _ _ rfl size_int (by simp) ?_;clear H hf;intro W1 H))
  have hf := row_cell (H.at 3 rfl) (off := 0) (v := .int .i64 1901) rfl
  go_wp2
  rw [← HPP.out]
  refine ⟨((x,1901),false),by unfold stN;rw [if_neg (show ¬ (1900 + 1 ≤ 1900) by omega)],rfl,?_⟩
  exact (St.rotate (B := [wrapA A (.func (.func fn) #[] cb) gs gv (x,1901)]) (St.rebun (show St O R0 W _ ([nodeA g home lf (.slice pp n cp) b c,rdA pp (pairV ps)] ++ [A x,blk gs (.cells #[.int .i64 ((1901 : Nat) : Int)] 3 (0,0)),blk gv (.cells #[.func (.func fn) #[] cb] 146 (0,0))]) from H))).bunTo
end Go.Proofs.YtlgciddnpinpbaaGreatDoor
namespace Go.Proofs.YtlgciddnpinpbaaGreatDoor
open Go.RowKit
set_option maxRecDepth 40000
set_option maxHeartbeats 8000000 in
theorem walks_some {σ : Type} {fn : Nat} {cb : Array Value} {A : σ → Asrt} {st : σ → Nat → List PairT → Nat → σ × Bool → Prop} {V : σ → Prop} (hS : SeeOk fn cb A st V) (eg : ∀ args w,(callFunc fn args).run Tryz.prog w = .ok (.enter fn args) w) {Vq : Nat → σ → Prop} (hVq : ∀ q x,q ≤ 1900 → Vq q x → V x) (hV : ∀ q x h ps deep x',Vq q x → st x h ps deep (x',true) → Vq (q + 1) x')
  {w : World} {s : TX} {c d sz r : Nat} {hs : List Nat} {ps : List PairT} {x : σ} (hb : Bundle w (s.L ++ [A x])) (hVx : Vq 0 x) (h0 : s.Ok c) (hl : Lies s.v d sz r hs ps) (hh : Held s hs) (h1 : 1 ≤ sz) {frm : List UInt8} (hfrm : frm.length = 32) (z : Int) (hz : (r : Int) = z) :
  Calls Tryz.prog 81 #[.pointer (some ⟨s.g,0,none⟩),.int .u32 z,arrV frm,.func (.func fn) #[] cb] w fun e w' => ∃ y,WalkR st (kn frm) s.v d 1 r hs ps x y ∧ e = .returned (.int .i64 0) ∧ BunTo w (ownL (s.L ++ [A x])) (rdL (s.L ++ [A x])) (s.L ++ [A y.1]) w' := by
 subst hz
 have H := hb.open_
 obtain ⟨O,hO⟩ : ∃ O,ownL (s.L ++ [A x]) = O := ⟨_,rfl⟩
 obtain ⟨R0,hR0⟩ : ∃ R,rdL (s.L ++ [A x]) = R := ⟨_,rfl⟩
 rw [hO,hR0] at H ⊢
 have HS := Lib.hid hS
 have HVX := Lib.hid hVx
 have HVV := Lib.hid hV
 have HVQ := Lib.hid hVq
 have HO := Lib.hid h0
 have HL := Lib.hid hl
 have HH := Lib.hid hh
 have H1 := Lib.hid h1
 have HFR := Lib.hid hfrm
 have HLN := Lib.hid (show hs.length ≤ 1900 by have := hh.len;have := h0.nn.2;omega)
 have HD := Lib.hid (show d ≤ 6 from hl.depth6 (by have := hh.len;have := h0.nn.2;omega))
 have ht := hh.taken r hl.mem
 have hr1 : 2 ≤ (r : Int) := by omega
 have hr2 : ¬ ((r : Int) = 0) := by omega
 have hr3 : ((r : Int) == 0) = false := beq_eq_false_iff_ne.2 hr2
 have hr4 : (r : Int) < 1900 := by have := h0.nn.2;omega
 obtain ⟨PP,hPP⟩ : ∃ PP : Ending → World → Prop,(fun e w' => ∃ y,WalkR st (kn frm) s.v d 1 r hs ps x y ∧ e = .returned (.int .i64 0) ∧ BunTo w O R0 (s.L ++ [A y.1]) w') = PP := ⟨_,rfl⟩
 have HPP := Lib.hid hPP
 rw [hPP]
 clear hb hS hVx hV hVq h0 hl hh h1 hfrm hO hR0 hPP ht
 have tok1 : True := trivial
 go_enter Tryz.func81,Tryz.ntmps81
 go_upto_region 5 with (first
  | (have _t := tok1;clear _t;refine wpList_box_st H rfl 67 _ rfl (arrV _) rfl ?_;clear H tok1;intro W gf H;(try simp only [cells_arrV,List.nil_append,List.cons_append,List.set_cons_zero,List.set_cons_succ] at H))
  | (refine wpList_box_st H rfl 146 _ rfl (.func (.func fn) #[] cb) rfl ?_;clear H;intro W gv H)
  | (refine wpList_alloc_st H rfl 3 rfl _ zero_i64 ?_;clear H;intro W gs H)
  | (refine wpList_store1_st H 10 rfl 3 _ _ rfl gs 0 (.int .i64 0) (by rfl) (by rfl) rfl _ _ rfl size_int (by first | simp | (show 0 < 1;omega)) ?_;clear H;intro W H))
 replace H : St O R0 w W (s.L ++ [A x,blk gf (.cells (byteV frm).toArray 67 (0,0)),blk gv (.cells #[.func (.func fn) #[] cb] 146 (0,0)),blk gs (.cells #[.int .i64 ((0 : Nat) : Int)] 3 (0,0))]) := H
 replace H : St O R0 w W (s.L ++ [blk gf (.cells (byteV frm).toArray 67 (0,0)),blk gv (.cells #[.func (.func fn) #[] cb] 146 (0,0)),blk gs (.cells #[.int .i64 ((0 : Nat) : Int)] 3 (0,0)),A x]) := H.pull 7 rfl
 replace H : St O R0 w W (s.L ++ [blk gf (.cells (byteV frm).toArray 67 (0,0)),blk gv (.cells #[.func (.func fn) #[] cb] 146 (0,0)),A x,blk gs (.cells #[.int .i64 ((0 : Nat) : Int)] 3 (0,0))]) := H.pull 9 rfl
 replace H : St O R0 w W ((s.L ++ [blk gf (.cells (byteV frm).toArray 67 (0,0))]) ++ [A x,blk gs (.cells #[.int .i64 ((0 : Nat) : Int)] 3 (0,0)),blk gv (.cells #[.func (.func fn) #[] cb] 146 (0,0))]) := H.pull 8 rfl
 replace H := H.rebun
 replace H : St O R0 w W (s.L ++ [wrapA A (.func (.func fn) #[] cb) gs gv (x,0),blk gf (.cells (byteV frm).toArray 67 (0,0))]) := H.pull 7 rfl
 have HW := Lib.hid (wrap_see HS.out HVQ.out eg gs gv)
 have HV2 := Lib.hid (show ∀ (y : σ × Nat) h ps deep (y' : σ × Nat),(Vq y.2 y.1 ∧ y.2 ≤ 1900) → stN st y h ps deep (y',true) → (Vq y'.2 y'.1 ∧ y'.2 ≤ 1900) by
  intro y h ps deep y' hy h2
  unfold stN at h2
  split at h2
  ·rename_i h3
   obtain ⟨x',h4,rfl⟩ := h2
   exact ⟨HVV.out _ _ _ _ _ _ hy.1 h4,h3⟩
  ·cases h2)
 go_upto_region 8 with (first
  | (refine wpList_loadrow_st rfl 67 _ rfl gf rfl _ _ _ (H.at 8 rfl) _ Tryz.underlying67 rfl (size_key32 frm HFR.out) ?_)
  | (go_at_call 118;go_loud ((refine (walk_ok HW.out (enters_of Tryz.func119 (by kernel_rfl) rfl) HV2.out HFR.out d _ s _ _ _ 1 _ _ (x,0) (H.take 8).bundle ⟨HVX.out,by omega⟩ HO.out HL.out (fun k hk => (HH.out.taken k hk).2.1) H1.out (by have := HD.out;omega) _ _ rfl rfl).mono ?_);rintro e W ⟨⟨⟨y,q⟩,b⟩,hr2,rfl,hv2,hto⟩;have HRR := Lib.hid (walkR_proj st (kn frm) s.v d 1 r hs ps (x,0) ((y,q),b) hr2 (fun h5 => by subst h5;exact HL.out.1) (show 0 + hs.length ≤ 1900 by have := HLN.out;omega) (fun d' sz h hs ps h5 h6 => by subst h6;exact h5.1));clear hr2 hv2;replace H := BunTo.front (R := [blk gf (.cells (byteV frm).toArray 67 (0,0))]) hto H;clear hto)))
 have hq : (q : Int) ≤ 1900 := by have h5 := HRR.out.2;have := HLN.out;(try simp only at h5);omega
 have hf := row_cell ((H.at 7 rfl : Bundle W [A y,blk gs (.cells #[.int .i64 (q : Int)] 3 (0,0)),blk gv (.cells #[.func (.func fn) #[] cb] 146 (0,0))]).all 1 _ rfl) (off := 0) (v := .int .i64 (q : Int)) rfl
 go_wp2
 first
  | (refine bodyPost_ret (results_tmp rfl _ _ _) rfl ?_)
  | skip
 rw [← HPP.out]
 refine ⟨(y,b),HRR.out.1,rfl,?_⟩
 have H2 : St O R0 w W (s.L ++ [bun [A y,blk gs (.cells #[.int .i64 (q : Int)] 3 (0,0)),blk gv (.cells #[.func (.func fn) #[] cb] 146 (0,0))]]) := H.take 8
 have H3 : St O R0 w W (s.L ++ [A y,blk gs (.cells #[.int .i64 (q : Int)] 3 (0,0)),blk gv (.cells #[.func (.func fn) #[] cb] 146 (0,0))]) := H2.unbun
 exact St.bunTo (H3.take 8)
set_option maxHeartbeats 4000000 in
theorem walks_none {fn : Nat} {cb : Array Value} {B : Asrt} {w : World} {s : TX} {c : Nat} (hb : Bundle w (s.L ++ [B])) (h0 : s.Ok c) (frm : List UInt8) :
  Calls Tryz.prog 81 #[.pointer (some ⟨s.g,0,none⟩),.int .u32 0,arrV frm,.func (.func fn) #[] cb] w fun e w' => e = .returned (.int .i64 0) ∧ BunTo w (ownL (s.L ++ [B])) (rdL (s.L ++ [B])) (s.L ++ [B]) w' := by
 have H := hb.open_
 obtain ⟨O,hO⟩ : ∃ O,ownL (s.L ++ [B]) = O := ⟨_,rfl⟩
 obtain ⟨R0,hR0⟩ : ∃ R,rdL (s.L ++ [B]) = R := ⟨_,rfl⟩
 rw [hO,hR0] at H ⊢
 have HO := Lib.hid h0
 have HN := Lib.hid (show 0 < s.n by have := h0.nn;omega)
 clear hb h0 hO hR0
 have tok1 : True := trivial
 go_enter Tryz.func81,Tryz.ntmps81
 go_wp2_with (first
  | (have _t := tok1;clear _t;refine wpList_box_st H rfl 67 _ rfl (arrV _) rfl ?_;clear H tok1;intro W gf H;(try simp only [cells_arrV,List.nil_append,List.cons_append,List.set_cons_zero,List.set_cons_succ] at H))
  | (refine wpList_box_st H rfl 146 _ rfl (.func (.func fn) #[] cb) rfl ?_;clear H;intro W gv H)
  | (go_at_call 19;go_loud ((refine (rd_TX (s := s) (H.take 7).bundle HO.out _ 0 rfl HN.out).mono ?_);rintro e W ⟨gc,off,cap,rfl,_,hcap,hgc,hto⟩;replace H := BunTo.front2 (R := [_,_,_]) hto H;clear hto)))
 go_ret
 exact ⟨rfl,St.bunTo (H.take 8)⟩
end Go.Proofs.YtlgciddnpinpbaaGreatDoor
namespace Go.Proofs.YtlgciddnpinpbaaGreatDoor
open Go.RowKit
set_option maxRecDepth 40000
def zeroKey : List UInt8 := List.replicate 32 0
theorem zeroKey_len : zeroKey.length = 32 := by simp [zeroKey]
theorem built_zero : Tryz.prog.built 67 [] = some (byteV zeroKey).toArray := by kernel_rfl
theorem walk_some {ks1 ks2 : List (List UInt8)} {a b : List Sub} {v : Nat → List UInt8} {d : Nat} (hi : Inner v d (ks1 ++ ks2) (a ++ b)) (hl : a.length = ks1.length) : b ≠ [] := by
 intro e
 have := hi.len
 rw [e] at this
 simp only [List.length_append,List.length_nil] at this
 omega
def stD (x h : Nat) (ps : List PairT) (deep : Nat) (r : Nat × Bool) : Prop := r = (max x deep,true)
theorem walkR_depth (frm : Nat) (v : Nat → List UInt8) : ∀ (d deep h : Nat) (hs : List Nat) (ps : List PairT) (x : Nat) (r : Nat × Bool),WalkR stD frm v d deep h hs ps x r → r = (max x (deep + d),true)
 | 0,deep,h,hs,ps,x,r,hw => hw
 | d + 1,deep,h,hs,ps,x,r,⟨ks1,ks2,a,b,hi,hl,hwy,hhs,hps,hw⟩ => by
  rcases hw with ⟨x1,h1,rfl⟩ | ⟨x1,h1,hf⟩
  ·cases h1
  ·obtain rfl : x1 = max x deep := by cases h1;rfl
   have key : ∀ (b : List Sub) (x : Nat) (r : Nat × Bool),FoldR (fun (c : Sub) x r => WalkR stD frm v d (deep + 1) c.h c.hs c.ps x r) b x r → r = (if b = [] then x else max x (deep + 1 + d),true) := by
    intro b x r hf
    induction hf with
    | nil x => rfl
    | @go c cs x x' r h k ih =>
     have h1 := walkR_depth frm v d _ _ _ _ _ _ h
     cases h1
     rw [ih]
     by_cases e : cs = [] <;> simp [e]
    | @stop c cs x x' h =>
     have h1 := walkR_depth frm v d _ _ _ _ _ _ h
     cases h1
   have hb := walk_some hi hl
   have := key b _ r hf
   rw [if_neg hb] at this
   rw [this]
   congr 1
   omega
set_option maxHeartbeats 2000000 in
theorem depth_see (gm : Nat) : SeeOk 82 #[.pointer (some ⟨gm,0,none⟩)] (fun x : Nat => blk gm (.cells #[.int .i64 (x : Int)] 3 (0,0))) stD (fun _ => True) := by
 intro x g home lf pp n cp b c ps deep z W _ hb hnl h6 hp hd hz
 subst hz
 have H := hb.open_
 obtain ⟨O,hO⟩ : ∃ O,ownL [blk gm (.cells #[.int .i64 (x : Int)] 3 (0,0)),nodeA g home lf (.slice pp n cp) b c,rdA pp (pairV ps)] = O := ⟨_,rfl⟩
 obtain ⟨R0,hR0⟩ : ∃ R,rdL [blk gm (.cells #[.int .i64 (x : Int)] 3 (0,0)),nodeA g home lf (.slice pp n cp) b c,rdA pp (pairV ps)] = R := ⟨_,rfl⟩
 rw [hO,hR0] at H ⊢
 obtain ⟨m,hm⟩ : ∃ m,max x deep = m := ⟨_,rfl⟩
 have HM := Lib.hid hm
 have hmax : max (x : Int) (deep : Int) = (m : Int) := by omega
 obtain ⟨PP,hPP⟩ : ∃ PP : Ending → World → Prop,(fun e w' => ∃ r,stD x home ps deep r ∧ e = .returned (.bool r.2) ∧ BunTo W O R0 [blk gm (.cells #[.int .i64 (r.1 : Int)] 3 (0,0)),nodeA g home lf (.slice pp n cp) b c,rdA pp (pairV ps)] w') = PP := ⟨_,rfl⟩
 have HPP := Lib.hid hPP
 rw [hPP]
 clear hb hnl h6 hp hd hO hR0 hPP hm
 have hf := row_cell (H.at 0 rfl) (off := 0) (v := .int .i64 (x : Int)) rfl
 show Calls Tryz.prog 82 #[.pointer (some ⟨g,0,none⟩),.int .i64 (deep : Int),.pointer (some ⟨gm,0,none⟩)] W PP
 go_enter Tryz.func82,Tryz.ntmps82
 go_wp2_with (first
  | (refine wpList_store1_st H 0 rfl 3 _ _ rfl gm 0 (.int .i64 (m : Int)) (by rfl) (by rfl) rfl _ _ rfl size_int (by simp) ?_;clear H hf;intro W1 H))
 rw [← HPP.out]
 exact ⟨(m,true),by rw [← HM.out];rfl,rfl,St.bunTo H⟩
def DepthIs (s : TX) (r : Nat) (hs : List Nat) (ps : List PairT) (D : Nat) : Prop := (r = 0 ∧ hs = [] ∧ ps = [] ∧ D = 0) ∨ ∃ d sz,1 ≤ sz ∧ Tree s d sz r hs ps ∧ D = d + 1
set_option maxHeartbeats 4000000 in
theorem Depth_calls {w : World} {s : TX} {c r : Nat} {hs : List Nat} {ps : List PairT} (hb : Bundle w s.L) (h0 : s.Ok c) (R : Root s r hs ps) (z : Int) (hz : (r : Int) = z) :
  Calls Tryz.prog 43 #[.pointer (some ⟨s.g,0,none⟩),.int .u32 z] w fun e w' => ∃ D : Nat,DepthIs s r hs ps D ∧ e = .returned (.tuple #[.int .i64 (D : Int),.int .i64 0]) ∧ BunTo w (ownL s.L) (rdL s.L) s.L w' := by
 subst hz
 have H := hb.open_
 obtain ⟨O,hO⟩ : ∃ O,ownL s.L = O := ⟨_,rfl⟩
 obtain ⟨R0,hR0⟩ : ∃ R,rdL s.L = R := ⟨_,rfl⟩
 rw [hO,hR0] at H ⊢
 have HO := Lib.hid h0
 have HR := Lib.hid R
 obtain ⟨PP,hPP⟩ : ∃ PP : Ending → World → Prop,(fun e w' => ∃ D : Nat,DepthIs s r hs ps D ∧ e = .returned (.tuple #[.int .i64 (D : Int),.int .i64 0]) ∧ BunTo w O R0 s.L w') = PP := ⟨_,rfl⟩
 have HPP := Lib.hid hPP
 rw [hPP]
 have R1 := R.is
 clear hb h0 R hO hR0 hPP
 rcases R1 with ⟨rfl,rfl,rfl⟩ | ⟨d,sz,h1,T⟩
 ·go_enter Tryz.func43,Tryz.ntmps43
  go_upto_region 5 with (first
   | (refine wpList_alloc_st H rfl 3 rfl _ zero_i64 ?_;clear H;intro W gm H)
   | (refine wpList_store1_st H 7 rfl 3 _ _ rfl gm 0 (.int .i64 0) (by rfl) (by rfl) rfl _ _ rfl size_int (by first | simp | (show 0 < 1;omega)) ?_;clear H;intro W H;replace H : St O R0 w W (s.L ++ [blk gm (.cells #[.int .i64 ((0 : Nat) : Int)] 3 (0,0))]) := H)
   | (refine wpList_buildz rfl 67 rfl zeroKey built_zero ?_)
   | (go_at_call 81;go_loud ((refine (walks_none (s := s) (H.take 8).bundle HO.out zeroKey).mono ?_);rintro e W ⟨rfl,hto⟩;replace H := BunTo.front (R := []) hto (by rw [List.append_nil];exact H);rw [List.append_nil] at H;clear hto)))
  have hf := row_cell (H.at 7 rfl) (off := 0) (v := .int .i64 ((0 : Nat) : Int)) rfl
  go_wp2
  rw [← HPP.out]
  exact ⟨0,.inl ⟨rfl,rfl,rfl,rfl⟩,rfl,St.bunTo (H.take 7)⟩
 ·have HT := Lib.hid T
  have H1 := Lib.hid h1
  clear T h1
  go_enter Tryz.func43,Tryz.ntmps43
  go_upto_region 5 with (first
   | (refine wpList_alloc_st H rfl 3 rfl _ zero_i64 ?_;clear H;intro W gm H)
   | (refine wpList_store1_st H 7 rfl 3 _ _ rfl gm 0 (.int .i64 0) (by rfl) (by rfl) rfl _ _ rfl size_int (by first | simp | (show 0 < 1;omega)) ?_;clear H;intro W H;replace H : St O R0 w W (s.L ++ [blk gm (.cells #[.int .i64 ((0 : Nat) : Int)] 3 (0,0))]) := H)
   | (refine wpList_buildz rfl 67 rfl zeroKey built_zero ?_)
   | (go_at_call 81;go_loud ((refine (walks_some (x := 0) (depth_see gm) (enters_of Tryz.func82 (by kernel_rfl) rfl) (Vq := fun _ _ => True) (fun _ _ _ h => h) (fun _ _ _ _ _ _ h _ => h) H.bundle trivial HO.out HT.out.lies HT.out.held H1.out zeroKey_len _ rfl).mono ?_);rintro e W ⟨y,hy,rfl,hto⟩;have hy2 := walkR_depth _ _ _ _ _ _ _ _ _ hy;subst hy2;clear hy;replace H := BunTo.front (R := []) hto (by rw [List.append_nil];exact H);rw [List.append_nil] at H;clear hto)))
  obtain ⟨D,hD⟩ : ∃ D,max 0 (1 + d) = D := ⟨_,rfl⟩
  have HDD := Lib.hid (show D = d + 1 by omega)
  have H2 : St O R0 w W (s.L ++ [blk gm (.cells #[.int .i64 (D : Int)] 3 (0,0))]) := by rw [← hD];exact H
  clear H hD
  have hf := row_cell (H2.at 7 rfl) (off := 0) (v := .int .i64 (D : Int)) rfl
  go_wp2
  rw [← HPP.out]
  exact ⟨D,.inr ⟨d,sz,H1.out,HT.out,HDD.out⟩,rfl,St.bunTo (H2.take 7)⟩
end Go.Proofs.YtlgciddnpinpbaaGreatDoor
