/- Texts of this proof, packed. -/
import Derived.Test.YtlgciddnpinpbaaGreatDoorPkBase4
import Derived.Test.YtlgciddnpinpbaaGreatDoorPqA
import Derived.Test.YtlgciddnpinpbaaGreatDoorPqR
import Derived.Test.YtlgciddnpinpbaaGreatDoorPqB
import Derived.Test.YtlgciddnpinpbaaGreatDoorPqC
import Derived.Test.YtlgciddnpinpbaaGreatDoorPqD
import Derived.Test.YtlgciddnpinpbaaGreatDoorPqG
import Derived.Test.YtlgciddnpinpbaaGreatDoorPqI
import Derived.Test.YtlgciddnpinpbaaGreatDoorPqQ
import Derived.Test.YtlgciddnpinpbaaGreatDoorPqS
import Derived.Test.YtlgciddnpinpbaaGreatDoorPqT
import Derived.Test.YtlgciddnpinpbaaGreatDoorPqU
import Derived.Test.YtlgciddnpinpbaaGreatDoorPqX
import Derived.Test.YtlgciddnpinpbaaGreatDoorPqZa
import Derived.Test.YtlgciddnpinpbaaGreatDoorPqAd
set_option linter.unusedSimpArgs false
set_option linter.unusedVariables false
namespace Go.Proofs.YtlgciddnpinpbaaGreatDoor
open Go.RowKit
set_option maxRecDepth 40000
theorem zeroKey32 : (Tryz.prog.info? 67).bind (·.zero) = some (.agg (byteV zeroKey).toArray) := by kernel_rfl
theorem sizeK32 : (Tryz.prog.info? 67).map (·.size) = some 32 := by kernel_rfl
set_option maxRecDepth 100000 in
set_option maxHeartbeats 32000000 in
theorem treePieces_short (w : World) (pz : Option Addr) (l : List Nat) (n cz : Nat) (step : UInt8) (hn : l.length = n) (h80 : n ≤ 80) (hl : ∀ x ∈ l,x < 65536) (hg : errA.prop w) (ha : (rdA pz (u16V l)).prop w) :
  Calls Tryz.prog 9 #[.slice pz n cz,.int .u8 (step.toNat : Int)] w fun e w' => e = .returned (.bool true) ∧ Below w.heap.size w w' := by
 have H := St.reads_only (w := w) [errA,rdA pz (u16V l)] (by
  intro B hB
  simp only [List.mem_cons,List.not_mem_nil,or_false] at hB
  rcases hB with rfl | rfl
  ·exact ⟨hg,fun _ h => h⟩
  ·exact ⟨ha,fun _ h => h⟩)
 have hn0 : 0 ≤ (n : Int) := by omega
 have hn8 : (n : Int) ≤ 80 := by omega
 have hn81 : ¬ (80 < (n : Int)) := by omega
 have hs0 : 0 ≤ (step.toNat : Int) := by omega
 have hs9 : (step.toNat : Int) < 256 := by have := step.toNat_lt;omega
 obtain ⟨q,hq,hq2⟩ : ∃ q : Nat,(step.toNat : Int).tmod 9 = (q : Int) ∧ q < 9 := ⟨step.toNat % 9,by rw [Int.tmod_eq_emod_of_nonneg (by omega)];omega,by omega⟩
 have hq0 : 0 ≤ (q : Int) := by omega
 have hq9 : (q : Int) < 9 := by omega
 have HQ := Lib.hid hq2
 have HN := Lib.hid hn
 have H8 := Lib.hid h80
 have HLT := Lib.hid hl
 clear hg ha h80 hl hn hq2
 go_enter Tryz.func9,Tryz.ntmps9
 go_upto_region 8 with (first
  | (go_at_call 39;go_loud ((refine (begun21_calls _ (H.at 0 rfl)).mono ?_);rintro e W ⟨rfl,hb⟩;replace H := H.stay (Fix.of_below hb _);clear hb))
  | (go_at_call 29;go_loud ((refine (new21_calls H _ 200 174 rfl rfl (by omega) (by omega)).mono ?_);clear H;rintro e W ⟨s,rfl,hnew,H⟩;have HS := Lib.hid (Grove.start hnew (by omega));clear hnew)))
 obtain ⟨g0,hg0⟩ : ∃ g,s.g = g := ⟨_,rfl⟩
 rw [hg0]
 go_loopw [6,7] (fun rt u wr => ∃ (i r : Nat) (hs : List Nat) (ps : List PairT) (s : TX),rt = .int .u32 (r : Int) ∧ u = .int .i64 (i : Int) ∧ i ≤ n ∧ Hid (Grove s 174 r hs ps ∧ ps.length ≤ i ∧ Keyed ps) ∧ s.g = g0 ∧ St NoBlk (fun _ => True) w wr (s.L ++ [errA,rdA pz (u16V l)])) (fun _ u _ => n - (intOf u).toNat)
 case atStart => exact ⟨0,0,[],[],s,rfl,rfl,Nat.zero_le _,Lib.hid ⟨HS.out,Nat.le_refl _,Keyed.nil⟩,hg0,H⟩
 case round =>
  clear H HS hg0
  clear s
  obtain ⟨i,r,hs,ps,s,rfl,rfl,hi,HG,hg1,H⟩ := hrel
  subst hg1
  have hi0 : 0 ≤ (i : Int) := by omega
  rcases Nat.lt_or_ge i n with hlt | hge
  ·have hii : (i : Int) < (n : Int) := by omega
   have HI := Lib.hid hlt
   have HI8 := Lib.hid (show i < 80 by have := H8.out;omega)
   obtain ⟨x,hx⟩ : ∃ x,l[i]? = some x := ⟨_,List.getElem?_eq_getElem (by rw [HN.out];exact hlt)⟩
   obtain ⟨gz,oz,hpz,hcell⟩ : ∃ gz oz,pz = some ⟨gz,oz,none⟩ ∧ wr.cell? ⟨gz,oz + i,none⟩ = some (.int .u16 (x : Int)) := by
    obtain ⟨gz,oz,e,_⟩ := rdA_at (H.at 8 rfl) (u16V_at hx)
    subst e
    exact ⟨gz,oz,rfl,rdA_cell (H.at 8 rfl) (u16V_at hx)⟩
   subst hpz
   have HXL := Lib.hid (HLT.out x (List.mem_of_getElem? hx))
   have hx0 : 0 ≤ (x : Int) := by omega
   have hx9 : (x : Int) < 65536 := by have := HXL.out;omega
   clear hx hlt hi
   go_wp2_with (first
    | (go_at_call 41;go_loud ((refine (key21_calls x HXL.out _ (by first | rfl | omega) _).mono ?_);rintro e W ⟨rfl,hb⟩;replace H := H.stay (Fix.of_below hb _);clear hb hcell))
    | (go_at_call 42;go_loud ((refine (val21_calls i (by have := HI8.out;omega) _ (by first | rfl | omega) _).mono ?_);rintro e W ⟨rfl,hb⟩;replace H := H.stay (Fix.of_below hb _);clear hb))
    | (go_at_call 40;go_loud ((refine (put_grove (H.take 8).bundle HG.out.1 (keyN_len x) (valN_len i) (by have := HG.out.2.1;have := HI8.out;omega) _ rfl).mono ?_);rintro e W ⟨r',hs',s',ws,rfl,hgr,h0,hm,hws,hto⟩;replace H := hto.front (R := [rdA (some ⟨gz,oz,none⟩) (u16V l)]) H;have HG' := Lib.hid hgr;have HSG := Lib.hid hm.g;clear hgr h0 hm hws hto)))
   go_roundw
   case rel => exact ⟨i + 1,r',hs',_,s',rfl,congrArg _ (by omega),HI.out,Lib.hid ⟨HG'.out,by have h1 := HG.out.2.1;have h2 := ins_len (p := ⟨keyN x,valN i⟩) (l := ps);omega,HG.out.2.2.put HXL.out _⟩,HSG.out,H⟩
   case measure => have := HI.out;simp [intOf];omega
  ·obtain rfl : i = n := by omega
   have HPL := Lib.hid (show ps.length ≤ 80 from Nat.le_trans HG.out.2.1 H8.out)
   have HOK := Lib.hid (show ∀ p ∈ ps,PairOk p from HG.out.1.R.good)
   have HRS := Lib.hid HG.out.1.R.ris
   have HKY := Lib.hid HG.out.2.2
   obtain ⟨L,hL⟩ : ∃ L,ps.length = L := ⟨_,rfl⟩
   have HL := Lib.hid hL
   have hL0 : 0 ≤ (L : Int) := by omega
   have hL8 : (L : Int) ≤ 80 := by have := HPL.out;omega
   clear hi hge
   go_upto_region 18 with (first
    | (refine wpList_buildz rfl 67 rfl zeroKey built_zero ?_)
    | (go_at_call 45;go_loud ((have hsc := scan_all_calls (c := 0) (H.take 7).bundle HG.out.1.ok HG.out.1.R (r : Int) rfl zeroKey zeroKey_len kn_zero 1000 (by have := HPL.out;omega));rw [HL.out] at hsc;refine hsc.mono ?_;clear hsc;rintro e W ⟨pa,ca,rfl,hto⟩;replace H := hto.front2 (R := [errA,rdA pz (u16V l)]) H;clear hto))
    | (refine wpList_alloc_st H rfl 67 rfl _ zeroKey32 ?_;clear H;intro W gk H))
   replace H := H.addNil 80 40
   replace H : St NoBlk (fun _ => True) w _ (s.L ++ [errA,rdA pz (u16V l),ownS 80 40 pa L ca (pairV ps),blk gk (.cells (byteV zeroKey).toArray 67 (0,0)),ownS 80 40 none 0 0 (pairV [])]) := H
   clear hL
   go_loopw [12,14] (fun gv u wr => ∃ (c j : Nat) (pg : Option Addr) (cg : Nat) (k : List UInt8),gv = .slice pg c cg ∧ u = .int .i64 (j : Int) ∧ j ≤ c ∧ Hid (PieceP ps c k) ∧ St NoBlk (fun _ => True) w wr (s.L ++ [errA,rdA pz (u16V l),ownS 80 40 pa L ca (pairV ps),blk gk (.cells (byteV k).toArray 67 (0,0)),ownS 80 40 pg c cg (pairV (ps.take c))])) (fun _ u _ => 100 - (intOf u).toNat)
   case atStart => exact ⟨0,0,none,0,zeroKey,rfl,rfl,Nat.le_refl _,Lib.hid ⟨zeroKey_len,Nat.zero_le _,.inl ⟨rfl,kn_zero⟩⟩,H⟩
   case round =>
    clear H
    obtain ⟨c,j,pg,cg,k,rfl,rfl,hjc,HP,H⟩ := hrel
    have HJC := Lib.hid hjc
    have hcL : c ≤ L := by have h1 := HP.out.le;have h2 := HL.out;omega
    have hj0 : 0 ≤ (j : Int) := by omega
    have hj100 : (j : Int) < 100 := by omega
    have HKL := Lib.hid HP.out.len
    obtain ⟨X,hX⟩ : ∃ X,(ps.drop c).take (1 + q) = X := ⟨_,rfl⟩
    have HSC := Lib.hid (show scanOf (1 + (q : Int)) (kn k) ps = X by rw [HP.out.scan HRS.out,← hX];congr 1 <;> omega)
    obtain ⟨xl,hxl⟩ : ∃ xl,X.length = xl := ⟨_,rfl⟩
    have HXL := Lib.hid hxl
    have HX := Lib.hid hX
    have hxlv : xl = min (1 + q) (L - c) := by rw [← hxl,← hX,List.length_take,List.length_drop,HL.out]
    have HXV := Lib.hid hxlv
    have HXK := Lib.hid (show ∀ p ∈ X,PairOk p from fun p hp => HOK.out p (by rw [← hX] at hp;exact List.mem_of_mem_drop (List.mem_of_mem_take hp)))
    have hc0 : 0 ≤ (c : Int) := by omega
    have hc8 : (c : Int) ≤ 80 := by omega
    have HCL := Lib.hid hcL
    clear hX hxl hjc hcL hxlv
    go_upto_region 21 with (first
     | (refine wpList_loadarr_st rfl 67 _ rfl gk rfl k _ _ (H.at 10 rfl) _ Tryz.underlying67 rfl 32 sizeK32 HKL.out ?_)
     | (go_at_call 45;go_loud ((refine (Scan_calls (c := 0) (H.take 7).bundle HG.out.1.ok HG.out.1.R _ rfl k HKL.out (1 + (q : Int))).mono ?_);rw [HSC.out,HXL.out];rintro e W ⟨px,cx,rfl,hto⟩;replace H := hto.front2 (R := [errA,rdA pz (u16V l),ownS 80 40 pa L ca (pairV ps),blk gk (.cells (byteV k).toArray 67 (0,0)),ownS 80 40 pg c cg (pairV (ps.take c))]) H;clear hto)))
    replace H : St NoBlk (fun _ => True) w _ (s.L ++ [errA,rdA pz (u16V l),ownS 80 40 pa L ca (pairV ps),blk gk (.cells (byteV k).toArray 67 (0,0)),ownS 80 40 pg c cg (pairV (ps.take c)),ownS 80 40 px xl cx (pairV X)]) := H
    rcases Nat.eq_zero_or_pos xl with hz | hz
    ·subst hz
     obtain rfl : c = L := by have := HCL.out;have := HXV.out;omega
     rw [List.take_of_length_le (by rw [HL.out];exact Nat.le_refl _)] at H
     go_upto_region 29 with fail
     go_loopw [17] (fun u wr => ∃ (i : Nat),u = .int .i64 (i : Int) ∧ i ≤ c ∧ St NoBlk (fun _ => True) w wr (s.L ++ [errA,rdA pz (u16V l),ownS 80 40 pa c ca (pairV ps),blk gk (.cells (byteV k).toArray 67 (0,0)),ownS 80 40 pg c cg (pairV ps)])) (fun u _ => c - (intOf u).toNat)
     case atStart => exact ⟨0,rfl,Nat.zero_le _,H.take 12⟩
     case round =>
      clear H
      obtain ⟨i,rfl,hi,H⟩ := hrel
      have hi0 : 0 ≤ (i : Int) := by omega
      rcases Nat.lt_or_ge i c with hlt | hge
      ·have hii : (i : Int) < (c : Int) := by omega
       have HI := Lib.hid hlt
       obtain ⟨p,hp⟩ : ∃ p,ps[i]? = some p := ⟨_,List.getElem?_eq_getElem (by rw [HL.out];exact hlt)⟩
       have HPK := Lib.hid (HOK.out p (List.mem_of_getElem? hp))
       obtain ⟨ga,oa,e1,hc1⟩ := pairV_at (ownS_rd (H.at 9 rfl)) HOK.out i p hp
       obtain ⟨gg,og,e2,hc2⟩ := pairV_at (ownS_rd (H.at 11 rfl)) HOK.out i p hp
       subst e1 e2
       have HPB := Lib.hid (show (byteV p.b).length = 40 by rw [byteV_length];exact sizePairs p HPK.out)
       clear hi hlt hp
       go_upto_region 31 with fail
       replace H := H.drew
       refine wp_region_held_drew (S := fun w' => (∀ j u,(byteV p.b)[j]? = some u → w'.cell? ((⟨gg,og + i * 40,none⟩ : Addr).add j) = some u) ∧ ∀ j u,(byteV p.b)[j]? = some u → w'.cell? ((⟨ga,oa + i * 40,none⟩ : Addr).add j) = some u) (by kernel_rfl) ⟨hc2,hc1⟩ (fun hHeld => ?_)
       clear hc1 hc2
       (refine wpAnyH_take (i := 0) (v := ?_) rfl (by kernel_rfl) (by kernel_rfl) (by kernel_rfl) (fun _ _ _ h => h) (Or.inl ⟨by rfl,?_⟩) (by assumption) ?_;rotate_left;focus (intro w hSw;(try dsimp only at hSw);go_simp;all_goals (with_reducible rfl)));(try simp only [Act.put,rp1,rp2,rp3,rp4,rp5,rp6])
       (refine wpAnyH_take (i := 1) (v := ?_) rfl (by kernel_rfl) (by kernel_rfl) (by kernel_rfl) (fun _ _ _ h => h) (Or.inl ⟨by rfl,?_⟩) (by assumption) ?_;rotate_left;focus (intro w hSw;(try dsimp only at hSw);go_simp;all_goals (with_reducible rfl)));(try simp only [Act.put,rp1,rp2,rp3,rp4,rp5,rp6])
       (refine wpAnyH_take (i := 2) (v := ?_) rfl (by kernel_rfl) (by kernel_rfl) (by kernel_rfl) (fun _ _ _ h => h) (Or.inl ⟨by rfl,?_⟩) (by assumption) ?_;rotate_left;focus (intro w hSw;(try dsimp only at hSw);go_simp;all_goals (with_reducible rfl)));(try simp only [Act.put,rp1,rp2,rp3,rp4,rp5,rp6])
       (refine wpAnyH_take (i := 3) rfl (by kernel_rfl) (by kernel_rfl) (by kernel_rfl) (fun _ _ _ h => h) ((yieldsIf_cells (by rfl) 80 _ rfl ⟨gg,og + i * 40,none⟩ (by rfl) (byteV p.b) _ Tryz.underlying80 rfl (by rw [sizeP,HPB.out]) (fun w h => h.1))) (by assumption) ?_);(try simp only [Act.put,rp1,rp2,rp3,rp4,rp5,rp6])
       (refine wpAnyH_take (i := 4) (v := ?_) rfl (by kernel_rfl) (by kernel_rfl) (by kernel_rfl) (fun _ _ _ h => h) (Or.inl ⟨by rfl,?_⟩) (by assumption) ?_;rotate_left;focus (intro w hSw;(try dsimp only at hSw);go_simp;all_goals (with_reducible rfl)));(try simp only [Act.put,rp1,rp2,rp3,rp4,rp5,rp6])
       (refine wpAnyH_take (i := 5) (v := ?_) rfl (by kernel_rfl) (by kernel_rfl) (by kernel_rfl) (fun _ _ _ h => h) (Or.inl ⟨by rfl,?_⟩) (by assumption) ?_;rotate_left;focus (intro w hSw;(try dsimp only at hSw);go_simp;all_goals (with_reducible rfl)));(try simp only [Act.put,rp1,rp2,rp3,rp4,rp5,rp6])
       (refine wpAnyH_take (i := 6) (v := ?_) rfl (by kernel_rfl) (by kernel_rfl) (by kernel_rfl) (fun _ _ _ h => h) (Or.inl ⟨by rfl,?_⟩) (by assumption) ?_;rotate_left;focus (intro w hSw;(try dsimp only at hSw);go_simp;all_goals (with_reducible rfl)));(try simp only [Act.put,rp1,rp2,rp3,rp4,rp5,rp6])
       (refine wpAnyH_take (i := 7) rfl (by kernel_rfl) (by kernel_rfl) (by kernel_rfl) (fun _ _ _ h => h) ((yieldsIf_cells (by rfl) 80 _ rfl ⟨ga,oa + i * 40,none⟩ (by rfl) (byteV p.b) _ Tryz.underlying80 rfl (by rw [sizeP,HPB.out]) (fun w h => h.2))) (by assumption) ?_);(try simp only [Act.put,rp1,rp2,rp3,rp4,rp5,rp6])
       (refine wpAnyH_take (i := 8) rfl (by kernel_rfl) (by kernel_rfl) (by kernel_rfl) (fun _ _ _ h => h) ((yieldsIf_neqpair (by rfl) _ _ _ rfl p HPK.out (by rfl) (by rfl))) (by assumption) ?_);(try simp only [Act.put,rp1,rp2,rp3,rp4,rp5,rp6])
       (refine wpAnyH_done (by kernel_rfl) ?_ _)
       clear hHeld
       go_wp2
       go_roundw
       case rel => exact ⟨i + 1,congrArg _ (by omega),HI.out,H⟩
       case measure => have := HI.out;simp [intOf];omega
      ·obtain rfl : i = c := by omega
       go_wp2
       go_ret
       exact ⟨rfl,H.fix.below⟩
    ·have hxz : ¬ (xl : Int) = 0 := by omega
     have hx0 : 0 ≤ (xl : Int) := by omega
     have hx9 : (xl : Int) ≤ 9 := by have := HQ.out;have := HXV.out;omega
     obtain ⟨y,hy⟩ : ∃ y,y + 1 = xl := ⟨xl - 1,by omega⟩
     have hy1 : (xl : Int) - 1 = (y : Int) := by omega
     have hy0 : 0 ≤ (y : Int) := by omega
     have hyx : (y : Int) < (xl : Int) := by omega
     obtain ⟨pl,hpl⟩ : ∃ p,X[y]? = some p := ⟨_,List.getElem?_eq_getElem (by rw [HXL.out];omega)⟩
     have HPL2 := Lib.hid (show ps[c + xl - 1]? = some pl by
      have h1 := hpl
      rw [← HX.out,List.getElem?_take_of_lt (by have := HXV.out;omega),List.getElem?_drop] at h1
      rw [show c + xl - 1 = c + y by omega];exact h1)
     have HCX := Lib.hid (show c + xl ≤ ps.length by have h1 := HXV.out;have h2 := HL.out;have h3 := HCL.out;omega)
     have HTK := Lib.hid (show pairV (ps.take c) ++ pairV X = pairV (ps.take (c + xl)) by
      rw [← pairV_append,← HX.out]
      rw [show ps.take (c + xl) = ps.take c ++ (ps.drop c).take xl from List.take_add]
      congr 2
      have h1 := HXV.out
      have h2 := HL.out
      rcases Nat.le_total (1 + q) (L - c) with h3 | h3
      ·rw [show xl = 1 + q by omega]
      ·rw [List.take_of_length_le (by rw [List.length_drop];omega),List.take_of_length_le (by rw [List.length_drop];omega)])
     have HZP := Lib.hid hz
     have HPK := Lib.hid (HXK.out pl (List.mem_of_getElem? hpl))
     obtain ⟨xk,hxk1,hxk2⟩ := HKY.out pl (List.mem_of_getElem? HPL2.out)
     have HKN := Lib.hid (show kn pl.k + 1 < 256 ^ 32 by rw [hxk2];exact keyN_next hxk1)
     obtain ⟨gx,ox,e1,hc1⟩ := pairV_at (ownS_rd (H.at 12 rfl)) HXK.out y pl hpl
     subst e1
     have hcells := fun (W : World) (h : (ownS 80 40 (some ⟨gx,ox,none⟩) xl cx (pairV X)).prop W) => key_of_cells (pairV_cells (ownS_rd h) HXK.out y pl hpl)
     have HCE := Lib.hid hcells
     have HXC := Lib.hid (show (pairV X).length = xl * 40 by rw [pairV_len HXK.out,HXL.out])
     have HXC8 := Lib.hid (show xl ≤ 9 by omega)
     have hyl : y < xl := by omega
     have hxp : 0 < xl := by omega
     have HC80 := Lib.hid (show c ≤ 80 by omega)
     clear hpl hxk1 hxk2 hc1 hcells hz hy xk
     go_upto_region 25 with (first
      | (at_builtin;refine wpList_append_ownS H 11 rfl _ _ 76 rfl _ Tryz.underlying76 _ 40 40 infoP rfl (by omega) pg c cg (by rfl) _ rfl ⟨gx,ox,none⟩ xl cx (by rfl) (pairV X) HXC.out (fun i u hu => by rw [Addr.add_lit];exact rdA_cell (ownS_rd (H.at 12 rfl)) hu) (pairV_one _) HZP.out (by have := HXC8.out;have := HC80.out;simp only [maxLen];omega) (by have := HXC8.out;have := HC80.out;omega) ?_;clear H;intro W gn cn H))
     have hce := HCE.out _ (H.at 12 rfl)
     go_wp2_with (first
      | (refine wpList_load_cells rfl 67 _ rfl ⟨gx,ox + y * 40,none⟩ (by rfl) _ Tryz.underlying67 rfl (byteV pl.k) (by rw [sizeK,byteV_length,HPK.out.k]) hce ?_)
      | (go_at_call 47;go_loud ((refine (next21_calls pl.k HPK.out.k HKN.out _).mono ?_);rintro e W ⟨k',hk1,hk2,rfl,hb⟩;replace H := H.stay (Fix.of_below hb _);have HK1 := Lib.hid hk1;have HK2 := Lib.hid hk2;clear hb hce hk1 hk2))
      | (refine wpList_storearr_st H 10 rfl 67 _ _ rfl gk k' rfl rfl _ k rfl 32 sizeK32 HKL.out HK1.out ?_;clear H;intro W H))
     go_roundw
     case rel => exact ⟨c + xl,j + 1,_,cn,k',rfl,congrArg _ (by omega),by have := HJC.out;have := HZP.out;omega,Lib.hid (HP.out.step HZP.out HCX.out HPL2.out HK1.out HK2.out),by rw [HTK.out] at H;exact H.take 12⟩
     case measure => simp [intOf];omega
end Go.Proofs.YtlgciddnpinpbaaGreatDoor
