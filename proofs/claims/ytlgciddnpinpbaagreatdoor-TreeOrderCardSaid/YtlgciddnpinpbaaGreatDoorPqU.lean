/- Texts of this proof, packed. -/
import Derived.Test.YtlgciddnpinpbaaGreatDoorPkBase4
import Derived.Test.YtlgciddnpinpbaaGreatDoorPqA
import Derived.Test.YtlgciddnpinpbaaGreatDoorPqR
import Derived.Test.YtlgciddnpinpbaaGreatDoorPqB
import Derived.Test.YtlgciddnpinpbaaGreatDoorPqD
import Derived.Test.YtlgciddnpinpbaaGreatDoorPqI
import Derived.Test.YtlgciddnpinpbaaGreatDoorPqQ
import Derived.Test.YtlgciddnpinpbaaGreatDoorPqS
set_option linter.unusedSimpArgs false
set_option linter.unusedVariables false
namespace Go.Proofs.YtlgciddnpinpbaaGreatDoor
open Go.RowKit
set_option maxRecDepth 40000
theorem kn_zero : kn zeroKey = 0 := by decide +kernel
def stL (x h : Nat) (ps : List PairT) (deep : Nat) (r : Nat × Bool) : Prop := ps.length ≤ 6 ∧ r = (x + ps.length,true)
theorem walkR_len {frm : Nat} (v : Nat → List UInt8) : ∀ (d deep h : Nat) (hs : List Nat) (ps : List PairT) (x : Nat) (r : Nat × Bool),frm = 0 → WalkR stL frm v d deep h hs ps x r → r = (x + ps.length,true)
 | 0,deep,h,hs,ps,x,r,h0,hw => hw.2
 | d + 1,deep,h,hs,ps,x,r,h0,⟨ks1,ks2,a,b,hi,hl,hwy,hhs,hps,hw⟩ => by
  have ha : pairsOf a = [] := by
   refine List.eq_nil_iff_forall_not_mem.2 fun p hp => ?_
   obtain ⟨c,hc,hp⟩ := List.mem_flatMap.1 hp
   have hsep := hi.sep
   rw [List.map_append,List.map_append] at hsep
   obtain ⟨k',hk',hlt⟩ := last_of hsep (by simpa using hl) c.ns (List.mem_map.2 ⟨c,hc,rfl⟩) p.n (mem_ns.2 ⟨p,hp,rfl⟩)
   obtain ⟨k2,hk2,rfl⟩ := List.mem_map.1 hk'
   have := hwy.le k2 hk2
   omega
  have e : ps = pairsOf b := by rw [hps];simp only [pairsOf,List.flatMap_append] at ha ⊢;rw [ha,List.nil_append]
  rw [e]
  rcases hw with ⟨x1,h1,rfl⟩ | ⟨x1,h1,hf⟩
  ·have := h1.2;cases this
  ·obtain rfl : x1 = x := by have := h1.2;cases this;rfl
   have key : ∀ (b : List Sub) (x : Nat) (r : Nat × Bool),FoldR (fun (c : Sub) x r => WalkR stL frm v d (deep + 1) c.h c.hs c.ps x r) b x r → r = (x + (pairsOf b).length,true) := by
    intro b x r hf
    induction hf with
    | nil x => simp [pairsOf]
    | @go c cs x x' r h k ih =>
     have h1 := walkR_len v d _ _ _ _ _ _ h0 h
     cases h1
     rw [ih]
     simp [pairsOf,Nat.add_assoc]
    | @stop c cs x x' h =>
     have h1 := walkR_len v d _ _ _ _ _ _ h0 h
     cases h1
   exact key b _ r hf
set_option maxHeartbeats 2000000 in
theorem len_see (gm : Nat) : SeeOk 89 #[.pointer (some ⟨gm,0,none⟩)] (fun x : Nat => blk gm (.cells #[.int .i64 (x : Int)] 3 (0,0))) stL (fun x => x ≤ 12000) := by
 intro x g home lf pp n cp b c ps deep z W hVx hb hnl h6 hp hd hz
 subst hz
 have H := hb.open_
 obtain ⟨O,hO⟩ : ∃ O,ownL [blk gm (.cells #[.int .i64 (x : Int)] 3 (0,0)),nodeA g home lf (.slice pp n cp) b c,rdA pp (pairV ps)] = O := ⟨_,rfl⟩
 obtain ⟨R0,hR0⟩ : ∃ R,rdL [blk gm (.cells #[.int .i64 (x : Int)] 3 (0,0)),nodeA g home lf (.slice pp n cp) b c,rdA pp (pairV ps)] = R := ⟨_,rfl⟩
 rw [hO,hR0] at H ⊢
 have HN := Lib.hid hnl
 have H6 := Lib.hid h6
 have hx0 : 0 ≤ (x : Int) := by omega
 have hx9 : (x : Int) ≤ 12000 := by omega
 have hn0 : 0 ≤ (n : Int) := by omega
 have hn6 : (n : Int) ≤ 6 := by omega
 have hwr : IntKind.i64.wrap ((x : Int) + (n : Int)) = ((x + n : Nat) : Int) := by rw [IntKind.wrap_i64];omega
 have HWR := Lib.hid hwr
 obtain ⟨PP,hPP⟩ : ∃ PP : Ending → World → Prop,(fun e w' => ∃ r,stL x home ps deep r ∧ e = .returned (.bool r.2) ∧ BunTo W O R0 [blk gm (.cells #[.int .i64 (r.1 : Int)] 3 (0,0)),nodeA g home lf (.slice pp n cp) b c,rdA pp (pairV ps)] w') = PP := ⟨_,rfl⟩
 have HPP := Lib.hid hPP
 rw [hPP]
 clear hb hnl h6 hp hd hO hR0 hPP hVx hwr
 show Calls Tryz.prog 89 #[.pointer (some ⟨g,0,none⟩),.int .i64 (deep : Int),.pointer (some ⟨gm,0,none⟩)] W PP
 go_enter Tryz.func89,Tryz.ntmps89
 go_upto_region 1 with fail
 replace H := H.drew
 refine wp_region_T (fun w' => w'.cell? ⟨gm,0,none⟩ = some (.int .i64 (x : Int)) ∧ w'.cell? ⟨g,2,none⟩ = some (.slice pp n cp)) [7] (by kernel_rfl) ⟨row_cell (H.at 0 rfl) rfl,row_cell (H.at 1 rfl) (nRow2 _ _ _ _ _)⟩ (fun hHeld => ?_)
 (refine wpAnyT_take (i := 0) (f := 20) rfl (by kernel_rfl) (by kernel_rfl) (by kernel_rfl) (by kernel_rfl) (by kernel_rfl) (fun _ _ _ h => h) ((yieldsIf_load1 (by rfl) 3 _ rfl _ _ (by rfl) _ Tryz.underlying3 rfl _ (fun w h => h.1))) (by assumption) ?_);(try simp only [Act.put,rp1,rp2,rp3,rp4,rp5,rp6])
 (refine wpAnyT_take (i := 1) (f := 20) (v := ?_) rfl (by kernel_rfl) (by kernel_rfl) (by kernel_rfl) (by kernel_rfl) (by kernel_rfl) (fun _ _ _ h => h) (Or.inl ⟨by rfl,?_⟩) (by assumption) ?_;rotate_left;focus (intro w hSw;(try dsimp only at hSw);go_simp;all_goals (with_reducible rfl)));(try simp only [Act.put,rp1,rp2,rp3,rp4,rp5,rp6])
 (refine wpAnyT_take (i := 2) (f := 20) (v := ?_) rfl (by kernel_rfl) (by kernel_rfl) (by kernel_rfl) (by kernel_rfl) (by kernel_rfl) (fun _ _ _ h => h) (Or.inl ⟨by rfl,?_⟩) (by assumption) ?_;rotate_left;focus (intro w hSw;(try dsimp only at hSw);go_simp;all_goals (with_reducible rfl)));(try simp only [Act.put,rp1,rp2,rp3,rp4,rp5,rp6])
 (refine wpAnyT_take (i := 3) (f := 20) (v := ?_) rfl (by kernel_rfl) (by kernel_rfl) (by kernel_rfl) (by kernel_rfl) (by kernel_rfl) (fun _ _ _ h => h) (Or.inl ⟨by rfl,?_⟩) (by assumption) ?_;rotate_left;focus (intro w hSw;(try dsimp only at hSw);go_simp;all_goals (with_reducible rfl)));(try simp only [Act.put,rp1,rp2,rp3,rp4,rp5,rp6])
 (refine wpAnyT_take (i := 4) (f := 20) rfl (by kernel_rfl) (by kernel_rfl) (by kernel_rfl) (by kernel_rfl) (by kernel_rfl) (fun _ _ _ h => h) ((yieldsIf_load1 (by rfl) 76 _ rfl _ _ (by rfl) _ Tryz.underlying76 rfl _ (fun w h => h.2))) (by assumption) ?_);(try simp only [Act.put,rp1,rp2,rp3,rp4,rp5,rp6])
 (refine wpAnyT_take (i := 5) (f := 20) (v := ?_) rfl (by kernel_rfl) (by kernel_rfl) (by kernel_rfl) (by kernel_rfl) (by kernel_rfl) (fun _ _ _ h => h) (Or.inl ⟨by rfl,?_⟩) (by assumption) ?_;rotate_left;focus (intro w hSw;(try dsimp only at hSw);go_simp;all_goals (with_reducible rfl)));(try simp only [Act.put,rp1,rp2,rp3,rp4,rp5,rp6])
 (refine wpAnyT_take (i := 6) (f := 20) (v := ?_) rfl (by kernel_rfl) (by kernel_rfl) (by kernel_rfl) (by kernel_rfl) (by kernel_rfl) (fun _ _ _ h => h) (Or.inl ⟨by rfl,?_⟩) (by assumption) ?_;rotate_left;focus (intro w hSw;(try dsimp only at hSw);go_simp;all_goals (with_reducible rfl)));(try simp only [Act.put,rp1,rp2,rp3,rp4,rp5,rp6])
 try rw [HWR.out]
 (refine wpAnyT_one (i := 7) (by kernel_rfl) rfl (fun K hK => ?_));(rw [if_pos (by rfl)]);(refine wp_store1_st H 0 3 _ _ rfl gm 0 (.int .i64 ((x : Int) + (n : Int))) (by rfl) (by rfl) rfl _ _ rfl size_int (by simp) ?_;clear H;intro W1 H;refine hK.out _ _ (Or.inl ⟨7,by simp,by kernel_rfl⟩) ?_;clear hK K hHeld);(try simp only [Act.put,rp1,rp2,rp3,rp4,rp5,rp6])
 (refine wpAnyT_done (by kernel_rfl) ?_ _)
 go_wp2
 rw [← HPP.out]
 refine ⟨(x + n,true),⟨by rw [HN.out];exact H6.out,by rw [HN.out]⟩,rfl,St.bunTo ?_⟩
 exact (show St O R0 W W1 [blk gm (.cells #[.int .i64 ((x + n : Nat) : Int)] 3 (0,0)),nodeA g home lf (.slice pp n cp) b c,rdA pp (pairV ps)] from H)
set_option maxHeartbeats 4000000 in
theorem Len_calls {w : World} {s : TX} {c r : Nat} {hs : List Nat} {ps : List PairT} (hb : Bundle w s.L) (h0 : s.Ok c) (R : Root s r hs ps) (z : Int) (hz : (r : Int) = z) :
  Calls Tryz.prog 55 #[.pointer (some ⟨s.g,0,none⟩),.int .u32 z] w fun e w' => e = .returned (.tuple #[.int .i64 (ps.length : Int),.int .i64 0]) ∧ BunTo w (ownL s.L) (rdL s.L) s.L w' := by
 subst hz
 have H := hb.open_
 obtain ⟨O,hO⟩ : ∃ O,ownL s.L = O := ⟨_,rfl⟩
 obtain ⟨R0,hR0⟩ : ∃ R,rdL s.L = R := ⟨_,rfl⟩
 rw [hO,hR0] at H ⊢
 have HO := Lib.hid h0
 have HR := Lib.hid R
 obtain ⟨PP,hPP⟩ : ∃ PP : Ending → World → Prop,(fun e w' => e = .returned (.tuple #[.int .i64 (ps.length : Int),.int .i64 0]) ∧ BunTo w O R0 s.L w') = PP := ⟨_,rfl⟩
 have HPP := Lib.hid hPP
 rw [hPP]
 have R1 := R.is
 clear hb h0 R hO hR0 hPP
 rcases R1 with ⟨rfl,rfl,rfl⟩ | ⟨d,sz,h1,T⟩
 ·go_enter Tryz.func55,Tryz.ntmps55
  go_upto_region 5 with (first
   | (refine wpList_alloc_st H rfl 3 rfl _ zero_i64 ?_;clear H;intro W gm H)
   | (refine wpList_store1_st H 7 rfl 3 _ _ rfl gm 0 (.int .i64 0) (by rfl) (by rfl) rfl _ _ rfl size_int (by first | simp | (show 0 < 1;omega)) ?_;clear H;intro W H;replace H : St O R0 w W (s.L ++ [blk gm (.cells #[.int .i64 ((0 : Nat) : Int)] 3 (0,0))]) := H)
   | (refine wpList_buildz rfl 67 rfl zeroKey built_zero ?_)
   | (go_at_call 81;go_loud ((refine (walks_none (s := s) (H.take 8).bundle HO.out zeroKey).mono ?_);rintro e W ⟨rfl,hto⟩;replace H := BunTo.front (R := []) hto (by rw [List.append_nil];exact H);rw [List.append_nil] at H;clear hto)))
  have hf := row_cell (H.at 7 rfl) (off := 0) (v := .int .i64 ((0 : Nat) : Int)) rfl
  go_wp2
  rw [← HPP.out]
  exact ⟨rfl,St.bunTo (H.take 7)⟩
 ·have HT := Lib.hid T
  have H1 := Lib.hid h1
  clear T h1
  go_enter Tryz.func55,Tryz.ntmps55
  go_upto_region 5 with (first
   | (refine wpList_alloc_st H rfl 3 rfl _ zero_i64 ?_;clear H;intro W gm H)
   | (refine wpList_store1_st H 7 rfl 3 _ _ rfl gm 0 (.int .i64 0) (by rfl) (by rfl) rfl _ _ rfl size_int (by first | simp | (show 0 < 1;omega)) ?_;clear H;intro W H;replace H : St O R0 w W (s.L ++ [blk gm (.cells #[.int .i64 ((0 : Nat) : Int)] 3 (0,0))]) := H)
   | (refine wpList_buildz rfl 67 rfl zeroKey built_zero ?_)
   | (go_at_call 81;go_loud ((refine (walks_some (x := 0) (len_see gm) (enters_of Tryz.func89 (by kernel_rfl) rfl) (Vq := fun q x => x ≤ 6 * q) (fun q x hq hx => by omega) (fun q x h ps deep x' hx hst => by have h5 := hst.1;have h6 : x' = x + ps.length := by { have := hst.2;cases this;rfl };omega) H.bundle (Nat.zero_le _) HO.out HT.out.lies HT.out.held H1.out zeroKey_len _ rfl).mono ?_);rintro e W ⟨y,hy,rfl,hto⟩;have hy2 := walkR_len _ _ _ _ _ _ _ _ kn_zero hy;subst hy2;clear hy;replace H := BunTo.front (R := []) hto (by rw [List.append_nil];exact H);rw [List.append_nil] at H;clear hto)))
  obtain ⟨D,hD⟩ : ∃ D,0 + ps.length = D := ⟨_,rfl⟩
  have HDD := Lib.hid (show ps.length = D by omega)
  have H2 : St O R0 w W (s.L ++ [blk gm (.cells #[.int .i64 (D : Int)] 3 (0,0))]) := by rw [← hD];exact H
  clear H hD
  have hf := row_cell (H2.at 7 rfl) (off := 0) (v := .int .i64 (D : Int)) rfl
  go_wp2
  rw [← HPP.out,HDD.out]
  exact ⟨rfl,St.bunTo (H2.take 7)⟩
end Go.Proofs.YtlgciddnpinpbaaGreatDoor
