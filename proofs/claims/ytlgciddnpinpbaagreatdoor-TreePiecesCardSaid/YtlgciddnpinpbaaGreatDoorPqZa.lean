/- Texts of this proof, packed. -/
import Derived.Test.YtlgciddnpinpbaaGreatDoorPkBase4
import Derived.Test.YtlgciddnpinpbaaGreatDoorPqB
import Derived.Test.YtlgciddnpinpbaaGreatDoorPqC
import Derived.Test.YtlgciddnpinpbaaGreatDoorPqK
import Derived.Test.YtlgciddnpinpbaaGreatDoorPqX
import Derived.Test.YtlgciddnpinpbaaGreatDoorPqZ
set_option linter.unusedSimpArgs false
set_option linter.unusedVariables false
namespace Go.Proofs.YtlgciddnpinpbaaGreatDoor
open Go.RowKit
set_option maxRecDepth 40000
theorem kn_append : ∀ a b : List UInt8,kn (a ++ b) = kn a * 256 ^ b.length + kn b
 | [],b => by simp [kn]
 | x :: a,b => by
  rw [List.cons_append,kn,kn_append a b,kn,List.length_append,Nat.pow_add,Nat.add_mul,Nat.mul_assoc]
  omega
theorem kn_fulls : ∀ m : Nat,kn (List.replicate m 255) + 1 = 256 ^ m
 | 0 => rfl
 | m + 1 => by
  rw [List.replicate_succ,kn,List.length_replicate,Nat.add_assoc,kn_fulls m,Nat.pow_succ,show (255 : UInt8).toNat = 255 from rfl]
  omega
theorem kn_noughts (m : Nat) : kn (List.replicate m 0) = 0 := by
 have := kn_zeros m []
 rw [List.append_nil] at this
 rw [this];rfl
theorem kn_next (p : List UInt8) (x : UInt8) (m : Nat) (hx : x.toNat < 255) : kn (p ++ (x + 1) :: List.replicate m 0) = kn (p ++ x :: List.replicate m 255) + 1 := by
 have h := kn_fulls m
 have e : (x + 1).toNat = x.toNat + 1 := by rw [UInt8.toNat_add];simp;omega
 rw [kn_append,kn_append,kn,kn,kn_noughts,e,Nat.add_mul]
 simp only [List.length_cons,List.length_replicate]
 omega
theorem key_split (k : List UInt8) (i : Nat) (h : i < k.length) : k = k.take i ++ k.getD i 0 :: k.drop (i + 1) := by
 have e : k.getD i 0 = k[i] := by rw [List.getD_eq_getElem?_getD,List.getElem?_eq_getElem h];rfl
 rw [e,← List.drop_eq_getElem_cons h,List.take_append_drop]
set_option maxHeartbeats 4000000 in
theorem next21_calls (k : List UInt8) (hk : k.length = 32) (hlt : kn k + 1 < 256 ^ 32) (w : World) : Calls Tryz.prog 47 #[arrV k] w fun e w' => ∃ k' : List UInt8,k'.length = 32 ∧ kn k' = kn k + 1 ∧ e = .returned (arrV k') ∧ Below w.heap.size w w' := by
 have H := St.nil NoBlk NoBlk w
 have HK := Lib.hid hk
 have HLT := Lib.hid hlt
 clear hk hlt
 have tok1 : True := trivial
 go_enter Tryz.func47,Tryz.ntmps47
 go_upto_region 2 with (first
  | (refine wpList_box_st H rfl 67 _ rfl (arrV k) rfl ?_;clear H;intro W ga H)
  | (refine wpList_alloc_st H rfl 67 rfl _ zeroK ?_;clear H;intro W gb H))
 replace H : St NoBlk NoBlk w _ [blk ga (.cells (byteV k).toArray 67 (0,0)),blk gb (.cells (List.replicate 32 (Value.int .u8 0)).toArray 67 (0,0))] := H
 go_loopw [3] (fun u wr => ∃ (j : Nat) (z : Int) (c : List UInt8),u = .int .i64 z ∧ z + 1 = j ∧ j ≤ 32 ∧ Hid (k.drop j = List.replicate (32 - j) 255) ∧ Hid (c = k.take j ++ List.replicate (32 - j) 0) ∧ St NoBlk NoBlk w wr [blk ga (.cells (byteV c).toArray 67 (0,0)),blk gb (.cells (List.replicate 32 (Value.int .u8 0)).toArray 67 (0,0))]) (fun u _ => (intOf u + 1).toNat)
 case atStart => exact ⟨32,31,k,rfl,rfl,by omega,Lib.hid (by rw [List.drop_of_length_le (by rw [HK.out];exact Nat.le_refl _)];rfl),Lib.hid (by rw [List.take_of_length_le (by rw [HK.out];exact Nat.le_refl _)];simp),H⟩
 case round =>
  clear H
  obtain ⟨j,z,c,rfl,hz,hj,HD,HC,H⟩ := hrel
  rcases Nat.eq_zero_or_pos j with hj0 | hj0
  ·exfalso
   have h1 := HD.out
   have h2 := HLT.out
   rw [hj0,List.drop_zero] at h1
   have h3 := kn_fulls 32
   rw [h1] at h2
   simp only [Nat.sub_zero] at h2
   omega
  obtain ⟨i,rfl⟩ : ∃ i,j = i + 1 := ⟨j - 1,by omega⟩
  obtain rfl : z = (i : Int) := by omega
  have hi0 : 0 ≤ (i : Int) := by omega
  have hii : (i : Int) < 32 := by omega
  have HI := Lib.hid (show i < 32 by omega)
  obtain ⟨x,hx⟩ : ∃ x,k.getD i 0 = x := ⟨_,rfl⟩
  have hsp := key_split k i (by rw [HK.out];exact HI.out)
  rw [hx,HD.out] at hsp
  have hti : (k.take i).length = i := by rw [List.length_take,HK.out];have := HI.out;omega
  have hc : c = k.take i ++ x :: List.replicate (32 - (i + 1)) 0 := by
   have h1 : k.take (i + 1) = k.take i ++ [x] := by
    rw [List.take_add_one,← hx,List.getD_eq_getElem?_getD,List.getElem?_eq_getElem (by rw [HK.out];exact HI.out)];rfl
   rw [HC.out,h1,List.append_assoc];rfl
  have hcl : c.length = 32 := by rw [hc,List.length_append,hti,List.length_cons,List.length_replicate];have := HI.out;omega
  have hcx : c.getD i 0 = x := by rw [hc,List.getD_eq_getElem?_getD,List.getElem?_append_right (by omega),hti];simp
  have hcs : c.set i (x + 1) = k.take i ++ (x + 1) :: List.replicate (32 - (i + 1)) 0 := by rw [hc,List.set_append_right _ _ (by omega),hti];simp
  have ca := byteV_at c i (by rw [hcl];exact HI.out)
  rw [hcx] at ca
  have cb := byteV_at (c.set i (x + 1)) i (by rw [List.length_set,hcl];exact HI.out)
  have hgx : (c.set i (x + 1)).getD i 0 = x + 1 := by rw [List.getD_eq_getElem?_getD,List.getElem?_set_self (by rw [hcl];exact HI.out)];rfl
  rw [hgx] at cb
  have HCA := Lib.hid ca
  have HCB := Lib.hid cb
  have HCL := Lib.hid hcl
  have HCS := Lib.hid hcs
  have HSP := Lib.hid hsp
  have HW := Lib.hid (show ((x.toNat : Int) + 1) % 256 = ((x + 1).toNat : Int) by rw [UInt8.toNat_add];simp)
  have hx9 : (x.toNat : Int) < 256 := by have := x.toNat_lt;omega
  obtain ⟨y,hy⟩ : ∃ y,x + 1 = y := ⟨_,rfl⟩
  rw [hy] at HCB HCS HW
  have HY := Lib.hid hy
  clear hx hsp hti hc hcl hcx hcs ca cb hgx hy hj hj0 hz
  go_upto_region 5 with (first
   | (refine wpList_load1_st rfl 5 _ rfl ga i (by rfl) _ _ _ (H.at 0 rfl) _ Tryz.underlying5 rfl _ HCA.out ?_)
   | (rw [HW.out];refine wpList_store1_st H 0 rfl 5 _ _ rfl ga i (.int .u8 (y.toNat : Int)) (by rfl) (by rfl) rfl _ _ rfl size_u8 (by first | (simp [byteV_length,HCL.out];done) | (simp [byteV_length,HCL.out];exact HI.out)) ?_;clear H;intro W H;rw [byteV_set] at H))
  replace H : St NoBlk NoBlk w _ [blk ga (.cells (byteV (c.set i y)).toArray 67 (0,0)),blk gb (.cells (List.replicate 32 (Value.int .u8 0)).toArray 67 (0,0))] := H
  have HYX := Lib.hid (show y.toNat = (x.toNat + 1) % 256 by rw [← HY.out,UInt8.toNat_add];simp)
  have HDI := Lib.hid (show k.drop i = x :: List.replicate (32 - (i + 1)) 255 by
   have hti : (k.take i).length = i := by rw [List.length_take,HK.out];have := HI.out;omega
   have h := congrArg (List.drop i) HSP.out
   rw [List.drop_left' hti] at h
   exact h)
  have HRP := Lib.hid (show 32 - i = (32 - (i + 1)) + 1 by have := HI.out;omega)
  rcases Decidable.em ((y.toNat : Int) = 0) with hy0 | hy0
  ·go_wp2_with (first
    | (refine wpList_load1_st rfl 5 _ rfl ga i (by rfl) _ _ _ (H.at 0 rfl) _ Tryz.underlying5 rfl _ HCB.out ?_))
   go_roundw
   case rel => exact ⟨i,(i : Int) - 1,c.set i y,rfl,by omega,by omega,Lib.hid (by rw [HDI.out,HRP.out,List.replicate_succ,show x = 255 from UInt8.toNat_inj.1 (by have := HYX.out;have := x.toNat_lt;show x.toNat = 255;omega)]),Lib.hid (by rw [HCS.out,HRP.out,List.replicate_succ,show y = 0 from UInt8.toNat_inj.1 (by show y.toNat = 0;omega)]),H⟩
   case measure => simp [intOf]
  ·have HYP := Lib.hid hy0
   go_wp2_with (first
    | (refine wpList_load1_st rfl 5 _ rfl ga i (by rfl) _ _ _ (H.at 0 rfl) _ Tryz.underlying5 rfl _ HCB.out ?_)
    | (refine wpList_loadrow_st rfl 67 _ rfl ga rfl _ _ _ (H.at 0 rfl) _ Tryz.underlying67 rfl (size_key32 _ (by rw [List.length_set];exact HCL.out)) ?_)
    | (refine wpList_storerow_st H 1 rfl 67 _ _ rfl gb (byteV (c.set i y)).toArray rfl rfl _ _ rfl (size_key32 _ (by rw [List.length_set];exact HCL.out)) (by simp [byteV_length,HCL.out]) (byteV_all _) ?_;clear H;intro W H))
   refine bodyPost_ret (results_cell_row rfl _ _ gb _ _ _ _ rfl (H.at 1 rfl) Tryz.underlying67 rfl (size_key32 _ (by rw [List.length_set];exact HCL.out))) rfl ?_
   refine ⟨c.set i y,by rw [List.length_set];exact HCL.out,?_,rfl,H.fix.below⟩
   have h2 := kn_next (k.take i) x (32 - (i + 1)) (by have := HYX.out;have := HYP.out;have := x.toNat_lt;omega)
   rw [HY.out] at h2
   rw [HCS.out,h2,← HSP.out]
end Go.Proofs.YtlgciddnpinpbaaGreatDoor
