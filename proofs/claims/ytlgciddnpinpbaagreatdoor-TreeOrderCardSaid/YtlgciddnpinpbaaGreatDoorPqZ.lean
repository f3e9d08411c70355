/- Texts of this proof, packed. -/
import Derived.Test.YtlgciddnpinpbaaGreatDoorPkBase4
import Derived.Test.YtlgciddnpinpbaaGreatDoorPqR
import Derived.Test.YtlgciddnpinpbaaGreatDoorPqB
set_option linter.unusedSimpArgs false
set_option linter.unusedVariables false
namespace Go.Proofs.YtlgciddnpinpbaaGreatDoor
open Go.RowKit
set_option maxRecDepth 40000
theorem kn_first : ∀ (i : Nat) (a b : List UInt8),a.length = b.length → i < a.length → a.take i = b.take i → a.getD i 0 ≠ b.getD i 0 → (kn a < kn b ↔ (a.getD i 0).toNat < (b.getD i 0).toNat)
 | _,[],_,_,h,_,_ => by simp at h
 | _,_ :: _,[],hl,_,_,_ => by simp at hl
 | 0,x :: a,y :: b,hl,_,_,hne => by
  have hl' : a.length = b.length := by simpa using hl
  simp only [List.getD_cons_zero] at hne ⊢
  have hn : x.toNat ≠ y.toNat := fun h => hne (UInt8.toNat_inj.1 h)
  constructor
  ·intro h
   rcases Nat.lt_or_ge x.toNat y.toNat with h1 | h1
   ·exact h1
   ·have := kn_cons_lt (a := y) (b := x) hl'.symm (by omega);omega
  ·exact fun h => kn_cons_lt hl' h
 | i + 1,x :: a,y :: b,hl,hi,ht,hne => by
  have hl' : a.length = b.length := by simpa using hl
  simp only [List.take_succ_cons,List.cons.injEq] at ht
  obtain ⟨rfl,ht⟩ := ht
  simp only [List.getD_cons_succ] at hne ⊢
  rw [← kn_first i a b hl' (by simpa using hi) ht hne,kn,kn,hl']
  omega
theorem byteV_at (a : List UInt8) (i : Nat) (h : i < a.length) : (byteV a).toArray[i]? = some (.int .u8 ((a.getD i 0).toNat : Int)) := by
 simp [byteV,List.getElem?_eq_getElem h,List.getD_eq_getElem?_getD]
theorem take_more {a b : List UInt8} {i : Nat} (hl : a.length = b.length) (hi : i < a.length) (h : a.take i = b.take i) (he : a.getD i 0 = b.getD i 0) : a.take (i + 1) = b.take (i + 1) := by
 rw [List.take_add_one,List.take_add_one,h]
 congr 1
 rw [List.getD_eq_getElem?_getD,List.getD_eq_getElem?_getD,List.getElem?_eq_getElem hi,List.getElem?_eq_getElem (by omega)] at he
 rw [List.getElem?_eq_getElem hi,List.getElem?_eq_getElem (show i < b.length by omega)]
 simpa using he
set_option maxHeartbeats 4000000 in
theorem less21_calls (a b : List UInt8) (ha : a.length = 32) (hb : b.length = 32) (w : World) : Calls Tryz.prog 46 #[arrV a,arrV b] w fun e w' => e = .returned (.bool (decide (kn a < kn b))) ∧ Below w.heap.size w w' := by
 have H := St.nil NoBlk NoBlk w
 have HA := Lib.hid ha
 have HB := Lib.hid hb
 clear ha hb
 have tok1 : True := trivial
 have tok2 : True := trivial
 go_enter Tryz.func46,Tryz.ntmps46
 go_upto_region 2 with (first
  | (have _t := tok1;clear _t;refine wpList_box_st H rfl 67 _ rfl (arrV a) rfl ?_;clear H tok1;intro W ga H)
  | (have _t := tok2;clear _t;refine wpList_box_st H rfl 67 _ rfl (arrV b) rfl ?_;clear H tok2;intro W gb H))
 replace H : St NoBlk NoBlk w _ [blk ga (.cells (byteV a).toArray 67 (0,0)),blk gb (.cells (byteV b).toArray 67 (0,0))] := H
 go_loopw [5] (fun u wr => ∃ i : Nat,u = .int .i64 (i : Int) ∧ i ≤ 32 ∧ Hid (a.take i = b.take i) ∧ St NoBlk NoBlk w wr [blk ga (.cells (byteV a).toArray 67 (0,0)),blk gb (.cells (byteV b).toArray 67 (0,0))]) (fun u _ => 32 - (intOf u).toNat)
 case atStart => exact ⟨0,rfl,by omega,Lib.hid rfl,H⟩
 case round =>
  clear H
  obtain ⟨i,rfl,hi,HT,H⟩ := hrel
  have hi0 : 0 ≤ (i : Int) := by omega
  rcases Nat.lt_or_ge i 32 with hlt | hge
  ·have hii : (i : Int) < 32 := by omega
   have HI := Lib.hid hlt
   have ca := byteV_at a i (by rw [HA.out];exact hlt)
   have cb := byteV_at b i (by rw [HB.out];exact hlt)
   obtain ⟨x,hx⟩ : ∃ x,a.getD i 0 = x := ⟨_,rfl⟩
   obtain ⟨y,hy⟩ : ∃ y,b.getD i 0 = y := ⟨_,rfl⟩
   rw [hx] at ca
   rw [hy] at cb
   have HX := Lib.hid hx
   have HY := Lib.hid hy
   have HCA := Lib.hid ca
   have HCB := Lib.hid cb
   have hx9 : (x.toNat : Int) < 256 := by have := x.toNat_lt;omega
   have hy9 : (y.toNat : Int) < 256 := by have := y.toNat_lt;omega
   clear hi hlt hx hy ca cb
   rcases Decidable.em ((x.toNat : Int) = (y.toNat : Int)) with hxy | hxy
   ·go_upto_region 4 with fail
    replace H := H.drew
    refine wp_region_held_drew (S := fun w' => w'.cell? ⟨ga,i,none⟩ = some (.int .u8 (x.toNat : Int)) ∧ w'.cell? ⟨gb,i,none⟩ = some (.int .u8 (y.toNat : Int))) (by kernel_rfl) ⟨row_cell (H.at 0 rfl) HCA.out,row_cell (H.at 1 rfl) HCB.out⟩ (fun hHeld => ?_)
    (refine wpAnyH_take (i := 0) (v := ?_) rfl (by kernel_rfl) (by kernel_rfl) (by kernel_rfl) (fun _ _ _ h => h) (Or.inl ⟨by rfl,?_⟩) (by assumption) ?_;rotate_left;focus (intro w hSw;(try dsimp only at hSw);go_simp;all_goals (with_reducible rfl)));(try simp only [Act.put,rp1,rp2,rp3,rp4,rp5,rp6])
    (refine wpAnyH_take (i := 1) (v := ?_) rfl (by kernel_rfl) (by kernel_rfl) (by kernel_rfl) (fun _ _ _ h => h) (Or.inl ⟨by rfl,?_⟩) (by assumption) ?_;rotate_left;focus (intro w hSw;(try dsimp only at hSw);go_simp;all_goals (with_reducible rfl)));(try simp only [Act.put,rp1,rp2,rp3,rp4,rp5,rp6])
    (refine wpAnyH_take (i := 2) rfl (by kernel_rfl) (by kernel_rfl) (by kernel_rfl) (fun _ _ _ h => h) (yieldsIf_load1 (by rfl) 5 _ rfl _ _ (by rfl) _ Tryz.underlying5 rfl _ (fun w h => h.1)) (by assumption) ?_);(try simp only [Act.put,rp1,rp2,rp3,rp4,rp5,rp6])
    (refine wpAnyH_take (i := 3) (v := ?_) rfl (by kernel_rfl) (by kernel_rfl) (by kernel_rfl) (fun _ _ _ h => h) (Or.inl ⟨by rfl,?_⟩) (by assumption) ?_;rotate_left;focus (intro w hSw;(try dsimp only at hSw);go_simp;all_goals (with_reducible rfl)));(try simp only [Act.put,rp1,rp2,rp3,rp4,rp5,rp6])
    (refine wpAnyH_take (i := 4) (v := ?_) rfl (by kernel_rfl) (by kernel_rfl) (by kernel_rfl) (fun _ _ _ h => h) (Or.inl ⟨by rfl,?_⟩) (by assumption) ?_;rotate_left;focus (intro w hSw;(try dsimp only at hSw);go_simp;all_goals (with_reducible rfl)));(try simp only [Act.put,rp1,rp2,rp3,rp4,rp5,rp6])
    (refine wpAnyH_take (i := 5) rfl (by kernel_rfl) (by kernel_rfl) (by kernel_rfl) (fun _ _ _ h => h) (yieldsIf_load1 (by rfl) 5 _ rfl _ _ (by rfl) _ Tryz.underlying5 rfl _ (fun w h => h.2)) (by assumption) ?_);(try simp only [Act.put,rp1,rp2,rp3,rp4,rp5,rp6])
    (refine wpAnyH_take (i := 6) (v := ?_) rfl (by kernel_rfl) (by kernel_rfl) (by kernel_rfl) (fun _ _ _ h => h) (Or.inl ⟨by rfl,?_⟩) (by assumption) ?_;rotate_left;focus (intro w hSw;(try dsimp only at hSw);go_simp;all_goals (with_reducible rfl)));(try simp only [Act.put,rp1,rp2,rp3,rp4,rp5,rp6])
    (refine wpAnyH_done (by kernel_rfl) ?_ _)
    go_wp2
    go_roundw
    case rel => exact ⟨i + 1,congrArg _ (by omega),HI.out,Lib.hid (take_more (by rw [HA.out,HB.out]) (by rw [HA.out];exact HI.out) HT.out (by rw [HX.out,HY.out];exact UInt8.toNat_inj.1 (by omega))),H⟩
    case measure => have := HI.out;simp [intOf];omega
   ·go_upto_region 4 with fail
    replace H := H.drew
    refine wp_region_held_drew (S := fun w' => w'.cell? ⟨ga,i,none⟩ = some (.int .u8 (x.toNat : Int)) ∧ w'.cell? ⟨gb,i,none⟩ = some (.int .u8 (y.toNat : Int))) (by kernel_rfl) ⟨row_cell (H.at 0 rfl) HCA.out,row_cell (H.at 1 rfl) HCB.out⟩ (fun hHeld => ?_)
    (refine wpAnyH_take (i := 0) (v := ?_) rfl (by kernel_rfl) (by kernel_rfl) (by kernel_rfl) (fun _ _ _ h => h) (Or.inl ⟨by rfl,?_⟩) (by assumption) ?_;rotate_left;focus (intro w hSw;(try dsimp only at hSw);go_simp;all_goals (with_reducible rfl)));(try simp only [Act.put,rp1,rp2,rp3,rp4,rp5,rp6])
    (refine wpAnyH_take (i := 1) (v := ?_) rfl (by kernel_rfl) (by kernel_rfl) (by kernel_rfl) (fun _ _ _ h => h) (Or.inl ⟨by rfl,?_⟩) (by assumption) ?_;rotate_left;focus (intro w hSw;(try dsimp only at hSw);go_simp;all_goals (with_reducible rfl)));(try simp only [Act.put,rp1,rp2,rp3,rp4,rp5,rp6])
    (refine wpAnyH_take (i := 2) rfl (by kernel_rfl) (by kernel_rfl) (by kernel_rfl) (fun _ _ _ h => h) (yieldsIf_load1 (by rfl) 5 _ rfl _ _ (by rfl) _ Tryz.underlying5 rfl _ (fun w h => h.1)) (by assumption) ?_);(try simp only [Act.put,rp1,rp2,rp3,rp4,rp5,rp6])
    (refine wpAnyH_take (i := 3) (v := ?_) rfl (by kernel_rfl) (by kernel_rfl) (by kernel_rfl) (fun _ _ _ h => h) (Or.inl ⟨by rfl,?_⟩) (by assumption) ?_;rotate_left;focus (intro w hSw;(try dsimp only at hSw);go_simp;all_goals (with_reducible rfl)));(try simp only [Act.put,rp1,rp2,rp3,rp4,rp5,rp6])
    (refine wpAnyH_take (i := 4) (v := ?_) rfl (by kernel_rfl) (by kernel_rfl) (by kernel_rfl) (fun _ _ _ h => h) (Or.inl ⟨by rfl,?_⟩) (by assumption) ?_;rotate_left;focus (intro w hSw;(try dsimp only at hSw);go_simp;all_goals (with_reducible rfl)));(try simp only [Act.put,rp1,rp2,rp3,rp4,rp5,rp6])
    (refine wpAnyH_take (i := 5) rfl (by kernel_rfl) (by kernel_rfl) (by kernel_rfl) (fun _ _ _ h => h) (yieldsIf_load1 (by rfl) 5 _ rfl _ _ (by rfl) _ Tryz.underlying5 rfl _ (fun w h => h.2)) (by assumption) ?_);(try simp only [Act.put,rp1,rp2,rp3,rp4,rp5,rp6])
    (refine wpAnyH_take (i := 6) (v := ?_) rfl (by kernel_rfl) (by kernel_rfl) (by kernel_rfl) (fun _ _ _ h => h) (Or.inl ⟨by rfl,?_⟩) (by assumption) ?_;rotate_left;focus (intro w hSw;(try dsimp only at hSw);go_simp;all_goals (with_reducible rfl)));(try simp only [Act.put,rp1,rp2,rp3,rp4,rp5,rp6])
    (refine wpAnyH_done (by kernel_rfl) ?_ _)
    go_upto_region 5 with fail
    replace H := H.drew
    refine wp_region_held_drew (S := fun w' => w'.cell? ⟨ga,i,none⟩ = some (.int .u8 (x.toNat : Int)) ∧ w'.cell? ⟨gb,i,none⟩ = some (.int .u8 (y.toNat : Int))) (by kernel_rfl) ⟨row_cell (H.at 0 rfl) HCA.out,row_cell (H.at 1 rfl) HCB.out⟩ (fun hHeld => ?_)
    (refine wpAnyH_take (i := 0) (v := ?_) rfl (by kernel_rfl) (by kernel_rfl) (by kernel_rfl) (fun _ _ _ h => h) (Or.inl ⟨by rfl,?_⟩) (by assumption) ?_;rotate_left;focus (intro w hSw;(try dsimp only at hSw);go_simp;all_goals (with_reducible rfl)));(try simp only [Act.put,rp1,rp2,rp3,rp4,rp5,rp6])
    (refine wpAnyH_take (i := 1) (v := ?_) rfl (by kernel_rfl) (by kernel_rfl) (by kernel_rfl) (fun _ _ _ h => h) (Or.inl ⟨by rfl,?_⟩) (by assumption) ?_;rotate_left;focus (intro w hSw;(try dsimp only at hSw);go_simp;all_goals (with_reducible rfl)));(try simp only [Act.put,rp1,rp2,rp3,rp4,rp5,rp6])
    (refine wpAnyH_take (i := 2) rfl (by kernel_rfl) (by kernel_rfl) (by kernel_rfl) (fun _ _ _ h => h) (yieldsIf_load1 (by rfl) 5 _ rfl _ _ (by rfl) _ Tryz.underlying5 rfl _ (fun w h => h.1)) (by assumption) ?_);(try simp only [Act.put,rp1,rp2,rp3,rp4,rp5,rp6])
    (refine wpAnyH_take (i := 3) (v := ?_) rfl (by kernel_rfl) (by kernel_rfl) (by kernel_rfl) (fun _ _ _ h => h) (Or.inl ⟨by rfl,?_⟩) (by assumption) ?_;rotate_left;focus (intro w hSw;(try dsimp only at hSw);go_simp;all_goals (with_reducible rfl)));(try simp only [Act.put,rp1,rp2,rp3,rp4,rp5,rp6])
    (refine wpAnyH_take (i := 4) (v := ?_) rfl (by kernel_rfl) (by kernel_rfl) (by kernel_rfl) (fun _ _ _ h => h) (Or.inl ⟨by rfl,?_⟩) (by assumption) ?_;rotate_left;focus (intro w hSw;(try dsimp only at hSw);go_simp;all_goals (with_reducible rfl)));(try simp only [Act.put,rp1,rp2,rp3,rp4,rp5,rp6])
    (refine wpAnyH_take (i := 5) rfl (by kernel_rfl) (by kernel_rfl) (by kernel_rfl) (fun _ _ _ h => h) (yieldsIf_load1 (by rfl) 5 _ rfl _ _ (by rfl) _ Tryz.underlying5 rfl _ (fun w h => h.2)) (by assumption) ?_);(try simp only [Act.put,rp1,rp2,rp3,rp4,rp5,rp6])
    (refine wpAnyH_take (i := 6) (v := ?_) rfl (by kernel_rfl) (by kernel_rfl) (by kernel_rfl) (fun _ _ _ h => h) (Or.inl ⟨by rfl,?_⟩) (by assumption) ?_;rotate_left;focus (intro w hSw;(try dsimp only at hSw);go_simp;all_goals (with_reducible rfl)));(try simp only [Act.put,rp1,rp2,rp3,rp4,rp5,rp6])
    (refine wpAnyH_take (i := 7) (v := ?_) rfl (by kernel_rfl) (by kernel_rfl) (by kernel_rfl) (fun _ _ _ h => h) (Or.inl ⟨by rfl,?_⟩) (by assumption) ?_;rotate_left;focus (intro w hSw;(try dsimp only at hSw);go_simp;all_goals (with_reducible rfl)));(try simp only [Act.put,rp1,rp2,rp3,rp4,rp5,rp6])
    (refine wpAnyH_done (by kernel_rfl) ?_ _)
    go_wp2
    go_ret
    refine ⟨?_,H.fix.below⟩
    have h := kn_first i a b (by rw [HA.out,HB.out]) (by rw [HA.out];exact HI.out) HT.out (by rw [HX.out,HY.out];exact fun h => hxy (by rw [h]))
    rw [HX.out,HY.out] at h
    simp [h]
  ·obtain rfl : i = 32 := by omega
   clear hi hge hi0
   go_wp2
   go_ret
   refine ⟨?_,H.fix.below⟩
   have e : a = b := by
    have := HT.out
    rwa [List.take_of_length_le (by rw [HA.out];exact Nat.le_refl _),List.take_of_length_le (by rw [HB.out];exact Nat.le_refl _)] at this
   subst e
   simp
end Go.Proofs.YtlgciddnpinpbaaGreatDoor
