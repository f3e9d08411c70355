/- Texts of this proof, packed. -/
import Derived.Test.YtlgciddnpinpbaaGreatDoorPkBase4
import Derived.Test.YtlgciddnpinpbaaGreatDoorPqA
import Derived.Test.YtlgciddnpinpbaaGreatDoorPqR
import Derived.Test.YtlgciddnpinpbaaGreatDoorPqB
import Derived.Test.YtlgciddnpinpbaaGreatDoorPqC
import Derived.Test.YtlgciddnpinpbaaGreatDoorPqE
import Derived.Test.YtlgciddnpinpbaaGreatDoorPqD
import Derived.Test.YtlgciddnpinpbaaGreatDoorPqF
set_option linter.unusedSimpArgs false
set_option linter.unusedVariables false
namespace Go.Proofs.YtlgciddnpinpbaaGreatDoor
open Go.RowKit
set_option maxRecDepth 100000
def padZ (A : List UInt8) : List UInt8 := A ++ List.replicate (248 - A.length) 0
theorem padZ_len (A : List UInt8) (h : A.length ≤ 248) : (padZ A).length = 248 := by
 rw [padZ,List.length_append,List.length_replicate];omega
theorem lay_step (A b : List UInt8) (h : A.length + b.length ≤ 248) : (byteV (padZ A)).take A.length ++ byteV b ++ (byteV (padZ A)).drop (A.length + (byteV b).length) = byteV (padZ (A ++ b)) := by
 have e1 : (byteV (padZ A)).take A.length = byteV A := by rw [byteV,← List.map_take,padZ,List.take_left];rfl
 have e2 : (byteV (padZ A)).drop (A.length + (byteV b).length) = byteV (List.replicate (248 - (A ++ b).length) 0) := by
  rw [byteV_length,byteV,← List.map_drop,padZ,List.drop_append,List.drop_eq_nil_of_le (by omega),List.nil_append,show A.length + b.length - A.length = b.length by omega,List.drop_replicate,List.length_append]
  congr 2;omega
 rw [e1,e2]
 simp [padZ,byteV]
def innA (ks : List (List UInt8)) (c0 : Nat) (cs : List Nat) : Nat → List UInt8
 | 0 => [2,UInt8.ofNat ks.length] ++ List.replicate 6 0
 | j + 1 => [2,UInt8.ofNat ks.length] ++ List.replicate 6 0 ++ le4 c0 ++ encKids (ks.take j) (cs.take j)
theorem innA_one (ks : List (List UInt8)) (c0 : Nat) (cs : List Nat) : innA ks c0 cs 1 = innA ks c0 cs 0 ++ le4 c0 := by
 simp [innA,encKids]
theorem innA_next (ks : List (List UInt8)) (c0 : Nat) (cs : List Nat) (j : Nat) (k : List UInt8) (x : Nat) (hl : cs.length = ks.length) (hk : ks[j]? = some k) (hx : cs[j]? = some x) : innA ks c0 cs (j + 1 + 1) = innA ks c0 cs (j + 1) ++ k ++ le4 x := by
 have h1 : j < ks.length := (List.getElem?_eq_some_iff.1 hk).1
 have e := encKids_split (ks.take (j + 1)) (cs.take (j + 1)) j k x (by simp;omega) (by rw [List.getElem?_take_of_lt (by omega)];exact hk) (by rw [List.getElem?_take_of_lt (by omega)];exact hx)
 rw [innA,innA,e,List.take_take,List.take_take,Nat.min_eq_left (by omega),List.drop_eq_nil_of_le (by simp;omega)]
 simp [encKids]
theorem innA_len (ks : List (List UInt8)) (c0 : Nat) (cs : List Nat) (hl : cs.length = ks.length) (hk : ∀ k ∈ ks,k.length = 32) (j : Nat) (hj : j ≤ ks.length) : (innA ks c0 cs (j + 1)).length = 12 + j * 36 := by
 simp only [innA,List.length_append,le4_len,List.length_replicate,List.length_cons,List.length_nil]
 rw [encKids_len _ _ (by simp;omega) (fun x hx => hk x (List.mem_of_mem_take hx)),List.length_take,Nat.min_eq_left hj]
theorem innA_end (ks : List (List UInt8)) (c0 : Nat) (cs : List Nat) (hl : cs.length = ks.length) (hk : ∀ k ∈ ks,k.length = 32) (h6 : ks.length ≤ 6) : padZ (innA ks c0 cs (ks.length + 1)) = encInner ks (c0 :: cs) := by
 rw [padZ,innA_len ks c0 cs hl hk _ (Nat.le_refl _),innA,encInner,List.take_of_length_le (Nat.le_refl _),List.take_of_length_le (by omega),show 248 - (12 + ks.length * 36) = 236 - 36 * ks.length by omega]
 simp [List.append_assoc]
theorem inner_rows (ks : List (List UInt8)) (c0 : Nat) (cs : List Nat) (n : Nat) (hn : ks.length = n) (hu : ((UInt8.ofNat n).toNat : Int) = (n : Int)) :
  (((byteV (List.replicate 248 (0 : UInt8))).toArray.setIfInBounds 0 (Value.int .u8 2)).setIfInBounds 1 (Value.int .u8 (n : Int))) = (byteV (padZ (innA ks c0 cs 0))).toArray := by
 have e1 : (Value.int .u8 2) = Value.int .u8 (((2 : UInt8).toNat : Nat) : Int) := rfl
 rw [e1,← hu,byteV_set,byteV_set,← hn]
 congr 2
theorem keyV_at {W : World} {pp : Option Addr} {ks : List (List UInt8)} (h : (rdA pp (keyV ks)).prop W) (hk : ∀ k ∈ ks,k.length = 32) (j : Nat) (k : List UInt8) (hj : ks[j]? = some k) :
  ∃ g off,pp = some ⟨g,off,none⟩ ∧ ∀ i u,(byteV k)[i]? = some u → W.cell? ((⟨g,off + j * 32,none⟩ : Addr).add i) = some u := by
 have hlt : j < ks.length := (List.getElem?_eq_some_iff.1 hj).1
 have hl := keyV_len hk
 have e : ks = ks.take j ++ k :: ks.drop (j + 1) := by
  obtain ⟨h1,h2⟩ := List.getElem?_eq_some_iff.1 hj
  rw [← h2,← List.drop_eq_getElem_cons h1,List.take_append_drop]
 have hd : (keyV ks).drop (j * 32) = byteV k ++ keyV (ks.drop (j + 1)) := by
  have hl2 : (keyV (ks.take j)).length = j * 32 := by rw [keyV_len (fun q hq => hk q (List.mem_of_mem_take hq)),List.length_take,Nat.min_eq_left (by omega)]
  conv => lhs;rw [e]
  rw [keyV_append,← hl2,List.drop_left]
  simp [keyV]
 rcases h with h | ⟨g,off,rfl,_,h⟩
 ·rw [h] at hl;simp at hl;omega
 ·refine ⟨g,off,rfl,fun i u hu => ?_⟩
  rw [Addr.add_lit,Nat.add_assoc]
  refine h (j * 32 + i) u ?_
  have hi : i < (byteV k).length := (List.getElem?_eq_some_iff.1 hu).1
  rw [← List.getElem?_drop,hd,List.getElem?_append_left hi]
  exact hu
theorem intsV_at {W : World} {pp : Option Addr} {hs : List Nat} (h : (rdA pp (intsV hs)).prop W) (j x : Nat) (hj : hs[j]? = some x) : ∃ g off,pp = some ⟨g,off,none⟩ ∧ W.cell? ⟨g,off + j,none⟩ = some (.int .i64 (x : Int)) := by
 have hv : (intsV hs)[j]? = some (.int .i64 (x : Int)) := by simp [intsV,hj]
 rcases h with h | ⟨g,off,rfl,_,h⟩
 ·rw [h] at hv;cases hv
 ·exact ⟨g,off,rfl,h j _ hv⟩
set_option maxHeartbeats 16000000 in
theorem save_inner {w : World} {s : TX} {c g home ck cc c0 : Nat} {pk pc : Option Addr} {ks : List (List UInt8)} {cs : List Nat} (hb : Bundle w (s.L ++ [nodeA g home false (.slice none 0 0) (.slice pk ks.length ck) (.slice pc (ks.length + 1) cc),rdA pk (keyV ks),rdA pc (intsV (c0 :: cs))])) (h : s.Ok c) (hn : home < s.n) (hl : cs.length = ks.length) (hk : ∀ k ∈ ks,k.length = 32) (h6 : ks.length ≤ 6)
  (h0 : c0 < 4294967296) (hc : ∀ x ∈ cs,x < 4294967296) :
  Calls Tryz.prog 149 #[.pointer (some ⟨g,0,none⟩),.pointer (some ⟨s.g,0,none⟩)] w fun e w' => e = .returned .nilIface ∧ ∃ s',s.To s' c (updV s.V home (encInner ks (c0 :: cs))) ∧
   BunTo w (ownL (s.L ++ [nodeA g home false (.slice none 0 0) (.slice pk ks.length ck) (.slice pc (ks.length + 1) cc),rdA pk (keyV ks),rdA pc (intsV (c0 :: cs))])) (rdL (s.L ++ [nodeA g home false (.slice none 0 0) (.slice pk ks.length ck) (.slice pc (ks.length + 1) cc),rdA pk (keyV ks),rdA pc (intsV (c0 :: cs))])) (s'.L ++ [nodeA g home false (.slice none 0 0) (.slice pk ks.length ck) (.slice pc (ks.length + 1) cc),rdA pk (keyV ks),rdA pc (intsV (c0 :: cs))]) w' := by
 have H := hb.open_
 obtain ⟨O,hO⟩ : ∃ O,ownL (s.L ++ [nodeA g home false (.slice none 0 0) (.slice pk ks.length ck) (.slice pc (ks.length + 1) cc),rdA pk (keyV ks),rdA pc (intsV (c0 :: cs))]) = O := ⟨_,rfl⟩
 obtain ⟨R0,hR0⟩ : ∃ R,rdL (s.L ++ [nodeA g home false (.slice none 0 0) (.slice pk ks.length ck) (.slice pc (ks.length + 1) cc),rdA pk (keyV ks),rdA pc (intsV (c0 :: cs))]) = R := ⟨_,rfl⟩
 rw [hO,hR0] at H ⊢
 have HO := Lib.hid h
 have HN := Lib.hid hn
 have HK := Lib.hid hk
 obtain ⟨n,hnl⟩ : ∃ n,ks.length = n := ⟨_,rfl⟩
 have HPL := Lib.hid hnl
 have HCL := Lib.hid hl
 have HCC := Lib.hid (show ∀ x ∈ c0 :: cs,x < 4294967296 from fun x hx => by rcases List.mem_cons.1 hx with rfl | hx;exact h0;exact hc x hx)
 have HIL := Lib.hid (fun j (hj : j ≤ n) => innA_len ks c0 cs hl hk j (by rw [hnl];exact hj))
 have HIE := Lib.hid (show padZ (innA ks c0 cs (n + 1)) = encInner ks (c0 :: cs) by rw [← hnl];exact innA_end ks c0 cs hl hk h6)
 have HEL := Lib.hid (show (encInner ks (c0 :: cs)).length = 248 from encInner_len ks _ (by simp;omega) hk h6)
 rw [hnl] at h6 H ⊢
 have hn0 : 0 ≤ (n : Int) := by omega
 have hn7 : (n : Int) ≤ 6 := by omega
 have hu : ((UInt8.ofNat n).toNat : Int) = (n : Int) := by rw [UInt8.toNat_ofNat'];omega
 have HU := Lib.hid hu
 have H7 := Lib.hid h6
 have HCN := Lib.hid (show cs.length = n by rw [hl,hnl])
 clear hb h hO hR0 hn hk hnl hu h6 hl h0 hc
 have tok1 : True := trivial
 have hf := row_cell (H.at 7 rfl) (nRow1 _ _ _ _ _)
 go_enter Tryz.func149,Tryz.ntmps149
 go_upto_region 3 with (first
  | (refine wpList_make2_st H rfl 22 _ _ rfl _ Tryz.underlying22 _ _ info_u8 rfl 248 248 rfl rfl (by omega) (by omega) (by simp only [maxLen];omega) ?_;clear H;intro W gb H;replace H : St O R0 w W (s.L ++ [nodeA g home false (.slice none 0 0) (.slice pk n ck) (.slice pc (n + 1) cc),rdA pk (keyV ks),rdA pc (intsV (c0 :: cs)),blk gb (.cells (byteV (List.replicate 248 0)).toArray 5 (0,0))]) := by { rw [show byteV (List.replicate 248 0) = List.replicate 248 (Value.int .u8 0) by simp [byteV]];exact H })
  | (go_at_call 169;go_loud ((refine (size_inner (H.at 7 rfl)).mono ?_);rintro e W' ⟨rfl,rfl⟩))
  | (have _t := tok1;clear _t;refine wpList_store1_st H 10 rfl 5 _ _ rfl gb 0 (.int .u8 2) rfl rfl rfl _ _ rfl size_u8 (by simp) ?_;clear H tok1;intro W H)
  | (refine wpList_store1_st H 10 rfl 5 _ _ rfl gb 1 (.int .u8 (n : Int)) rfl rfl rfl _ _ rfl size_u8 (by simp) ?_;clear H;intro W H))
 clear hf
 replace H : St O R0 w W (s.L ++ [nodeA g home false (.slice none 0 0) (.slice pk n ck) (.slice pc (n + 1) cc),rdA pk (keyV ks),rdA pc (intsV (c0 :: cs)),blk gb (.cells (((byteV (List.replicate 248 (0 : UInt8))).toArray.setIfInBounds 0 (Value.int .u8 2)).setIfInBounds 1 (Value.int .u8 (n : Int))) 5 (0,0))]) := H
 rw [inner_rows ks c0 cs n HPL.out HU.out] at H
 have hf := row_cell (H.at 7 rfl) (nRow1 _ _ _ _ _)
 have hp2 := row_cell (H.at 7 rfl) (nRow2 _ _ _ _ _)
 go_upto_region 7 with fail
 clear hf hp2
 go_loopw [6,30] (fun av u wr => av = .int .i64 8 ∧ u = .int .i64 0 ∧ St O R0 w wr (s.L ++ [nodeA g home false (.slice none 0 0) (.slice pk n ck) (.slice pc (n + 1) cc),rdA pk (keyV ks),rdA pc (intsV (c0 :: cs)),blk gb (.cells (byteV (padZ (innA ks c0 cs 0))).toArray 5 (0,0))])) (fun _ _ _ => 0)
 case atStart => exact ⟨rfl,rfl,H⟩
 case round =>
  clear H
  obtain ⟨rfl,rfl,H⟩ := hrel
  have hp4 := row_cell (H.at 7 rfl) (nRow4 _ _ _ _ _)
  go_upto_region 13 with fail
  clear hp4
  go_loopw [6,56] (fun av u wr => ∃ j : Nat,u = .int .i64 (j : Int) ∧ av = .int .i64 ((innA ks c0 cs j).length : Int) ∧ j ≤ n + 1 ∧ St O R0 w wr (s.L ++ [nodeA g home false (.slice none 0 0) (.slice pk n ck) (.slice pc (n + 1) cc),rdA pk (keyV ks),rdA pc (intsV (c0 :: cs)),blk gb (.cells (byteV (padZ (innA ks c0 cs j))).toArray 5 (0,0))])) (fun _ u _ => n + 1 - (intOf u).toNat)
  case atStart => exact ⟨0,rfl,by rw [show (innA ks c0 cs 0).length = 8 by simp [innA]];rfl,Nat.zero_le _,H⟩
  case round =>
   clear H
   obtain ⟨j,rfl,rfl,hj,H⟩ := hrel
   have hj0 : 0 ≤ (j : Int) := by omega
   rcases Nat.lt_or_ge j (n + 1) with hlt | hge
   ·have hjj : (j : Int) < (n : Int) + 1 := by omega
    have HJ := Lib.hid (show j + 1 ≤ n + 1 by omega)
    obtain ⟨x,hx⟩ : ∃ x,(c0 :: cs)[j]? = some x := ⟨_,List.getElem?_eq_getElem (by simp;have := HCN.out;omega)⟩
    have hx9 : x < 4294967296 := HCC.out x (List.mem_of_getElem? hx)
    obtain ⟨gq,oq,hpq,hcell⟩ := intsV_at (H.at 9 rfl) j x hx
    subst hpq
    rcases Nat.eq_zero_or_pos j with hz | hz
    ·subst hz
     obtain rfl : c0 = x := by simpa using hx
     clear hx
     rw [Nat.add_zero] at hcell
     go_upto_region 17 with fail
     clear hcell
     have HAL := Lib.hid (show (innA ks c0 cs 0).length + 4 ≤ 248 by simp [innA])
     have HNX := Lib.hid (show innA ks c0 cs 0 ++ le4 c0 = innA ks c0 cs (0 + 1) from (innA_one ks c0 cs).symm)
     have HX9 := Lib.hid (show c0 < 4294967296 from hx9)
     have hc0 : 0 ≤ (c0 : Int) := by omega
     have hxi : (c0 : Int) < 4294967296 := by omega
     obtain ⟨A,hA⟩ : ∃ A,innA ks c0 cs 0 = A := ⟨_,rfl⟩
     rw [hA] at HAL HNX H
     rw [hA]
     obtain ⟨at_,hat⟩ : ∃ a,A.length = a := ⟨_,rfl⟩
     rw [hat]
     have HAT := Lib.hid hat
     have HA4 := Lib.hid (show at_ + 4 ≤ 248 by rw [← hat];exact HAL.out)
     have hs0 : 0 ≤ (at_ : Int) := by omega
     have hs1 : (at_ : Int) ≤ 248 := by have := HA4.out;omega
     have hs2 : ¬ 248 = at_ := by have := HA4.out;omega
     clear hA hat hx9
     go_upto_region 17 with fail
     replace H := H.drew
     refine wp_region_T (fun _ => True) [] (by kernel_rfl) trivial (fun hHeld => ?_)
     (refine wpAnyT_pure (i := 0) (v := ?_) rfl (by kernel_rfl) (by kernel_rfl) (by kernel_rfl) (by kernel_rfl) (fun _ _ _ h => h) (Or.inl ⟨by rfl,?_⟩) (Or.inr (by assumption)) ?_;rotate_left;focus (intro w hSw;clear hSw;go_simp;all_goals (with_reducible rfl)));(try simp only [Act.put,rp1,rp2,rp3,rp4,rp5,rp6])
     (refine wpAnyT_pure (i := 1) (v := ?_) rfl (by kernel_rfl) (by kernel_rfl) (by kernel_rfl) (by kernel_rfl) (fun _ _ _ h => h) (Or.inl ⟨by rfl,?_⟩) (Or.inr (by assumption)) ?_;rotate_left;focus (intro w hSw;clear hSw;go_simp;all_goals (with_reducible rfl)));(try simp only [Act.put,rp1,rp2,rp3,rp4,rp5,rp6])
     (refine wpAnyT_pure (i := 2) (v := ?_) rfl (by kernel_rfl) (by kernel_rfl) (by kernel_rfl) (by kernel_rfl) (fun _ _ _ h => h) (Or.inl ⟨by rfl,?_⟩) (Or.inr (by assumption)) ?_;rotate_left;focus (intro w hSw;clear hSw;go_simp;all_goals (with_reducible rfl)));(try simp only [Act.put,rp1,rp2,rp3,rp4,rp5,rp6])
     (refine wpAnyT_pure (i := 3) (v := ?_) rfl (by kernel_rfl) (by kernel_rfl) (by kernel_rfl) (by kernel_rfl) (fun _ _ _ h => h) (Or.inl ⟨by rfl,?_⟩) (Or.inr (by assumption)) ?_;rotate_left;focus (intro w hSw;clear hSw;go_simp;all_goals (with_reducible rfl)));(try simp only [Act.put,rp1,rp2,rp3,rp4,rp5,rp6])
     (refine wpAnyT_pure (i := 4) (v := ?_) rfl (by kernel_rfl) (by kernel_rfl) (by kernel_rfl) (by kernel_rfl) (fun _ _ _ h => h) (Or.inl ⟨by rfl,?_⟩) (Or.inr (by assumption)) ?_;rotate_left;focus (intro w hSw;clear hSw;go_simp;all_goals (with_reducible rfl)));(try simp only [Act.put,rp1,rp2,rp3,rp4,rp5,rp6])
     (refine wpAnyT_pure (i := 5) (v := ?_) rfl (by kernel_rfl) (by kernel_rfl) (by kernel_rfl) (by kernel_rfl) (fun _ _ _ h => h) (Or.inl ⟨by rfl,?_⟩) (Or.inr (by assumption)) ?_;rotate_left;focus (intro w hSw;clear hSw;go_simp;all_goals (with_reducible rfl)));(try simp only [Act.put,rp1,rp2,rp3,rp4,rp5,rp6])
     (refine wpAnyT_one (i := 6) (by kernel_rfl) rfl (fun K hK => ?_));(rw [if_pos (by rfl)]);(go_simp;go_at_call 111;(refine (put_at _ [] _ _ c0 4 4 _ (.inl ⟨rfl,rfl⟩) (by first | rfl | (rw [IntKind.wrap_u64];omega)) rfl (by simp) (by simp) (by omega) (by omega) (by have := HX9.out;omega)).mono ?_);rintro e W3 ⟨g1,cap1,junk1,rfl,hl1,hc1,hj1,hm1,hg1,hb1,hbl⟩;replace H := H.add (Fix.of_below hbl _) (blk g1 _) hb1 (fun k hk => by rw [show k = g1 from hk];exact hg1) (fun k hk => hk.elim);clear hb1 hbl;(try go_wp2_with fail);refine hK.out _ _ (Or.inr trivial) ?_;clear hK K);(try simp only [Act.put,rp1,rp2,rp3,rp4,rp5,rp6])
     (refine wpAnyT_one (i := 7) (by kernel_rfl) rfl (fun K hK => ?_));(rw [if_pos (by rfl)]);(refine wp_copy_row H 10 _ _ 22 22 rfl _ Tryz.underlying22 1 size_u8 gb at_ (248 - at_) (248 - at_) (by rfl) ⟨g1,0,none⟩ 4 cap1 (by rfl) 4 (by have := HA4.out;omega) (byteV (le4 c0)) (by rw [byteV_length,le4_len]) (fun i u hu => blk_cell (off := 0) (H.at 11 rfl) (by rw [List.drop_zero,List.nil_append];show (byteV (le4 c0) ++ junk1)[i]? = some u;rw [List.getElem?_append_left (List.getElem?_eq_some_iff.1 hu).1];exact hu)) (byteV_one _) (byteV (padZ A)) _ rfl (by rw [byteV_length,le4_len,byteV_length,padZ_len A (by have := HAL.out;omega)];have := HA4.out;omega) ?_;clear H;intro W4 H;refine hK.out _ _ (Or.inr trivial) ?_;clear hK K);(try simp only [Act.put,rp1,rp2,rp3,rp4,rp5,rp6])
     (refine wpAnyT_pure (i := 8) (v := ?_) rfl (by kernel_rfl) (by kernel_rfl) (by kernel_rfl) (by kernel_rfl) (fun _ _ _ h => h) (Or.inl ⟨by rfl,?_⟩) (Or.inr (by assumption)) ?_;rotate_left;focus (intro w hSw;clear hSw;go_simp;all_goals (with_reducible rfl)));(try simp only [Act.put,rp1,rp2,rp3,rp4,rp5,rp6])
     (refine wpAnyT_pure (i := 9) (v := ?_) rfl (by kernel_rfl) (by kernel_rfl) (by kernel_rfl) (by kernel_rfl) (fun _ _ _ h => h) (Or.inl ⟨by rfl,?_⟩) (Or.inr (by assumption)) ?_;rotate_left;focus (intro w hSw;clear hSw;go_simp;all_goals (with_reducible rfl)));(try simp only [Act.put,rp1,rp2,rp3,rp4,rp5,rp6])
     (refine wpAnyT_done (by kernel_rfl) ?_ _)
     replace H : St O R0 w W4 (s.L ++ [nodeA g home false (.slice none 0 0) (.slice pk n ck) (.slice (some ⟨gq,oq,none⟩) (n + 1) cc),rdA pk (keyV ks),rdA (some ⟨gq,oq,none⟩) (intsV (c0 :: cs)),blk gb (.cells ((byteV (padZ A)).take at_ ++ byteV (le4 c0) ++ (byteV (padZ A)).drop (at_ + (byteV (le4 c0)).length)).toArray 5 (0,0))] ++ [_]) := H
     rw [← HAT.out,lay_step A (le4 c0) (by rw [le4_len];exact HAL.out),HNX.out] at H
     rw [show IntKind.i64.wrap ((at_ : Int) + 4) = ((innA ks c0 cs (0 + 1)).length : Int) by rw [IntKind.wrap_i64,← HNX.out,List.length_append,le4_len,HAT.out];have := HA4.out;omega]
     clear hs0 hs1 hs2
     go_wp2
     go_roundw
     case rel => exact ⟨0 + 1,rfl,rfl,HJ.out,H.take 11⟩
     case measure => simp [intOf]
    ·obtain ⟨i,rfl⟩ : ∃ i,j = i + 1 := ⟨j - 1,by omega⟩
     have hx2 : cs[i]? = some x := by simpa using hx
     obtain ⟨k,hk⟩ : ∃ k,ks[i]? = some k := ⟨_,List.getElem?_eq_getElem (by rw [HPL.out];omega)⟩
     obtain ⟨gk,ok,hpk,hkc⟩ := keyV_at (H.at 8 rfl) HK.out i k hk
     subst hpk
     have HKL := Lib.hid (HK.out k (List.mem_of_getElem? hk))
     have HKI := Lib.hid hk
     have HXI := Lib.hid hx2
     have hi0 : 0 ≤ (i : Int) := by omega
     have hin : (i : Int) < (n : Int) := by omega
     have hji : (((i + 1 : Nat) : Nat) : Int) = (i : Int) + 1 := by omega
     have hpos : 0 < (i : Int) + 1 := by omega
     have hz1 : ¬ ((i : Int) + 1 ≤ 0) := by omega
     rw [hji]
     clear hx hx2 hk
     obtain ⟨a0,ha0⟩ : ∃ a,(innA ks c0 cs (i + 1)).length = a := ⟨_,rfl⟩
     have HA0 := Lib.hid (show a0 = 12 + i * 36 by rw [← ha0];exact HIL.out i (by omega))
     rw [ha0]
     have hb0 : 0 ≤ (a0 : Int) := by omega
     have hb1 : (a0 : Int) ≤ 248 := by have := HA0.out;have := H7.out;omega
     have hb2 : ¬ 248 = a0 := by have := HA0.out;have := H7.out;omega
     have HAL0 := Lib.hid ha0
     clear ha0
     go_upto_region 16 with fail
     clear hcell
     replace H := H.drew
     have hsub : IntKind.i64.wrap (i : Int) = (i : Int) := by rw [IntKind.wrap_i64];omega
     refine wp_region_T (fun w' => w'.cell? ⟨g,3,none⟩ = some (.slice (some ⟨gk,ok,none⟩) n ck)) [12] (by kernel_rfl) (row_cell (H.at 7 rfl) (nRow3 _ _ _ _ _)) (fun hHeld => ?_)
     (refine wpAnyT_pure (i := 0) (v := ?_) rfl (by kernel_rfl) (by kernel_rfl) (by kernel_rfl) (by kernel_rfl) (fun _ _ _ h => h) (Or.inl ⟨by rfl,?_⟩) (Or.inr (by assumption)) ?_;rotate_left;focus (intro w hSw;clear hSw;go_simp;all_goals (with_reducible rfl)));(try simp only [Act.put,rp1,rp2,rp3,rp4,rp5,rp6])
     (refine wpAnyT_pure (i := 1) (v := ?_) rfl (by kernel_rfl) (by kernel_rfl) (by kernel_rfl) (by kernel_rfl) (fun _ _ _ h => h) (Or.inl ⟨by rfl,?_⟩) (Or.inr (by assumption)) ?_;rotate_left;focus (intro w hSw;clear hSw;go_simp;all_goals (with_reducible rfl)));(try simp only [Act.put,rp1,rp2,rp3,rp4,rp5,rp6])
     (refine wpAnyT_pure (i := 2) (v := ?_) rfl (by kernel_rfl) (by kernel_rfl) (by kernel_rfl) (by kernel_rfl) (fun _ _ _ h => h) (Or.inl ⟨by rfl,?_⟩) (Or.inr (by assumption)) ?_;rotate_left;focus (intro w hSw;clear hSw;go_simp;all_goals (with_reducible rfl)));(try simp only [Act.put,rp1,rp2,rp3,rp4,rp5,rp6])
     (refine wpAnyT_pure (i := 3) (v := ?_) rfl (by kernel_rfl) (by kernel_rfl) (by kernel_rfl) (by kernel_rfl) (fun _ _ _ h => h) (Or.inl ⟨by rfl,?_⟩) (Or.inr (by assumption)) ?_;rotate_left;focus (intro w hSw;clear hSw;go_simp;all_goals (with_reducible rfl)));(try simp only [Act.put,rp1,rp2,rp3,rp4,rp5,rp6])
     (refine wpAnyT_pure (i := 4) (v := ?_) rfl (by kernel_rfl) (by kernel_rfl) (by kernel_rfl) (by kernel_rfl) (fun _ _ _ h => h) (Or.inl ⟨by rfl,?_⟩) (Or.inr (by assumption)) ?_;rotate_left;focus (intro w hSw;clear hSw;go_simp;all_goals (with_reducible rfl)));(try simp only [Act.put,rp1,rp2,rp3,rp4,rp5,rp6])
     (refine wpAnyT_pure (i := 5) (v := ?_) rfl (by kernel_rfl) (by kernel_rfl) (by kernel_rfl) (by kernel_rfl) (fun _ _ _ h => h) (Or.inl ⟨by rfl,?_⟩) (Or.inr (by assumption)) ?_;rotate_left;focus (intro w hSw;clear hSw;go_simp;all_goals (with_reducible rfl)));(try simp only [Act.put,rp1,rp2,rp3,rp4,rp5,rp6])
     (refine wpAnyT_pure (i := 6) (v := ?_) rfl (by kernel_rfl) (by kernel_rfl) (by kernel_rfl) (by kernel_rfl) (fun _ _ _ h => h) (Or.inl ⟨by rfl,?_⟩) (Or.inr (by assumption)) ?_;rotate_left;focus (intro w hSw;clear hSw;go_simp;all_goals (with_reducible rfl)));(try simp only [Act.put,rp1,rp2,rp3,rp4,rp5,rp6])
     (refine wpAnyT_take (i := 7) (f := 30) rfl (by kernel_rfl) (by kernel_rfl) (by kernel_rfl) (by kernel_rfl) (by kernel_rfl) (fun _ _ _ h => h) ((yieldsIf_load1 (by rfl) 147 _ rfl _ _ (by rfl) _ Tryz.underlying147 rfl _ (fun w h => h))) (by assumption) ?_);(try simp only [Act.put,rp1,rp2,rp3,rp4,rp5,rp6])
     (refine wpAnyT_pure (i := 8) (v := ?_) rfl (by kernel_rfl) (by kernel_rfl) (by kernel_rfl) (by kernel_rfl) (fun _ _ _ h => h) (Or.inl ⟨by rfl,?_⟩) (Or.inr (by assumption)) ?_;rotate_left;focus (intro w hSw;clear hSw;go_simp;all_goals (with_reducible rfl)));(try simp only [Act.put,rp1,rp2,rp3,rp4,rp5,rp6])
     (refine wpAnyT_pure (i := 9) (v := ?_) rfl (by kernel_rfl) (by kernel_rfl) (by kernel_rfl) (by kernel_rfl) (fun _ _ _ h => h) (Or.inl ⟨by rfl,?_⟩) (Or.inr (by assumption)) ?_;rotate_left;focus (intro w hSw;clear hSw;go_simp;all_goals (with_reducible rfl)));(try simp only [Act.put,rp1,rp2,rp3,rp4,rp5,rp6])
     (refine wpAnyT_pure (i := 10) (v := ?_) rfl (by kernel_rfl) (by kernel_rfl) (by kernel_rfl) (by kernel_rfl) (fun _ _ _ h => h) (Or.inl ⟨by rfl,?_⟩) (Or.inr (by assumption)) ?_;rotate_left;focus (intro w hSw;clear hSw;go_simp;all_goals (with_reducible rfl)));(try simp only [Act.put,rp1,rp2,rp3,rp4,rp5,rp6])
     (refine wpAnyT_pure (i := 11) (v := ?_) rfl (by kernel_rfl) (by kernel_rfl) (by kernel_rfl) (by kernel_rfl) (fun _ _ _ h => h) (Or.inl ⟨by rfl,?_⟩) (Or.inr (by assumption)) ?_;rotate_left;focus (intro w hSw;clear hSw;go_simp;all_goals (with_reducible rfl)));(try simp only [Act.put,rp1,rp2,rp3,rp4,rp5,rp6])
     (refine wpAnyT_one (i := 12) (by kernel_rfl) rfl (fun K hK => ?_));(rw [if_pos (by rfl)]);(refine wp_copy_row H 10 _ _ 22 22 rfl _ Tryz.underlying22 1 size_u8 gb a0 (248 - a0) (248 - a0) (by rfl) ⟨gk,ok + i * 32,none⟩ 32 32 (by rfl) 32 (by have := HA0.out;have := H7.out;omega) (byteV k) (by rw [byteV_length,HKL.out]) hkc (byteV_one _) (byteV (padZ (innA ks c0 cs (i + 1)))) _ rfl (by rw [byteV_length,HKL.out,byteV_length,padZ_len _ (by rw [HAL0.out];have := HA0.out;have := H7.out;omega)];have := HA0.out;have := H7.out;omega) ?_;clear H hkc hHeld;intro W2 H;refine hK.out _ _ (Or.inl ⟨12,by simp,by kernel_rfl⟩) ?_;clear hK K);(try simp only [Act.put,rp1,rp2,rp3,rp4,rp5,rp6])
     (refine wpAnyT_pure (i := 13) (v := ?_) rfl (by kernel_rfl) (by kernel_rfl) (by kernel_rfl) (by kernel_rfl) (fun _ _ _ h => h) (Or.inl ⟨by rfl,?_⟩) (Or.inl ⟨12,by simp,by kernel_rfl⟩) ?_;rotate_left;focus (intro w hSw;clear hSw;go_simp;all_goals (with_reducible rfl)));(try simp only [Act.put,rp1,rp2,rp3,rp4,rp5,rp6])
     (refine wpAnyT_pure (i := 14) (v := ?_) rfl (by kernel_rfl) (by kernel_rfl) (by kernel_rfl) (by kernel_rfl) (fun _ _ _ h => h) (Or.inl ⟨by rfl,?_⟩) (Or.inl ⟨12,by simp,by kernel_rfl⟩) ?_;rotate_left;focus (intro w hSw;clear hSw;go_simp;all_goals (with_reducible rfl)));(try simp only [Act.put,rp1,rp2,rp3,rp4,rp5,rp6])
     (refine wpAnyT_done (by kernel_rfl) ?_ _)
     replace H : St O R0 w W2 (s.L ++ [nodeA g home false (.slice none 0 0) (.slice (some ⟨gk,ok,none⟩) n ck) (.slice (some ⟨gq,oq,none⟩) (n + 1) cc),rdA (some ⟨gk,ok,none⟩) (keyV ks),rdA (some ⟨gq,oq,none⟩) (intsV (c0 :: cs)),blk gb (.cells ((byteV (padZ (innA ks c0 cs (i + 1)))).take a0 ++ byteV k ++ (byteV (padZ (innA ks c0 cs (i + 1)))).drop (a0 + (byteV k).length)).toArray 5 (0,0))]) := H
     rw [← HAL0.out,lay_step (innA ks c0 cs (i + 1)) k (by rw [HAL0.out,HKL.out];have := HA0.out;have := H7.out;omega)] at H
     rw [show IntKind.i64.wrap ((a0 : Int) + 32) = ((innA ks c0 cs (i + 1) ++ k).length : Int) by rw [IntKind.wrap_i64,List.length_append,HAL0.out,HKL.out];omega]
     clear hb0 hb1 hb2 hsub
     go_upto_region 17 with fail
     have HAL := Lib.hid (show (innA ks c0 cs (i + 1) ++ k).length + 4 ≤ 248 by rw [List.length_append,HIL.out i (by omega),HKL.out];have := H7.out;omega)
     have HNX := Lib.hid (show innA ks c0 cs (i + 1) ++ k ++ le4 x = innA ks c0 cs (i + 1 + 1) from (innA_next ks c0 cs i k x HCL.out HKI.out HXI.out).symm)
     have HX9 := Lib.hid (show x < 4294967296 from hx9)
     have hc0 : 0 ≤ (x : Int) := by omega
     have hxi : (x : Int) < 4294967296 := by omega
     obtain ⟨A,hA⟩ : ∃ A,innA ks c0 cs (i + 1) ++ k = A := ⟨_,rfl⟩
     rw [hA] at HAL HNX H
     rw [hA]
     obtain ⟨at_,hat⟩ : ∃ a,A.length = a := ⟨_,rfl⟩
     rw [hat]
     have HAT := Lib.hid hat
     have HA4 := Lib.hid (show at_ + 4 ≤ 248 by rw [← hat];exact HAL.out)
     have hs0 : 0 ≤ (at_ : Int) := by omega
     have hs1 : (at_ : Int) ≤ 248 := by have := HA4.out;omega
     have hs2 : ¬ 248 = at_ := by have := HA4.out;omega
     clear hA hat hx9
     replace H := H.drew
     refine wp_region_T (fun _ => True) [] (by kernel_rfl) trivial (fun hHeld => ?_)
     (refine wpAnyT_pure (i := 0) (v := ?_) rfl (by kernel_rfl) (by kernel_rfl) (by kernel_rfl) (by kernel_rfl) (fun _ _ _ h => h) (Or.inl ⟨by rfl,?_⟩) (Or.inr (by assumption)) ?_;rotate_left;focus (intro w hSw;clear hSw;go_simp;all_goals (with_reducible rfl)));(try simp only [Act.put,rp1,rp2,rp3,rp4,rp5,rp6])
     (refine wpAnyT_pure (i := 1) (v := ?_) rfl (by kernel_rfl) (by kernel_rfl) (by kernel_rfl) (by kernel_rfl) (fun _ _ _ h => h) (Or.inl ⟨by rfl,?_⟩) (Or.inr (by assumption)) ?_;rotate_left;focus (intro w hSw;clear hSw;go_simp;all_goals (with_reducible rfl)));(try simp only [Act.put,rp1,rp2,rp3,rp4,rp5,rp6])
     (refine wpAnyT_pure (i := 2) (v := ?_) rfl (by kernel_rfl) (by kernel_rfl) (by kernel_rfl) (by kernel_rfl) (fun _ _ _ h => h) (Or.inl ⟨by rfl,?_⟩) (Or.inr (by assumption)) ?_;rotate_left;focus (intro w hSw;clear hSw;go_simp;all_goals (with_reducible rfl)));(try simp only [Act.put,rp1,rp2,rp3,rp4,rp5,rp6])
     (refine wpAnyT_pure (i := 3) (v := ?_) rfl (by kernel_rfl) (by kernel_rfl) (by kernel_rfl) (by kernel_rfl) (fun _ _ _ h => h) (Or.inl ⟨by rfl,?_⟩) (Or.inr (by assumption)) ?_;rotate_left;focus (intro w hSw;clear hSw;go_simp;all_goals (with_reducible rfl)));(try simp only [Act.put,rp1,rp2,rp3,rp4,rp5,rp6])
     (refine wpAnyT_pure (i := 4) (v := ?_) rfl (by kernel_rfl) (by kernel_rfl) (by kernel_rfl) (by kernel_rfl) (fun _ _ _ h => h) (Or.inl ⟨by rfl,?_⟩) (Or.inr (by assumption)) ?_;rotate_left;focus (intro w hSw;clear hSw;go_simp;all_goals (with_reducible rfl)));(try simp only [Act.put,rp1,rp2,rp3,rp4,rp5,rp6])
     (refine wpAnyT_pure (i := 5) (v := ?_) rfl (by kernel_rfl) (by kernel_rfl) (by kernel_rfl) (by kernel_rfl) (fun _ _ _ h => h) (Or.inl ⟨by rfl,?_⟩) (Or.inr (by assumption)) ?_;rotate_left;focus (intro w hSw;clear hSw;go_simp;all_goals (with_reducible rfl)));(try simp only [Act.put,rp1,rp2,rp3,rp4,rp5,rp6])
     (refine wpAnyT_one (i := 6) (by kernel_rfl) rfl (fun K hK => ?_));(rw [if_pos (by rfl)]);(go_simp;go_at_call 111;(refine (put_at _ [] _ _ x 4 4 _ (.inl ⟨rfl,rfl⟩) (by first | rfl | (rw [IntKind.wrap_u64];omega)) rfl (by simp) (by simp) (by omega) (by omega) (by have := HX9.out;omega)).mono ?_);rintro e W3 ⟨g1,cap1,junk1,rfl,hl1,hc1,hj1,hm1,hg1,hb1,hbl⟩;replace H := H.add (Fix.of_below hbl _) (blk g1 _) hb1 (fun k hk => by rw [show k = g1 from hk];exact hg1) (fun k hk => hk.elim);clear hb1 hbl;(try go_wp2_with fail);refine hK.out _ _ (Or.inr trivial) ?_;clear hK K);(try simp only [Act.put,rp1,rp2,rp3,rp4,rp5,rp6])
     (refine wpAnyT_one (i := 7) (by kernel_rfl) rfl (fun K hK => ?_));(rw [if_pos (by rfl)]);(refine wp_copy_row H 10 _ _ 22 22 rfl _ Tryz.underlying22 1 size_u8 gb at_ (248 - at_) (248 - at_) (by rfl) ⟨g1,0,none⟩ 4 cap1 (by rfl) 4 (by have := HA4.out;omega) (byteV (le4 x)) (by rw [byteV_length,le4_len]) (fun i u hu => blk_cell (off := 0) (H.at 11 rfl) (by rw [List.drop_zero,List.nil_append];show (byteV (le4 x) ++ junk1)[i]? = some u;rw [List.getElem?_append_left (List.getElem?_eq_some_iff.1 hu).1];exact hu)) (byteV_one _) (byteV (padZ A)) _ rfl (by rw [byteV_length,le4_len,byteV_length,padZ_len A (by have := HAL.out;omega)];have := HA4.out;omega) ?_;clear H;intro W4 H;refine hK.out _ _ (Or.inr trivial) ?_;clear hK K);(try simp only [Act.put,rp1,rp2,rp3,rp4,rp5,rp6])
     (refine wpAnyT_pure (i := 8) (v := ?_) rfl (by kernel_rfl) (by kernel_rfl) (by kernel_rfl) (by kernel_rfl) (fun _ _ _ h => h) (Or.inl ⟨by rfl,?_⟩) (Or.inr (by assumption)) ?_;rotate_left;focus (intro w hSw;clear hSw;go_simp;all_goals (with_reducible rfl)));(try simp only [Act.put,rp1,rp2,rp3,rp4,rp5,rp6])
     (refine wpAnyT_pure (i := 9) (v := ?_) rfl (by kernel_rfl) (by kernel_rfl) (by kernel_rfl) (by kernel_rfl) (fun _ _ _ h => h) (Or.inl ⟨by rfl,?_⟩) (Or.inr (by assumption)) ?_;rotate_left;focus (intro w hSw;clear hSw;go_simp;all_goals (with_reducible rfl)));(try simp only [Act.put,rp1,rp2,rp3,rp4,rp5,rp6])
     (refine wpAnyT_done (by kernel_rfl) ?_ _)
     replace H : St O R0 w W4 (s.L ++ [nodeA g home false (.slice none 0 0) (.slice (some ⟨gk,ok,none⟩) n ck) (.slice (some ⟨gq,oq,none⟩) (n + 1) cc),rdA (some ⟨gk,ok,none⟩) (keyV ks),rdA (some ⟨gq,oq,none⟩) (intsV (c0 :: cs)),blk gb (.cells ((byteV (padZ A)).take at_ ++ byteV (le4 x) ++ (byteV (padZ A)).drop (at_ + (byteV (le4 x)).length)).toArray 5 (0,0))] ++ [_]) := H
     rw [← HAT.out,lay_step A (le4 x) (by rw [le4_len];exact HAL.out),HNX.out] at H
     rw [show IntKind.i64.wrap ((at_ : Int) + 4) = ((innA ks c0 cs (i + 1 + 1)).length : Int) by rw [IntKind.wrap_i64,← HNX.out,List.length_append,le4_len,HAT.out];have := HA4.out;omega]
     clear hs0 hs1 hs2
     go_wp2
     go_roundw
     case rel => exact ⟨i + 1 + 1,congrArg _ (by omega),rfl,HJ.out,H.take 11⟩
     case measure => have := HJ.out;simp [intOf];omega
   ·obtain rfl : j = n + 1 := by omega
    rw [HIE.out] at H
    have hjj : ((n : Int) + 1) < (n : Int) + 1 → False := by omega
    replace H := H.recast 10 (A' := ownB gb 0 (encInner ks (c0 :: cs))) rfl (fun h => ownB_of_row (by rw [List.append_nil];exact h)) (fun k hk => hk) (fun k hk => hk.elim)
    replace H : St O R0 w _ (s.L ++ [ownB gb 0 (encInner ks (c0 :: cs))] ++ [nodeA g home false (.slice none 0 0) (.slice pk n ck) (.slice pc (n + 1) cc),rdA pk (keyV ks),rdA pc (intsV (c0 :: cs))]) := St.swap (A := s.L) (E := [nodeA g home false (.slice none 0 0) (.slice pk n ck) (.slice pc (n + 1) cc),rdA pk (keyV ks),rdA pc (intsV (c0 :: cs))]) (R := [ownB gb 0 (encInner ks (c0 :: cs))]) H
    have hp0 := row_cell (H.at 8 rfl) (nRow0 _ _ _ _ _)
    go_wp2_with (first
     | (go_at_call 17;go_loud ((refine (wr_TX (s := s) (B := ownB gb 0 (encInner ks (c0 :: cs))) (H.take 8).bundle HO.out _ home rfl HN.out (fun W h => ⟨ownB_bytes h,ownB_lt h⟩) HEL.out).mono ?_);rintro e W ⟨rfl,s1,hs1,hto⟩;replace H := hto.front (R := [nodeA g home false (.slice none 0 0) (.slice pk n ck) (.slice pc (n + 1) cc),rdA pk (keyV ks),rdA pc (intsV (c0 :: cs))]) H;clear hto hp0))
     | (go_at_call 123;go_loud ((refine (bad_okR _).mono ?_);rintro e W' ⟨rfl,rfl⟩)))
    go_ret
    refine ⟨rfl,s1,hs1,St.bunTo ?_⟩
    exact (St.swap (A := s1.L) (E := [ownB gb 0 (encInner ks (c0 :: cs))]) (R := [nodeA g home false (.slice none 0 0) (.slice pk n ck) (.slice pc (n + 1) cc),rdA pk (keyV ks),rdA pc (intsV (c0 :: cs))]) H).take 10
end Go.Proofs.YtlgciddnpinpbaaGreatDoor
