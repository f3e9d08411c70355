/- Texts of this proof, packed. -/
import Derived.Test.YtlgciddnpinpbaaGreatDoorPkBase4
import Derived.Test.YtlgciddnpinpbaaGreatDoorPqA
import Derived.Test.YtlgciddnpinpbaaGreatDoorPqR
import Derived.Test.YtlgciddnpinpbaaGreatDoorPqB
import Derived.Test.YtlgciddnpinpbaaGreatDoorPqC
import Derived.Test.YtlgciddnpinpbaaGreatDoorPqD
set_option linter.unusedSimpArgs false
set_option linter.unusedVariables false
namespace Go.Proofs.YtlgciddnpinpbaaGreatDoor
open Go.RowKit
set_option maxRecDepth 100000
theorem le4_len (n : Nat) : (le4 n).length = 4 := Lib.leBytes_length 4 n
theorem encKids_len : ∀ (ks : List (List UInt8)) (cs : List Nat),cs.length = ks.length → (∀ k ∈ ks,k.length = 32) → (encKids ks cs).length = ks.length * 36
 | [],[],_,_ => rfl
 | k :: ks,c :: cs,h,hk => by
  have ih := encKids_len ks cs (by simpa using h) (fun x hx => hk x (List.mem_cons_of_mem _ hx))
  have h1 := hk k (List.mem_cons_self ..)
  simp only [encKids,List.length_append,ih,h1,le4_len,List.length_cons]
  omega
theorem encKids_split : ∀ (ks : List (List UInt8)) (cs : List Nat) (j : Nat) (k : List UInt8) (c : Nat),cs.length = ks.length → ks[j]? = some k → cs[j]? = some c →
  encKids ks cs = encKids (ks.take j) (cs.take j) ++ (k ++ (le4 c ++ encKids (ks.drop (j + 1)) (cs.drop (j + 1))))
 | k' :: ks,c' :: cs,0,k,c,_,h1,h2 => by
  simp at h1 h2
  subst h1 h2
  simp [encKids]
 | k' :: ks,c' :: cs,j + 1,k,c,h,h1,h2 => by
  have ih := encKids_split ks cs j k c (by simpa using h) (by simpa using h1) (by simpa using h2)
  simp only [List.take_succ_cons,List.drop_succ_cons,encKids]
  rw [ih]
  simp only [List.append_assoc]
theorem encInner_len (ks : List (List UInt8)) (cs : List Nat) (hc : cs.length = ks.length + 1) (hk : ∀ k ∈ ks,k.length = 32) (h6 : ks.length ≤ 6) : (encInner ks cs).length = 248 := by
 match cs,hc with
 | c :: cs,hc =>
  have h1 := encKids_len ks cs (by simpa using hc) hk
  simp only [encInner,List.length_append,List.tail_cons,h1,le4_len,List.length_replicate,List.length_cons,List.length_nil]
  omega
theorem encInner_first (ks : List (List UInt8)) (c : Nat) (cs : List Nat) (hc : c < 4294967296) : le (encInner ks (c :: cs)) 8 4 = c := by
 have := le_at ([2,UInt8.ofNat ks.length] ++ List.replicate 6 0) (le4 c) (encKids ks cs ++ List.replicate (236 - 36 * ks.length) 0) 8 4 c (by simp) rfl (by omega)
 simpa [encInner,List.append_assoc] using this
theorem encInner_at (ks : List (List UInt8)) (c0 : Nat) (cs : List Nat) (hl : cs.length = ks.length) (hk : ∀ k ∈ ks,k.length = 32) (j : Nat) (k : List UInt8) (c : Nat) (h1 : ks[j]? = some k) (h2 : cs[j]? = some c) (hc : c < 4294967296) :
  ((encInner ks (c0 :: cs)).drop (12 + j * 36)).take 32 = k ∧ le (encInner ks (c0 :: cs)) (12 + j * 36 + 32) 4 = c := by
 have hj : j < ks.length := (List.getElem?_eq_some_iff.1 h1).1
 have hk1 := hk k (List.mem_of_getElem? h1)
 have hs := encKids_split ks cs j k c hl h1 h2
 have hpl : (encKids (ks.take j) (cs.take j)).length = j * 36 := by
  rw [encKids_len _ _ (by simp;omega) (fun x hx => hk x (List.mem_of_mem_take hx)),List.length_take,Nat.min_eq_left (by omega)]
 obtain ⟨A,hA⟩ : ∃ A,[2,UInt8.ofNat ks.length] ++ List.replicate 6 0 ++ le4 c0 ++ encKids (ks.take j) (cs.take j) = A := ⟨_,rfl⟩
 obtain ⟨B,hB⟩ : ∃ B,encKids (ks.drop (j + 1)) (cs.drop (j + 1)) ++ List.replicate (236 - 36 * ks.length) (0 : UInt8) = B := ⟨_,rfl⟩
 have hAl : A.length = 12 + j * 36 := by
  rw [← hA];simp only [List.length_append,le4_len,hpl,List.length_replicate,List.length_cons,List.length_nil]
 have e : encInner ks (c0 :: cs) = A ++ (k ++ (le4 c ++ B)) := by
  rw [← hA,← hB]
  simp only [encInner,List.headD_cons,List.tail_cons,hs,List.append_assoc]
 refine ⟨?_,?_⟩
 ·rw [e,← hAl,List.drop_left,← hk1,List.take_left]
 ·have := le_at (A ++ k) (le4 c) B (12 + j * 36 + 32) 4 c (by rw [List.length_append,hAl,hk1]) rfl (by omega)
  rw [e]
  simpa [List.append_assoc] using this
theorem size_key (l : List Value) (h : l.length = 32) : (Tryz.prog.info? 67).map (·.size) = some l.toArray.size := by
 rw [sizeK];simp [h]
theorem key_c1 (k : List UInt8) (h : k.length = 32) : (List.replicate 32 (Value.int .u8 0)).take 0 ++ byteV k ++ (List.replicate 32 (Value.int .u8 0)).drop (0 + (byteV k).length) = byteV k := by
 rw [byteV_length,h];simp
set_option maxHeartbeats 16000000 in
theorem load_inner {w : World} {s : TX} {c : Nat} (hb : Bundle w s.L) (h : s.Ok c) (z : Int) (home : Nat) (hz : (home : Int) = z) (hn : home < s.n) (ks : List (List UInt8)) (c0 : Nat) (cs : List Nat) (hv : s.v home = encInner ks (c0 :: cs)) (hl : cs.length = ks.length) (h1 : 1 ≤ ks.length) (h6 : ks.length ≤ 6)
  (hk : ∀ k ∈ ks,k.length = 32) (h0 : c0 < 4294967296) (hc : ∀ x ∈ cs,x < 4294967296) :
  Calls Tryz.prog 124 #[.pointer (some ⟨s.g,0,none⟩),.int .i64 z] w fun e w' => ∃ g pk ck pc cc,e = .returned (.tuple #[.pointer (some ⟨g,0,none⟩),.nilIface]) ∧
   BunTo w (ownL s.L) (rdL s.L) (s.L ++ [nodeA g home false (.slice none 0 0) (.slice pk ks.length ck) (.slice pc (ks.length + 1) cc),ownS 67 32 pk ks.length ck (keyV ks),ownS 3 1 pc (ks.length + 1) cc (intsV (c0 :: cs))]) w' := by
 subst hz
 have H := hb.open_
 obtain ⟨O,hO⟩ : ∃ O,ownL s.L = O := ⟨_,rfl⟩
 obtain ⟨R0,hR0⟩ : ∃ R,rdL s.L = R := ⟨_,rfl⟩
 rw [hO,hR0] at H ⊢
 have HO := Lib.hid h
 have HN := Lib.hid hn
 have HK := Lib.hid hk
 obtain ⟨n,hnl⟩ : ∃ n,ks.length = n := ⟨_,rfl⟩
 have HPL := Lib.hid hnl
 have HCL := Lib.hid (show cs.length = n by rw [hl,hnl])
 rw [hnl] at h1 h6 ⊢
 have hn1 : ¬ ((n : Int) < 1) := by omega
 have hn6 : ¬ (6 < (n : Int)) := by omega
 have hn0 : 0 ≤ (n : Int) := by omega
 have hn7 : (n : Int) ≤ 6 := by omega
 have hu : ((UInt8.ofNat n).toNat : Int) = (n : Int) := by rw [UInt8.toNat_ofNat'];omega
 obtain ⟨l,hl'⟩ : ∃ l,encInner ks (c0 :: cs) = l := ⟨_,rfl⟩
 have HL := Lib.hid (show s.v home = l by rw [hv,hl'])
 have HLL := Lib.hid (show l.length = 248 by rw [← hl'];exact encInner_len ks _ (by simp;omega) hk (by omega))
 have HL0 := Lib.hid (show l[0]? = some 2 by rw [← hl'];rfl)
 have HL1 := Lib.hid (show l[1]? = some (UInt8.ofNat n) by rw [← hl',← hnl];rfl)
 have HLF := Lib.hid (show le l 8 4 = c0 by rw [← hl'];exact encInner_first ks c0 cs h0)
 have HLA := Lib.hid (show ∀ j k x,ks[j]? = some k → cs[j]? = some x → (l.drop (12 + j * 36)).take 32 = k ∧ le l (12 + j * 36 + 32) 4 = x from fun j k x hj hx => by rw [← hl'];exact encInner_at ks c0 cs hl hk j k x hj hx (hc x (List.mem_of_getElem? hx)))
 have HU := Lib.hid hu
 have H7 := Lib.hid h6
 clear hb h hO hR0 hn hk hnl hv hl hu h1 h6 hl' h0 hc
 go_enter Tryz.func124,Tryz.ntmps124
 go_upto_region 4 with (first
  | (go_at_call 19;go_loud ((refine (rd_TX (s := s) H.bundle HO.out _ home rfl HN.out).mono ?_);rintro e W ⟨gc,off,cap,rfl,_,hcap,hgc,hto⟩;replace H := hto.front2 (R := []) (by rw [List.append_nil];exact H);clear hto;rw [HL.out] at H)))
 replace H : St O R0 w W (s.L ++ [ownB gc off l]) := by rw [List.append_nil] at H;exact H
 have hc0 := (ownB_bytes (H.at 7 rfl)).cellv HL0.out
 rw [Nat.add_zero,show (((2 : UInt8).toNat : Nat) : Int) = 2 from rfl] at hc0
 go_upto_region 5 with (first
  | (refine wpList_box_st H rfl 149 _ rfl _ rfl ?_;clear H hc0;intro W gn H))
 replace H : St O R0 w W (s.L ++ [ownB gc off l,nodeA gn home false (.slice none 0 0) (.slice none 0 0) (.slice none 0 0)]) := H
 have hc0 := (ownB_bytes (H.at 7 rfl)).cellv HL0.out
 rw [Nat.add_zero,show (((2 : UInt8).toNat : Nat) : Int) = 2 from rfl] at hc0
 have hc1 := (ownB_bytes (H.at 7 rfl)).cellv HL1.out
 rw [HU.out] at hc1
 have hf := row_cell (H.at 8 rfl) (nRow1 _ _ _ _ _)
 go_upto_region 21 with fail
 clear hc0 hc1 hf
 replace H := (H.addNil 67 32).addNil 3 1
 replace H : St O R0 w W (s.L ++ [ownB gc off l,nodeA gn home false (.slice none 0 0) (.slice none 0 0) (.slice none 0 0),ownS 67 32 none 0 0 [],ownS 3 1 none 0 0 []]) := H
 replace H := H.drew
 refine wp_region_T (fun w' => w'.cell? ⟨gn,4,none⟩ = some (.slice none 0 0)) [11] (by kernel_rfl) (row_cell (H.at 8 rfl) (nRow4 _ _ _ _ _)) (fun hHeld => ?_)
 (refine wpAnyT_pure (i := 0) (v := ?_) rfl (by kernel_rfl) (by kernel_rfl) (by kernel_rfl) (by kernel_rfl) (fun _ _ _ h => h) (Or.inl ⟨by rfl,?_⟩) (Or.inr (by assumption)) ?_;rotate_left;focus (intro w hSw;clear hSw;go_simp;all_goals (with_reducible rfl)));(try simp only [Act.put,rp1,rp2,rp3,rp4,rp5,rp6])
 (refine wpAnyT_pure (i := 1) (v := ?_) rfl (by kernel_rfl) (by kernel_rfl) (by kernel_rfl) (by kernel_rfl) (fun _ _ _ h => h) (Or.inl ⟨by rfl,?_⟩) (Or.inr (by assumption)) ?_;rotate_left;focus (intro w hSw;clear hSw;go_simp;all_goals (with_reducible rfl)));(try simp only [Act.put,rp1,rp2,rp3,rp4,rp5,rp6])
 (refine wpAnyT_pure (i := 2) (v := ?_) rfl (by kernel_rfl) (by kernel_rfl) (by kernel_rfl) (by kernel_rfl) (fun _ _ _ h => h) (Or.inl ⟨by rfl,?_⟩) (Or.inr (by assumption)) ?_;rotate_left;focus (intro w hSw;clear hSw;go_simp;all_goals (with_reducible rfl)));(try simp only [Act.put,rp1,rp2,rp3,rp4,rp5,rp6])
 (refine wpAnyT_pure (i := 3) (v := ?_) rfl (by kernel_rfl) (by kernel_rfl) (by kernel_rfl) (by kernel_rfl) (fun _ _ _ h => h) (Or.inl ⟨by rfl,?_⟩) (Or.inr (by assumption)) ?_;rotate_left;focus (intro w hSw;clear hSw;go_simp;all_goals (with_reducible rfl)));(try simp only [Act.put,rp1,rp2,rp3,rp4,rp5,rp6])
 (refine wpAnyT_take (i := 4) (f := 20) rfl (by kernel_rfl) (by kernel_rfl) (by kernel_rfl) (by kernel_rfl) (by kernel_rfl) (fun _ _ _ h => h) ((yieldsIf_load1 (by rfl) 72 _ rfl _ _ (by rfl) _ Tryz.underlying72 rfl _ (fun w h => h))) (by assumption) ?_);(try simp only [Act.put,rp1,rp2,rp3,rp4,rp5,rp6])
 (refine wpAnyT_pure (i := 5) (v := ?_) rfl (by kernel_rfl) (by kernel_rfl) (by kernel_rfl) (by kernel_rfl) (fun _ _ _ h => h) (Or.inl ⟨by rfl,?_⟩) (Or.inr (by assumption)) ?_;rotate_left;focus (intro w hSw;clear hSw;go_simp;all_goals (with_reducible rfl)));(try simp only [Act.put,rp1,rp2,rp3,rp4,rp5,rp6])
 (refine wpAnyT_one (i := 6) (by kernel_rfl) rfl (fun K hK => ?_));(rw [if_pos (by rfl)]);(go_simp;go_at_call 126;(refine (tnum_calls gc off 248 cap l _ 8 rfl _ (ownB_bytes (H.at 7 rfl)) HLL.out (by omega) hcap (by omega)).mono ?_);rintro e W' ⟨rfl,rfl⟩;rw [HLF.out];(try go_wp2_with fail);refine hK.out _ _ (Or.inr hHeld) ?_;clear hK K);(try simp only [Act.put,rp1,rp2,rp3,rp4,rp5,rp6])
 (refine wpAnyT_one (i := 7) (by kernel_rfl) rfl (fun K hK => ?_));(rw [if_pos (by rfl)]);(refine wp_buildslice_st H 72 3 _ _ rfl Tryz.underlying72 _ size_int _ zero_i64 (by decide) (by decide) [(0,.int .i64 (c0 : Int))] (by simp [Act.eval]) _ (fill_int _) ?_;clear H;intro W6 gs H;have hHeld2 : W6.cell? ⟨gn,4,none⟩ = some (.slice none 0 0) := row_cell (H.at 8 rfl) (nRow4 _ _ _ _ _);refine hK.out _ _ (Or.inr hHeld2) ?_;clear hK K hHeld);(try simp only [Act.put,rp1,rp2,rp3,rp4,rp5,rp6])
 (refine wpAnyT_one (i := 8) (by kernel_rfl) rfl (fun K hK => ?_));(rw [if_pos (by rfl)]);(refine wp_append_ownS H 10 _ _ 72 rfl _ Tryz.underlying72 _ 1 8 infoI rfl (by omega) none 0 0 (by rfl) _ rfl ⟨gs,0,none⟩ 1 _ (by rfl) [.int .i64 (c0 : Int)] rfl (news_of_row (H.at 11 rfl)) (by simp [Value.oneCell']) (by omega) (by simp only [maxLen];omega) (by omega) ?_;clear H;intro W7 gq cq H;have hHeld3 : W7.cell? ⟨gn,4,none⟩ = some (.slice none 0 0) := row_cell (H.at 8 rfl) (nRow4 _ _ _ _ _);refine hK.out _ _ (Or.inr hHeld3) ?_;clear hK K hHeld2);(try simp only [Act.put,rp1,rp2,rp3,rp4,rp5,rp6])
 (refine wpAnyT_pure (i := 9) (v := ?_) rfl (by kernel_rfl) (by kernel_rfl) (by kernel_rfl) (by kernel_rfl) (fun _ _ _ h => h) (Or.inl ⟨by rfl,?_⟩) (Or.inr (by assumption)) ?_;rotate_left;focus (intro w hSw;clear hSw;go_simp;all_goals (with_reducible rfl)));(try simp only [Act.put,rp1,rp2,rp3,rp4,rp5,rp6])
 (refine wpAnyT_pure (i := 10) (v := ?_) rfl (by kernel_rfl) (by kernel_rfl) (by kernel_rfl) (by kernel_rfl) (fun _ _ _ h => h) (Or.inl ⟨by rfl,?_⟩) (Or.inr (by assumption)) ?_;rotate_left;focus (intro w hSw;clear hSw;go_simp;all_goals (with_reducible rfl)));(try simp only [Act.put,rp1,rp2,rp3,rp4,rp5,rp6])
 (refine wpAnyT_one (i := 11) (by kernel_rfl) rfl (fun K hK => ?_));(rw [if_pos (by rfl)]);(refine wp_store1_st H 8 72 _ _ rfl gn 4 (.slice (some ⟨gq,0,none⟩) 1 cq) (by rfl) (by rfl) rfl _ _ rfl size_slI (by simp [nRow]) ?_;clear H;intro W8 H;refine hK.out _ _ (Or.inl ⟨11,by simp,by kernel_rfl⟩) ?_;clear hK K hHeld3);(try simp only [Act.put,rp1,rp2,rp3,rp4,rp5,rp6])
 (refine wpAnyT_done (by kernel_rfl) ?_ _)
 rw [nSet4] at H
 rw [show (0 + 1 : Nat) = 1 from rfl]
 go_upto_region 23 with fail
 replace H : St O R0 w W8 (s.L ++ [ownB gc off l,nodeA gn home false (.slice none 0 0) (.slice none 0 0) (.slice (some ⟨gq,0,none⟩) 1 cq),ownS 67 32 none 0 0 [],ownS 3 1 (some ⟨gq,0,none⟩) 1 cq [.int .i64 (c0 : Int)]]) := St.take H 11
 go_loopw [102] (fun u wr => ∃ (j : Nat) (pk pc : Option Addr) (ck cc : Nat),u = .int .i64 (j : Int) ∧ j ≤ n ∧ St O R0 w wr (s.L ++ [ownB gc off l,nodeA gn home false (.slice none 0 0) (.slice pk j ck) (.slice pc (j + 1) cc),ownS 67 32 pk j ck (keyV (ks.take j)),ownS 3 1 pc (j + 1) cc (intsV (c0 :: cs.take j))])) (fun u _ => n - (intOf u).toNat)
 case atStart => exact ⟨0,none,some ⟨gq,0,none⟩,0,cq,rfl,Nat.zero_le _,H⟩
 case round =>
  clear H
  obtain ⟨j,pk,pc,ck,cc,rfl,hj,H⟩ := hrel
  have hj0 : 0 ≤ (j : Int) := by omega
  rcases Nat.lt_or_ge j n with hlt | hge
  ·have hjj : (j : Int) < (n : Int) := by omega
   obtain ⟨k,hk⟩ : ∃ k,ks[j]? = some k := ⟨_,List.getElem?_eq_getElem (by rw [HPL.out];exact hlt)⟩
   obtain ⟨x,hx⟩ : ∃ x,cs[j]? = some x := ⟨_,List.getElem?_eq_getElem (by rw [HCL.out];exact hlt)⟩
   have hkg := HK.out k (List.mem_of_getElem? hk)
   obtain ⟨at_,hat⟩ : ∃ a,12 + j * 36 = a := ⟨_,rfl⟩
   have hat2 : (12 : Int) + (j : Int) * 36 = (at_ : Int) := by omega
   have hat3 : at_ ≤ 192 := by have := H7.out;omega
   have hla := HLA.out j k x hk hx
   rw [hat] at hla
   have HK1 := Lib.hid hla.1
   have HX1 := Lib.hid hla.2
   have HKL := Lib.hid hkg
   have HKJ := Lib.hid hk
   have HXJ := Lib.hid hx
   have HJ := Lib.hid hlt
   have HAT := Lib.hid hat3
   have hs0 : 0 ≤ (at_ : Int) := by omega
   have hs1 : (at_ : Int) ≤ 248 := by omega
   have hs2 : ¬ cap = at_ := by omega
   have hs3 : (at_ : Int) ≤ 192 := by omega
   clear hk hx hkg hat hla hat3
   go_upto_region 27 with (first
    | (refine wpList_alloc_st H rfl 67 rfl _ zeroK ?_;clear H;intro W gx H))
   replace H : St O R0 w W (s.L ++ [ownB gc off l,nodeA gn home false (.slice none 0 0) (.slice pk j ck) (.slice pc (j + 1) cc),ownS 67 32 pk j ck (keyV (ks.take j)),ownS 3 1 pc (j + 1) cc (intsV (c0 :: cs.take j)),blk gx (.cells (List.replicate 32 (Value.int .u8 0)).toArray 67 (0,0))]) := H
   clear hat2
   replace H := H.drew
   go_still_tail 4,(by kernel_rfl)
   change wpList _ _ _ _ _ W.drew
   generalize W.drew = W2 at H ⊢
   go_upto_region 28 with (first
    | (refine wpList_copy_row H 11 rfl _ _ 22 22 rfl _ Tryz.underlying22 1 size_u8 _ _ _ _ rfl ⟨gc,off + at_,none⟩ _ _ rfl 32 (by have := HAT.out;omega) (byteV k) (by rw [byteV_length,HKL.out]) (bytes_cells (ownB_bytes (H.at 7 rfl)) at_ 32 HK1.out) (byteV_one _) (List.replicate 32 (.int .u8 0)) _ rfl (by rw [byteV_length,HKL.out,List.length_replicate];omega) ?_;clear H;intro W3 H))
   replace H : St O R0 w W3 (s.L ++ [ownB gc off l,nodeA gn home false (.slice none 0 0) (.slice pk j ck) (.slice pc (j + 1) cc),ownS 67 32 pk j ck (keyV (ks.take j)),ownS 3 1 pc (j + 1) cc (intsV (c0 :: cs.take j)),blk gx (.cells ((List.replicate 32 (Value.int .u8 0)).take 0 ++ byteV k ++ (List.replicate 32 (Value.int .u8 0)).drop (0 + (byteV k).length)).toArray 67 (0,0))]) := H
   rw [key_c1 k HKL.out] at H
   have hw1 : IntKind.i64.wrap ((at_ : Int) + 32) = (at_ : Int) + 32 := by rw [IntKind.wrap_i64];omega
   clear hs1 hs2
   have HKB := Lib.hid (show (byteV k).length = 32 by rw [byteV_length];exact HKL.out)
   replace H := H.drew
   refine wp_region_T (fun w' => w'.cell? ⟨gn,3,none⟩ = some (.slice pk j ck) ∧ w'.cell? ⟨gn,4,none⟩ = some (.slice pc (j + 1) cc) ∧ w'.heap[gx]? = some (.cells (byteV k).toArray 67 (0,0))) [18] (by kernel_rfl) ⟨row_cell (H.at 8 rfl) (nRow3 _ _ _ _ _),row_cell (H.at 8 rfl) (nRow4 _ _ _ _ _),H.at 11 rfl⟩ (fun hHeld => ?_)
   (refine wpAnyT_pure (i := 0) (v := ?_) rfl (by kernel_rfl) (by kernel_rfl) (by kernel_rfl) (by kernel_rfl) (fun _ _ _ h => h) (Or.inl ⟨by rfl,?_⟩) (Or.inr (by assumption)) ?_;rotate_left;focus (intro w hSw;clear hSw;go_simp;all_goals (with_reducible rfl)));(try simp only [Act.put,rp1,rp2,rp3,rp4,rp5,rp6])
   (refine wpAnyT_pure (i := 1) (v := ?_) rfl (by kernel_rfl) (by kernel_rfl) (by kernel_rfl) (by kernel_rfl) (fun _ _ _ h => h) (Or.inl ⟨by rfl,?_⟩) (Or.inr (by assumption)) ?_;rotate_left;focus (intro w hSw;clear hSw;go_simp;all_goals (with_reducible rfl)));(try simp only [Act.put,rp1,rp2,rp3,rp4,rp5,rp6])
   (refine wpAnyT_pure (i := 2) (v := ?_) rfl (by kernel_rfl) (by kernel_rfl) (by kernel_rfl) (by kernel_rfl) (fun _ _ _ h => h) (Or.inl ⟨by rfl,?_⟩) (Or.inr (by assumption)) ?_;rotate_left;focus (intro w hSw;clear hSw;go_simp;all_goals (with_reducible rfl)));(try simp only [Act.put,rp1,rp2,rp3,rp4,rp5,rp6])
   (refine wpAnyT_pure (i := 3) (v := ?_) rfl (by kernel_rfl) (by kernel_rfl) (by kernel_rfl) (by kernel_rfl) (fun _ _ _ h => h) (Or.inl ⟨by rfl,?_⟩) (Or.inr (by assumption)) ?_;rotate_left;focus (intro w hSw;clear hSw;go_simp;all_goals (with_reducible rfl)));(try simp only [Act.put,rp1,rp2,rp3,rp4,rp5,rp6])
   (refine wpAnyT_pure (i := 4) (v := ?_) rfl (by kernel_rfl) (by kernel_rfl) (by kernel_rfl) (by kernel_rfl) (fun _ _ _ h => h) (Or.inl ⟨by rfl,?_⟩) (Or.inr (by assumption)) ?_;rotate_left;focus (intro w hSw;clear hSw;go_simp;all_goals (with_reducible rfl)));(try simp only [Act.put,rp1,rp2,rp3,rp4,rp5,rp6])
   (refine wpAnyT_take (i := 5) (f := 30) rfl (by kernel_rfl) (by kernel_rfl) (by kernel_rfl) (by kernel_rfl) (by kernel_rfl) (fun _ _ _ h => h) ((yieldsIf_load1 (by rfl) 147 _ rfl _ _ (by rfl) _ Tryz.underlying147 rfl _ (fun w h => h.1))) (by assumption) ?_);(try simp only [Act.put,rp1,rp2,rp3,rp4,rp5,rp6])
   (refine wpAnyT_take (i := 6) (f := 30) rfl (by kernel_rfl) (by kernel_rfl) (by kernel_rfl) (by kernel_rfl) (by kernel_rfl) (fun _ _ _ h => h) ((yieldsIf_loadrow (by rfl) 67 _ rfl _ (by rfl) _ _ _ _ Tryz.underlying67 rfl (size_key _ HKB.out) (fun w h => h.2.2))) (by assumption) ?_);(try simp only [Act.put,rp1,rp2,rp3,rp4,rp5,rp6])
   (refine wpAnyT_pure (i := 9) (v := ?_) rfl (by kernel_rfl) (by kernel_rfl) (by kernel_rfl) (by kernel_rfl) (fun _ _ _ h => h) (Or.inl ⟨by rfl,?_⟩) (Or.inr (by assumption)) ?_;rotate_left;focus (intro w hSw;clear hSw;go_simp;all_goals (with_reducible rfl)));(try simp only [Act.put,rp1,rp2,rp3,rp4,rp5,rp6])
   (refine wpAnyT_pure (i := 10) (v := ?_) rfl (by kernel_rfl) (by kernel_rfl) (by kernel_rfl) (by kernel_rfl) (fun _ _ _ h => h) (Or.inl ⟨by rfl,?_⟩) (Or.inr (by assumption)) ?_;rotate_left;focus (intro w hSw;clear hSw;go_simp;all_goals (with_reducible rfl)));(try simp only [Act.put,rp1,rp2,rp3,rp4,rp5,rp6])
   (refine wpAnyT_pure (i := 11) (v := ?_) rfl (by kernel_rfl) (by kernel_rfl) (by kernel_rfl) (by kernel_rfl) (fun _ _ _ h => h) (Or.inl ⟨by rfl,?_⟩) (Or.inr (by assumption)) ?_;rotate_left;focus (intro w hSw;clear hSw;go_simp;all_goals (with_reducible rfl)));(try simp only [Act.put,rp1,rp2,rp3,rp4,rp5,rp6])
   (refine wpAnyT_take (i := 12) (f := 30) rfl (by kernel_rfl) (by kernel_rfl) (by kernel_rfl) (by kernel_rfl) (by kernel_rfl) (fun _ _ _ h => h) ((yieldsIf_load1 (by rfl) 72 _ rfl _ _ (by rfl) _ Tryz.underlying72 rfl _ (fun w h => h.2.1))) (by assumption) ?_);(try simp only [Act.put,rp1,rp2,rp3,rp4,rp5,rp6])
   (refine wpAnyT_pure (i := 13) (v := ?_) rfl (by kernel_rfl) (by kernel_rfl) (by kernel_rfl) (by kernel_rfl) (fun _ _ _ h => h) (Or.inl ⟨by rfl,?_⟩) (Or.inr (by assumption)) ?_;rotate_left;focus (intro w hSw;clear hSw;go_simp;all_goals (with_reducible rfl)));(try simp only [Act.put,rp1,rp2,rp3,rp4,rp5,rp6])
   (refine wpAnyT_pure (i := 14) (v := ?_) rfl (by kernel_rfl) (by kernel_rfl) (by kernel_rfl) (by kernel_rfl) (fun _ _ _ h => h) (Or.inl ⟨by rfl,?_⟩) (Or.inr (by assumption)) ?_;rotate_left;focus (intro w hSw;clear hSw;go_simp;all_goals (with_reducible rfl)));(try simp only [Act.put,rp1,rp2,rp3,rp4,rp5,rp6])
   (refine wpAnyT_pure (i := 15) (v := ?_) rfl (by kernel_rfl) (by kernel_rfl) (by kernel_rfl) (by kernel_rfl) (fun _ _ _ h => h) (Or.inl ⟨by rfl,?_⟩) (Or.inr (by assumption)) ?_;rotate_left;focus (intro w hSw;clear hSw;go_simp;all_goals (with_reducible rfl)));(try simp only [Act.put,rp1,rp2,rp3,rp4,rp5,rp6])
   (refine wpAnyT_one (i := 7) (by kernel_rfl) rfl (fun K hK => ?_));(rw [if_pos (by rfl)]);(refine wp_buildslice_st H 147 67 _ _ rfl Tryz.underlying147 32 sizeK _ zeroK (by decide) (by decide) [(0,.agg (byteV k).toArray)] (by simp [Act.eval]) _ (fill_one 32 (byteV k) _ (by simp) HKB.out) ?_;clear H;intro W6 gs H;have hHeld2 : W6.cell? ⟨gn,3,none⟩ = some (.slice pk j ck) ∧ W6.cell? ⟨gn,4,none⟩ = some (.slice pc (j + 1) cc) ∧ W6.heap[gx]? = some (.cells (byteV k).toArray 67 (0,0)) := ⟨row_cell (H.at 8 rfl) (nRow3 _ _ _ _ _),row_cell (H.at 8 rfl) (nRow4 _ _ _ _ _),H.at 11 rfl⟩;refine hK.out _ _ (Or.inr hHeld2) ?_;clear hK K hHeld);(try simp only [Act.put,rp1,rp2,rp3,rp4,rp5,rp6])
   (refine wpAnyT_one (i := 8) (by kernel_rfl) rfl (fun K hK => ?_));(rw [if_pos (by rfl)]);(refine wp_append_ownS H 9 _ _ 147 rfl _ Tryz.underlying147 _ 32 32 infoK rfl (by omega) pk j ck (by rfl) _ rfl ⟨gs,0,none⟩ 1 _ (by rfl) (byteV k) (by rw [HKB.out]) (fun i u hu => World.news_of_block (H.at 12 rfl) i u hu) (byteV_one _) (by omega) (by have := HJ.out;have := H7.out;simp only [maxLen];omega) (by have := HJ.out;have := H7.out;omega) ?_;clear H;intro W7 gk dk H;have hHeld3 : W7.cell? ⟨gn,3,none⟩ = some (.slice pk j ck) ∧ W7.cell? ⟨gn,4,none⟩ = some (.slice pc (j + 1) cc) ∧ W7.heap[gx]? = some (.cells (byteV k).toArray 67 (0,0)) := ⟨row_cell (H.at 8 rfl) (nRow3 _ _ _ _ _),row_cell (H.at 8 rfl) (nRow4 _ _ _ _ _),H.at 11 rfl⟩;refine hK.out _ _ (Or.inr hHeld3) ?_;clear hK K hHeld2);(try simp only [Act.put,rp1,rp2,rp3,rp4,rp5,rp6])
   (refine wpAnyT_one (i := 16) (by kernel_rfl) rfl (fun K hK => ?_));(rw [if_pos (by rfl)]);(go_simp;go_at_call 126;(refine (tnum_calls gc off 248 cap l _ (at_ + 32) (by omega) _ (ownB_bytes (H.at 7 rfl)) HLL.out (by have := HAT.out;omega) hcap (by omega)).mono ?_);rintro e W' ⟨rfl,rfl⟩;rw [HX1.out];(try go_wp2_with fail);refine hK.out _ _ (Or.inr hHeld3) ?_;clear hK K);(try simp only [Act.put,rp1,rp2,rp3,rp4,rp5,rp6])
   (refine wpAnyT_one (i := 17) (by kernel_rfl) rfl (fun K hK => ?_));(rw [if_pos (by rfl)]);(refine wp_buildslice_st H 72 3 _ _ rfl Tryz.underlying72 _ size_int _ zero_i64 (by decide) (by decide) [(0,.int .i64 (x : Int))] (by simp [Act.eval]) _ (fill_int _) ?_;clear H;intro W8 g2 H;have hHeld4 : W8.cell? ⟨gn,3,none⟩ = some (.slice pk j ck) ∧ W8.cell? ⟨gn,4,none⟩ = some (.slice pc (j + 1) cc) ∧ W8.heap[gx]? = some (.cells (byteV k).toArray 67 (0,0)) := ⟨row_cell (H.at 8 rfl) (nRow3 _ _ _ _ _),row_cell (H.at 8 rfl) (nRow4 _ _ _ _ _),H.at 11 rfl⟩;refine hK.out _ _ (Or.inr hHeld4) ?_;clear hK K hHeld3);(try simp only [Act.put,rp1,rp2,rp3,rp4,rp5,rp6])
   (refine wpAnyT_one (i := 18) (by kernel_rfl) rfl (fun K hK => ?_));(rw [if_pos (by rfl)]);(refine wp_append_ownS H 10 _ _ 72 rfl _ Tryz.underlying72 _ 1 8 infoI rfl (by omega) pc (j + 1) cc (by rfl) _ rfl ⟨g2,0,none⟩ 1 _ (by rfl) [.int .i64 (x : Int)] rfl (news_of_row (H.at 13 rfl)) (by simp [Value.oneCell']) (by omega) (by have := HJ.out;have := H7.out;simp only [maxLen];omega) (by have := HJ.out;have := H7.out;omega) ?_;clear H hHeld4;intro W9 gi di H;refine hK.out _ _ (Or.inl ⟨18,by simp,by kernel_rfl⟩) ?_;clear hK K);(try simp only [Act.put,rp1,rp2,rp3,rp4,rp5,rp6])
   (refine wpAnyT_pure (i := 19) (v := ?_) rfl (by kernel_rfl) (by kernel_rfl) (by kernel_rfl) (by kernel_rfl) (fun _ _ _ h => h) (Or.inl ⟨by rfl,?_⟩) (Or.inl ⟨18,by simp,by kernel_rfl⟩) ?_;rotate_left;focus (intro w hSw;clear hSw;go_simp;all_goals (with_reducible rfl)));(try simp only [Act.put,rp1,rp2,rp3,rp4,rp5,rp6])
   (refine wpAnyT_pure (i := 20) (v := ?_) rfl (by kernel_rfl) (by kernel_rfl) (by kernel_rfl) (by kernel_rfl) (fun _ _ _ h => h) (Or.inl ⟨by rfl,?_⟩) (Or.inl ⟨18,by simp,by kernel_rfl⟩) ?_;rotate_left;focus (intro w hSw;clear hSw;go_simp;all_goals (with_reducible rfl)));(try simp only [Act.put,rp1,rp2,rp3,rp4,rp5,rp6])
   (refine wpAnyT_one (i := 21) (by kernel_rfl) rfl (fun K hK => ?_));(rw [if_pos (by rfl)]);(refine wp_store1_st H 8 147 _ _ rfl gn 3 (.slice (some ⟨gk,0,none⟩) (j + 1) dk) (by rfl) (by rfl) rfl _ _ rfl size_slK (by simp [nRow]) ?_;clear H;intro W10 H;refine hK.out _ _ (Or.inl ⟨18,by simp,by kernel_rfl⟩) ?_;clear hK K);(try simp only [Act.put,rp1,rp2,rp3,rp4,rp5,rp6])
   (refine wpAnyT_pure (i := 22) (v := ?_) rfl (by kernel_rfl) (by kernel_rfl) (by kernel_rfl) (by kernel_rfl) (fun _ _ _ h => h) (Or.inl ⟨by rfl,?_⟩) (Or.inl ⟨18,by simp,by kernel_rfl⟩) ?_;rotate_left;focus (intro w hSw;clear hSw;go_simp;all_goals (with_reducible rfl)));(try simp only [Act.put,rp1,rp2,rp3,rp4,rp5,rp6])
   (refine wpAnyT_pure (i := 23) (v := ?_) rfl (by kernel_rfl) (by kernel_rfl) (by kernel_rfl) (by kernel_rfl) (fun _ _ _ h => h) (Or.inl ⟨by rfl,?_⟩) (Or.inl ⟨18,by simp,by kernel_rfl⟩) ?_;rotate_left;focus (intro w hSw;clear hSw;go_simp;all_goals (with_reducible rfl)));(try simp only [Act.put,rp1,rp2,rp3,rp4,rp5,rp6])
   rw [nSet3] at H
   (refine wpAnyT_one (i := 24) (by kernel_rfl) rfl (fun K hK => ?_));(rw [if_pos (by rfl)]);(refine wp_store1_st H 8 72 _ _ rfl gn 4 (.slice (some ⟨gi,0,none⟩) (j + 1 + 1) di) (by rfl) (by rfl) rfl _ _ rfl size_slI (by simp [nRow]) ?_;clear H;intro W11 H;refine hK.out _ _ (Or.inl ⟨18,by simp,by kernel_rfl⟩) ?_;clear hK K);(try simp only [Act.put,rp1,rp2,rp3,rp4,rp5,rp6])
   (refine wpAnyT_done (by kernel_rfl) ?_ _)
   rw [nSet4] at H
   clear hs0 hs3 hw1
   go_wp2
   go_roundw
   case rel =>
    refine ⟨j + 1,some ⟨gk,0,none⟩,some ⟨gi,0,none⟩,dk,di,congrArg _ (by omega),HJ.out,?_⟩
    have e1 : keyV (ks.take (j + 1)) = keyV (ks.take j) ++ byteV k := by
     rw [List.take_add_one,HKJ.out,keyV_append];simp [keyV]
    have e2 : intsV (c0 :: cs.take (j + 1)) = intsV (c0 :: cs.take j) ++ [.int .i64 (x : Int)] := by
     rw [List.take_add_one,HXJ.out];simp [intsV]
    rw [e1,e2]
    exact (show St O R0 w W11 (s.L ++ [ownB gc off l,nodeA gn home false (.slice none 0 0) (.slice (some ⟨gk,0,none⟩) (j + 1) dk) (.slice (some ⟨gi,0,none⟩) (j + 1 + 1) di),ownS 67 32 (some ⟨gk,0,none⟩) (j + 1) dk (keyV (ks.take j) ++ byteV k),ownS 3 1 (some ⟨gi,0,none⟩) (j + 1 + 1) di (intsV (c0 :: cs.take j) ++ [.int .i64 (x : Int)])] ++ [_,_,_]) from H).take 11
   case measure => have := HJ.out;simp [intOf];omega
  ·obtain rfl : j = n := by omega
   go_wp2
   refine bodyPost_ret (results_tmp2 rfl _ _ _) rfl ?_
   rw [List.take_of_length_le (by rw [HPL.out];exact Nat.le_refl _),List.take_of_length_le (by rw [HCL.out];exact Nat.le_refl _)] at H
   refine ⟨gn,pk,ck,pc,cc,rfl,St.bunTo ?_⟩
   exact (St.swap (A := s.L) (E := [ownB gc off l]) (R := [nodeA gn home false (.slice none 0 0) (.slice pk j ck) (.slice pc (j + 1) cc),ownS 67 32 pk j ck (keyV ks),ownS 3 1 pc (j + 1) cc (intsV (c0 :: cs))]) H).take 10
end Go.Proofs.YtlgciddnpinpbaaGreatDoor
