/- Texts of this proof, packed. -/
import Derived.Test.YtlgciddnpinpbaaGreatDoorPkBase4
import Derived.Test.YtlgciddnpinpbaaGreatDoorPqA
import Derived.Test.YtlgciddnpinpbaaGreatDoorPqR
import Derived.Test.YtlgciddnpinpbaaGreatDoorPqB
import Derived.Test.YtlgciddnpinpbaaGreatDoorPqC
import Derived.Test.YtlgciddnpinpbaaGreatDoorPqJ
import Derived.Test.YtlgciddnpinpbaaGreatDoorPqE
import Derived.Test.YtlgciddnpinpbaaGreatDoorPqD
import Derived.Test.YtlgciddnpinpbaaGreatDoorPqG
import Derived.Test.YtlgciddnpinpbaaGreatDoorPqM
set_option linter.unusedSimpArgs false
set_option linter.unusedVariables false
namespace Go.Proofs.YtlgciddnpinpbaaGreatDoor
open Go.RowKit
set_option maxRecDepth 40000
set_option maxHeartbeats 4000000 in
theorem halves_inner1 {w : World} {s : TX} {c g home ck cc c0 n : Nat} {pk pc : Option Addr} {ks : List (List UInt8)} {cs : List Nat} (hb : Bundle w (s.L ++ [errA,nodeA g home false (.slice none 0 0) (.slice pk n ck) (.slice pc (n + 1) cc),ownS 67 32 pk n ck (keyV ks),ownS 3 1 pc (n + 1) cc (intsV (c0 :: cs))])) (h : s.Ok c) (hn : home < s.n) (hl : ks.length = n) (hcl : cs.length = n) (h6 : n ≤ 6) (hk : ∀ k ∈ ks,k.length = 32) (h0 : c0 < 4294967296) (hc : ∀ x ∈ cs,x < 4294967296) :
  Calls Tryz.prog 152 #[.pointer (some ⟨g,0,none⟩),.pointer (some ⟨s.g,0,none⟩)] w fun e w' => e = .returned (.tuple #[.pointer none,.nilIface]) ∧ ∃ s',s.To s' c (updV s.V home (encInner ks (c0 :: cs))) ∧
   BunTo w (ownL (s.L ++ [errA,nodeA g home false (.slice none 0 0) (.slice pk n ck) (.slice pc (n + 1) cc),ownS 67 32 pk n ck (keyV ks),ownS 3 1 pc (n + 1) cc (intsV (c0 :: cs))])) (rdL (s.L ++ [errA,nodeA g home false (.slice none 0 0) (.slice pk n ck) (.slice pc (n + 1) cc),ownS 67 32 pk n ck (keyV ks),ownS 3 1 pc (n + 1) cc (intsV (c0 :: cs))])) (s'.L ++ [errA]) w' := by
 have H := hb.open_
 obtain ⟨O,hO⟩ : ∃ O,ownL (s.L ++ [errA,nodeA g home false (.slice none 0 0) (.slice pk n ck) (.slice pc (n + 1) cc),ownS 67 32 pk n ck (keyV ks),ownS 3 1 pc (n + 1) cc (intsV (c0 :: cs))]) = O := ⟨_,rfl⟩
 obtain ⟨R0,hR0⟩ : ∃ R,rdL (s.L ++ [errA,nodeA g home false (.slice none 0 0) (.slice pk n ck) (.slice pc (n + 1) cc),ownS 67 32 pk n ck (keyV ks),ownS 3 1 pc (n + 1) cc (intsV (c0 :: cs))]) = R := ⟨_,rfl⟩
 rw [hO,hR0] at H ⊢
 have HO := Lib.hid h
 have HN := Lib.hid (show NodeT.Ok ⟨g,home,.inner pk ck ks pc cc c0 cs⟩ s.n from ⟨hn,by rw [hcl,hl],hk,by omega,h0,hc⟩)
 have HL := Lib.hid hl
 have hn0 : 0 ≤ (n : Int) := by omega
 have hn6 : (n : Int) ≤ 6 := by omega
 clear hb h hO hR0 hn hl h6 hcl hk h0 hc
 go_enter Tryz.func152,Tryz.ntmps152
 go_wp2_with (first
  | (go_at_call 169;go_loud ((refine (size_inner (H.at 8 rfl)).mono ?_);rintro e W' ⟨rfl,rfl⟩))
  | ((refine wpList_buildslice_st H rfl 227 145 _ _ rfl Tryz.underlying227 _ size_ptrN _ zero_ptrN (by decide) (by decide) [(0,.pointer (some ⟨g,0,none⟩))] (by simp [Act.eval]) #[.pointer (some ⟨g,0,none⟩)] (fill_ptr1 _) ?_);go_loud (clear H;intro W gl H;replace H := H.recast 11 (A' := rdA (some ⟨gl,0,none⟩) (ptrV [⟨g,home,.inner pk ck ks pc cc c0 cs⟩])) rfl (fun h => rdB_of_row h) (fun k hk => hk.elim) (fun k ⟨_,ad,e,hk⟩ => by { cases e;exact .inl hk });replace H := (H.rdOf 9 rfl).rdOf 10 rfl;rw [← HL.out] at H;replace H : St O R0 w W ((s.L ++ [errA,rdA (some ⟨gl,0,none⟩) (ptrV [⟨g,home,.inner pk ck ks pc cc c0 cs⟩])]) ++ NodeT.Ls ⟨g,home,.inner pk ck ks pc cc c0 cs⟩) := ((H.pull 8 rfl).pull 8 rfl).pull 8 rfl;replace H := H.rebun;replace H : St O R0 w W ((s.L ++ (rdA (some ⟨gl,0,none⟩) (ptrV [⟨g,home,.inner pk ck ks pc cc c0 cs⟩]) :: [(⟨g,home,.inner pk ck ks pc cc c0 cs⟩ : NodeT)].map NodeT.A)) ++ [errA]) := H.pull 7 rfl))
  | (go_at_call 115;go_loud ((refine (saves_calls (s := s) (n := 1) (Ns := [⟨g,home,.inner pk ck ks pc cc c0 cs⟩]) H.left.bundle HO.out rfl (by omega) (fun N hN => by { rw [List.mem_singleton.1 hN];exact HN.out })).mono ?_);rintro e W ⟨rfl,s',hs',hto⟩;replace H := hto.front H;clear hto)))
 refine bodyPost_ret (results_tmp2 rfl _ _ _) rfl ?_
 exact ⟨rfl,s',hs',St.bunTo (((H.pull 7 rfl).pull 7 rfl).take 8)⟩
set_option maxHeartbeats 16000000 in
theorem halves_inner2 {w : World} {s : TX} {c g home ck cc gk gi i x0 y0 : Nat} {x y : List (List UInt8)} {k : List UInt8} {X Y : List Nat} (hb : Bundle w (s.L ++ [errA,nodeA g home false (.slice none 0 0) (.slice (some ⟨gk,0,none⟩) 7 ck) (.slice (some ⟨gi,0,none⟩) 8 cc),ownS 67 32 (some ⟨gk,0,none⟩) 7 ck (keyV (x ++ k :: y)),ownS 3 1 (some ⟨gi,0,none⟩) 8 cc (intsV ((x0 :: X) ++ (y0 :: Y)))])) (h : s.Ok c) (hn : home < s.n) (hx : x.length = 3) (hy : y.length = 3) (hX : X.length = 3) (hY : Y.length = 3) (hk : ∀ z ∈ (x ++ k :: y),z.length = 32) (hc : ∀ z ∈ ((x0 :: X) ++ (y0 :: Y)),z < 4294967296)
  (h2 : 2 ≤ i) (hi : i < s.n) (hfree : hasB (s.v 1) i = false) (htak : ∀ j,2 ≤ j → j < i → hasB (s.v 1) j = true) :
  Calls Tryz.prog 152 #[.pointer (some ⟨g,0,none⟩),.pointer (some ⟨s.g,0,none⟩)] w fun e w' => ∃ gs,e = .returned (.tuple #[.pointer (some ⟨gs,0,none⟩),.nilIface]) ∧ ∃ s',s.To s' c (updV (updV (updV s.V 1 (turnB (s.v 1) i)) home (encInner x (x0 :: X))) i (encInner y (y0 :: Y))) ∧
   BunTo w (ownL (s.L ++ [errA,nodeA g home false (.slice none 0 0) (.slice (some ⟨gk,0,none⟩) 7 ck) (.slice (some ⟨gi,0,none⟩) 8 cc),ownS 67 32 (some ⟨gk,0,none⟩) 7 ck (keyV (x ++ k :: y)),ownS 3 1 (some ⟨gi,0,none⟩) 8 cc (intsV ((x0 :: X) ++ (y0 :: Y)))])) (rdL (s.L ++ [errA,nodeA g home false (.slice none 0 0) (.slice (some ⟨gk,0,none⟩) 7 ck) (.slice (some ⟨gi,0,none⟩) 8 cc),ownS 67 32 (some ⟨gk,0,none⟩) 7 ck (keyV (x ++ k :: y)),ownS 3 1 (some ⟨gi,0,none⟩) 8 cc (intsV ((x0 :: X) ++ (y0 :: Y)))])) (s'.L ++ [errA,splitA gs k i]) w' := by
 have H := hb.open_
 obtain ⟨O,hO⟩ : ∃ O,ownL (s.L ++ [errA,nodeA g home false (.slice none 0 0) (.slice (some ⟨gk,0,none⟩) 7 ck) (.slice (some ⟨gi,0,none⟩) 8 cc),ownS 67 32 (some ⟨gk,0,none⟩) 7 ck (keyV (x ++ k :: y)),ownS 3 1 (some ⟨gi,0,none⟩) 8 cc (intsV ((x0 :: X) ++ (y0 :: Y)))]) = O := ⟨_,rfl⟩
 obtain ⟨R0,hR0⟩ : ∃ R,rdL (s.L ++ [errA,nodeA g home false (.slice none 0 0) (.slice (some ⟨gk,0,none⟩) 7 ck) (.slice (some ⟨gi,0,none⟩) 8 cc),ownS 67 32 (some ⟨gk,0,none⟩) 7 ck (keyV (x ++ k :: y)),ownS 3 1 (some ⟨gi,0,none⟩) 8 cc (intsV ((x0 :: X) ++ (y0 :: Y)))]) = R := ⟨_,rfl⟩
 rw [hO,hR0] at H ⊢
 have HO := Lib.hid h
 have HF := Lib.hid hfree
 have HTK := Lib.hid htak
 have HHN := Lib.hid hn
 have HI := Lib.hid hi
 have HI2 := Lib.hid h2
 have HX := Lib.hid hx
 have HY := Lib.hid hy
 have HXX := Lib.hid hX
 have HYY := Lib.hid hY
 have HP := Lib.hid hk
 have HC := Lib.hid hc
 have HK32 := Lib.hid (hk k (by simp))
 have hkx : (keyV x).length = 96 := by rw [keyV_len (fun z hz => hk z (List.mem_append_left _ hz)),hx]
 have hky : (keyV y).length = 3 * 32 := by rw [keyV_len (fun z hz => hk z (List.mem_append_right _ (List.mem_cons_of_mem _ hz))),hy]
 have hke : keyV (x ++ k :: y) = (keyV x ++ byteV k) ++ keyV y := by simp [keyV]
 have hkxk : (keyV x ++ byteV k).length = 128 := by rw [List.length_append,hkx,byteV_length,hk k (by simp)]
 have HKY := Lib.hid hky
 have HK1 := Lib.hid (show ∀ j u,(byteV k)[j]? = some u → (keyV (x ++ k :: y))[96 + j]? = some u by
  intro j u hu
  rw [hke,List.getElem?_append_left (by rw [hkxk];have := (List.getElem?_eq_some_iff.1 hu).1;rw [byteV_length,hk k (by simp)] at this;omega),List.getElem?_append_right (by rw [hkx];omega),hkx,Nat.add_sub_cancel_left];exact hu)
 have HK2 := Lib.hid (show ∀ j u,(keyV y)[j]? = some u → (keyV (x ++ k :: y))[128 + j]? = some u by
  intro j u hu
  rw [hke,List.getElem?_append_right (by rw [hkxk];omega),hkxk,Nat.add_sub_cancel_left];exact hu)
 have HC2 := Lib.hid (show ∀ j u,(intsV (y0 :: Y))[j]? = some u → (intsV ((x0 :: X) ++ (y0 :: Y)))[4 + j]? = some u by
  intro j u hu
  rw [intsV_append,List.getElem?_append_right (by simp [intsV,hX])]
  have : (intsV (x0 :: X)).length = 4 := by simp [intsV,hX]
  rw [this,Nat.add_sub_cancel_left];exact hu)
 have HKE := Lib.hid (show keyV (x ++ k :: y) = keyV x ++ keyV (k :: y) by simp [keyV])
 have hcap : 7 ≤ ck := by
  rcases (H.at 9 rfl).2 with ⟨_,h0⟩ | ⟨_,_,_,e1,_,_,h3,_⟩
  ·omega
  ·cases e1;exact h3
 have hcap2 : 8 ≤ cc := by
  rcases (H.at 10 rfl).2 with ⟨_,h0⟩ | ⟨_,_,_,e1,_,_,h3,_⟩
  ·omega
  ·cases e1;exact h3
 have hc1 : 7 ≤ (ck : Int) := by omega
 have hc2 : ¬ ck = 4 := by omega
 have hc3 : 3 ≤ (ck : Int) := by omega
 have hc4 : 8 ≤ (cc : Int) := by omega
 have hc5 : ¬ cc = 4 := by omega
 have hc6 : 4 ≤ (cc : Int) := by omega
 have hw4 : IntKind.i64.wrap 4 = 4 := by rw [IntKind.wrap_i64];omega
 clear hb h hO hR0 hn hx hy hX hY hk hc hfree htak h2 hi hcap hcap2 hkx hky hke hkxk
 have hf := row_cell (H.at 8 rfl) (nRow1 _ _ _ _ _)
 go_enter Tryz.func152,Tryz.ntmps152
 go_upto_region 4 with (first
  | (go_at_call 169;go_loud ((refine (size_inner (H.at 8 rfl)).mono ?_);rintro e W' ⟨rfl,rfl⟩))
  | (go_at_call 114;go_loud ((refine (fresh_ok (s := s) (H.take 8).bundle HO.out false i HI2.out HI.out HF.out HTK.out).mono ?_);rintro e W ⟨gm,rfl,s1,hs1,hto⟩;replace H := BunTo.front2 (Ls' := s1.L ++ [errA]) (E := [nodeA gm i false (.slice none 0 0) (.slice none 0 0) (.slice none 0 0)]) (R := [nodeA g home false (.slice none 0 0) (.slice (some ⟨gk,0,none⟩) 7 ck) (.slice (some ⟨gi,0,none⟩) 8 cc),ownS 67 32 (some ⟨gk,0,none⟩) 7 ck (keyV (x ++ k :: y)),ownS 3 1 (some ⟨gi,0,none⟩) 8 cc (intsV ((x0 :: X) ++ (y0 :: Y)))]) hto H;clear hto hf)))
 have hg1 : s1.g = s.g := hs1.g
 have HS1 := Lib.hid hs1
 rw [← hg1]
 clear hs1 hg1
 go_upto_region 7 with (first
  | (refine wpList_alloc_st H rfl 184 rfl _ zeroSplit ?_;clear H;intro W gs H))
 replace H : St O R0 w W (s1.L ++ [errA,nodeA g home false (.slice none 0 0) (.slice (some ⟨gk,0,none⟩) 7 ck) (.slice (some ⟨gi,0,none⟩) 8 cc),ownS 67 32 (some ⟨gk,0,none⟩) 7 ck (keyV (x ++ k :: y)),ownS 3 1 (some ⟨gi,0,none⟩) 8 cc (intsV ((x0 :: X) ++ (y0 :: Y))),nodeA gm i false (.slice none 0 0) (.slice none 0 0) (.slice none 0 0),blk gs (.cells (List.replicate 32 (Value.int .u8 0) ++ [Value.int .i64 0]).toArray 184 (0,0))]) := H
 have hf := row_cell (H.at 11 rfl) (nRow0 _ _ _ _ _)
 go_upto_region 8 with (first
  | (refine wpList_store1_st H 12 rfl 3 _ _ rfl gs 32 (.int .i64 (i : Int)) (by rfl) (by rfl) rfl _ _ rfl size_int (by simp) ?_;clear H hf;intro W H))
 replace H : St O R0 w W (s1.L ++ [errA,nodeA g home false (.slice none 0 0) (.slice (some ⟨gk,0,none⟩) 7 ck) (.slice (some ⟨gi,0,none⟩) 8 cc),ownS 67 32 (some ⟨gk,0,none⟩) 7 ck (keyV (x ++ k :: y)),ownS 3 1 (some ⟨gi,0,none⟩) 8 cc (intsV ((x0 :: X) ++ (y0 :: Y))),nodeA gm i false (.slice none 0 0) (.slice none 0 0) (.slice none 0 0),blk gs (.cells (List.replicate 32 (Value.int .u8 0) ++ [Value.int .i64 (i : Int)]).toArray 184 (0,0))]) := H
 have hf := row_cell (H.at 8 rfl) (nRow1 _ _ _ _ _)
 have hf3 := row_cell (H.at 8 rfl) (nRow3 _ _ _ _ _)
 go_upto_region 15 with (first
  | (refine wpList_load_cells rfl 67 _ rfl ⟨gk,96,none⟩ rfl _ Tryz.underlying67 rfl (byteV k) (by rw [sizeK,byteV_length,HK32.out]) (fun j u hu => by { rw [Addr.add_lit];have h1 := rdB_mid (ownS_rd (H.at 9 rfl)) 96 (byteV k) HK1.out j u hu;rw [Nat.zero_add] at h1;exact h1 }) ?_)
  | (refine wpList_storemid_st H 12 rfl 67 _ _ rfl gs 0 (byteV k) rfl rfl _ _ rfl (by rw [sizeK,byteV_length,HK32.out]) (by rw [byteV_length,HK32.out];simp) (byteV_one _) ?_;clear H hf hf3;intro W H))
 replace H : St O R0 w W (s1.L ++ [errA,nodeA g home false (.slice none 0 0) (.slice (some ⟨gk,0,none⟩) 7 ck) (.slice (some ⟨gi,0,none⟩) 8 cc),ownS 67 32 (some ⟨gk,0,none⟩) 7 ck (keyV (x ++ k :: y)),ownS 3 1 (some ⟨gi,0,none⟩) 8 cc (intsV ((x0 :: X) ++ (y0 :: Y))),nodeA gm i false (.slice none 0 0) (.slice none 0 0) (.slice none 0 0),blk gs (.cells ((List.replicate 32 (Value.int .u8 0) ++ [Value.int .i64 (i : Int)]).take 0 ++ byteV k ++ (List.replicate 32 (Value.int .u8 0) ++ [Value.int .i64 (i : Int)]).drop (0 + (byteV k).length)).toArray 184 (0,0))]) := H
 rw [split_key k HK32.out] at H
 replace H : St O R0 w W (s1.L ++ [errA,nodeA g home false (.slice none 0 0) (.slice (some ⟨gk,0,none⟩) 7 ck) (.slice (some ⟨gi,0,none⟩) 8 cc),ownS 67 32 (some ⟨gk,0,none⟩) 7 ck (keyV (x ++ k :: y)),ownS 3 1 (some ⟨gi,0,none⟩) 8 cc (intsV ((x0 :: X) ++ (y0 :: Y))),nodeA gm i false (.slice none 0 0) (.slice none 0 0) (.slice none 0 0),splitA gs k i]) := H
 replace H := H.drew
 refine wp_region_T (fun w' => w'.cell? ⟨g,3,none⟩ = some (.slice (some ⟨gk,0,none⟩) 7 ck) ∧ w'.cell? ⟨g,4,none⟩ = some (.slice (some ⟨gi,0,none⟩) 8 cc)) [17] (by kernel_rfl) ⟨row_cell (H.at 8 rfl) (nRow3 _ _ _ _ _),row_cell (H.at 8 rfl) (nRow4 _ _ _ _ _)⟩ (fun hHeld => ?_)
 (refine wpAnyT_pure (i := 0) (v := ?_) rfl (by kernel_rfl) (by kernel_rfl) (by kernel_rfl) (by kernel_rfl) (fun _ _ _ h => h) (Or.inl ⟨by rfl,?_⟩) (Or.inr (by assumption)) ?_;rotate_left;focus (intro w hSw;clear hSw;go_simp;all_goals (with_reducible rfl)));(try simp only [Act.put,rp1,rp2,rp3,rp4,rp5,rp6])
 (refine wpAnyT_pure (i := 1) (v := ?_) rfl (by kernel_rfl) (by kernel_rfl) (by kernel_rfl) (by kernel_rfl) (fun _ _ _ h => h) (Or.inl ⟨by rfl,?_⟩) (Or.inr (by assumption)) ?_;rotate_left;focus (intro w hSw;clear hSw;go_simp;all_goals (with_reducible rfl)));(try simp only [Act.put,rp1,rp2,rp3,rp4,rp5,rp6])
 (refine wpAnyT_pure (i := 2) (v := ?_) rfl (by kernel_rfl) (by kernel_rfl) (by kernel_rfl) (by kernel_rfl) (fun _ _ _ h => h) (Or.inl ⟨by rfl,?_⟩) (Or.inr (by assumption)) ?_;rotate_left;focus (intro w hSw;clear hSw;go_simp;all_goals (with_reducible rfl)));(try simp only [Act.put,rp1,rp2,rp3,rp4,rp5,rp6])
 (refine wpAnyT_pure (i := 3) (v := ?_) rfl (by kernel_rfl) (by kernel_rfl) (by kernel_rfl) (by kernel_rfl) (fun _ _ _ h => h) (Or.inl ⟨by rfl,?_⟩) (Or.inr (by assumption)) ?_;rotate_left;focus (intro w hSw;clear hSw;go_simp;all_goals (with_reducible rfl)));(try simp only [Act.put,rp1,rp2,rp3,rp4,rp5,rp6])
 (refine wpAnyT_pure (i := 4) (v := ?_) rfl (by kernel_rfl) (by kernel_rfl) (by kernel_rfl) (by kernel_rfl) (fun _ _ _ h => h) (Or.inl ⟨by rfl,?_⟩) (Or.inr (by assumption)) ?_;rotate_left;focus (intro w hSw;clear hSw;go_simp;all_goals (with_reducible rfl)));(try simp only [Act.put,rp1,rp2,rp3,rp4,rp5,rp6])
 (refine wpAnyT_take (i := 5) (f := 30) rfl (by kernel_rfl) (by kernel_rfl) (by kernel_rfl) (by kernel_rfl) (by kernel_rfl) (fun _ _ _ h => h) ((yieldsIf_load1 (by rfl) 147 _ rfl _ _ (by rfl) _ Tryz.underlying147 rfl _ (fun w h => h.1))) (by assumption) ?_);(try simp only [Act.put,rp1,rp2,rp3,rp4,rp5,rp6])
 (refine wpAnyT_pure (i := 6) (v := ?_) rfl (by kernel_rfl) (by kernel_rfl) (by kernel_rfl) (by kernel_rfl) (fun _ _ _ h => h) (Or.inl ⟨by rfl,?_⟩) (Or.inr (by assumption)) ?_;rotate_left;focus (intro w hSw;clear hSw;go_simp;all_goals (with_reducible rfl)));(try simp only [Act.put,rp1,rp2,rp3,rp4,rp5,rp6])
 (refine wpAnyT_pure (i := 7) (v := ?_) rfl (by kernel_rfl) (by kernel_rfl) (by kernel_rfl) (by kernel_rfl) (fun _ _ _ h => h) (Or.inl ⟨by rfl,?_⟩) (Or.inr (by assumption)) ?_;rotate_left;focus (intro w hSw;clear hSw;go_simp;all_goals (with_reducible rfl)));(try simp only [Act.put,rp1,rp2,rp3,rp4,rp5,rp6])
 (refine wpAnyT_pure (i := 8) (v := ?_) rfl (by kernel_rfl) (by kernel_rfl) (by kernel_rfl) (by kernel_rfl) (fun _ _ _ h => h) (Or.inl ⟨by rfl,?_⟩) (Or.inr (by assumption)) ?_;rotate_left;focus (intro w hSw;clear hSw;go_simp;all_goals (with_reducible rfl)));(try simp only [Act.put,rp1,rp2,rp3,rp4,rp5,rp6])
 (refine wpAnyT_pure (i := 10) (v := ?_) rfl (by kernel_rfl) (by kernel_rfl) (by kernel_rfl) (by kernel_rfl) (fun _ _ _ h => h) (Or.inl ⟨by rfl,?_⟩) (Or.inr (by assumption)) ?_;rotate_left;focus (intro w hSw;clear hSw;go_simp;all_goals (with_reducible rfl)));(try simp only [Act.put,rp1,rp2,rp3,rp4,rp5,rp6])
 (refine wpAnyT_pure (i := 11) (v := ?_) rfl (by kernel_rfl) (by kernel_rfl) (by kernel_rfl) (by kernel_rfl) (fun _ _ _ h => h) (Or.inl ⟨by rfl,?_⟩) (Or.inr (by assumption)) ?_;rotate_left;focus (intro w hSw;clear hSw;go_simp;all_goals (with_reducible rfl)));(try simp only [Act.put,rp1,rp2,rp3,rp4,rp5,rp6])
 (refine wpAnyT_pure (i := 12) (v := ?_) rfl (by kernel_rfl) (by kernel_rfl) (by kernel_rfl) (by kernel_rfl) (fun _ _ _ h => h) (Or.inl ⟨by rfl,?_⟩) (Or.inr (by assumption)) ?_;rotate_left;focus (intro w hSw;clear hSw;go_simp;all_goals (with_reducible rfl)));(try simp only [Act.put,rp1,rp2,rp3,rp4,rp5,rp6])
 (refine wpAnyT_take (i := 13) (f := 30) rfl (by kernel_rfl) (by kernel_rfl) (by kernel_rfl) (by kernel_rfl) (by kernel_rfl) (fun _ _ _ h => h) ((yieldsIf_load1 (by rfl) 72 _ rfl _ _ (by rfl) _ Tryz.underlying72 rfl _ (fun w h => h.2))) (by assumption) ?_);(try simp only [Act.put,rp1,rp2,rp3,rp4,rp5,rp6])
 (refine wpAnyT_pure (i := 14) (v := ?_) rfl (by kernel_rfl) (by kernel_rfl) (by kernel_rfl) (by kernel_rfl) (fun _ _ _ h => h) (Or.inl ⟨by rfl,?_⟩) (Or.inr (by assumption)) ?_;rotate_left;focus (intro w hSw;clear hSw;go_simp;all_goals (with_reducible rfl)));(try simp only [Act.put,rp1,rp2,rp3,rp4,rp5,rp6])
 (refine wpAnyT_pure (i := 15) (v := ?_) rfl (by kernel_rfl) (by kernel_rfl) (by kernel_rfl) (by kernel_rfl) (fun _ _ _ h => h) (Or.inl ⟨by rfl,?_⟩) (Or.inr (by assumption)) ?_;rotate_left;focus (intro w hSw;clear hSw;go_simp;all_goals (with_reducible rfl)));(try simp only [Act.put,rp1,rp2,rp3,rp4,rp5,rp6])
 (refine wpAnyT_pure (i := 16) (v := ?_) rfl (by kernel_rfl) (by kernel_rfl) (by kernel_rfl) (by kernel_rfl) (fun _ _ _ h => h) (Or.inl ⟨by rfl,?_⟩) (Or.inr (by assumption)) ?_;rotate_left;focus (intro w hSw;clear hSw;go_simp;all_goals (with_reducible rfl)));(try simp only [Act.put,rp1,rp2,rp3,rp4,rp5,rp6])
 (refine wpAnyT_one (i := 9) (by kernel_rfl) rfl (fun K hK => ?_));(rw [if_pos (by rfl)]);(go_simp;go_at_call 182;(refine (cloneK H 9 rfl ⟨gk,128,none⟩ 3 _ (keyV y) (by omega) (by omega) HKY.out (fun W hA j u hu => by { rw [Addr.add_lit];have h1 := rdB_mid (ownS_rd hA) 128 (keyV y) HK2.out j u hu;rw [Nat.zero_add] at h1;exact h1 }) (keyV_one _)).mono ?_);rintro e W ⟨gq,cq,rfl,H2⟩;clear H;have H := H2;clear H2;(try go_wp2_with fail);have hHeld2 : W.cell? ⟨g,3,none⟩ = some (.slice (some ⟨gk,0,none⟩) 7 ck) ∧ W.cell? ⟨g,4,none⟩ = some (.slice (some ⟨gi,0,none⟩) 8 cc) := ⟨row_cell (H.at 8 rfl) (nRow3 _ _ _ _ _),row_cell (H.at 8 rfl) (nRow4 _ _ _ _ _)⟩;refine hK.out _ _ (Or.inr hHeld2) ?_;clear hK K hHeld);(try simp only [Act.put,rp1,rp2,rp3,rp4,rp5,rp6])
 (refine wpAnyT_one (i := 17) (by kernel_rfl) rfl (fun K hK => ?_));(rw [if_pos (by rfl)]);(go_simp;go_at_call 183;(refine (cloneI H 10 rfl ⟨gi,4,none⟩ 4 _ (intsV (y0 :: Y)) (by omega) (by omega) (by simp [intsV,HYY.out]) (fun W hA j u hu => by { rw [Addr.add_lit];have h1 := rdB_mid (ownS_rd hA) 4 (intsV (y0 :: Y)) HC2.out j u hu;rw [Nat.zero_add] at h1;exact h1 }) (intsV_one _)).mono ?_);rintro e W ⟨gr,cr,rfl,H2⟩;clear H;have H := H2;clear H2;(try go_wp2_with fail);refine hK.out _ _ (Or.inl ⟨17,by simp,by kernel_rfl⟩) ?_;clear hK K hHeld2);(try simp only [Act.put,rp1,rp2,rp3,rp4,rp5,rp6])
 (refine wpAnyT_pure (i := 18) (v := ?_) rfl (by kernel_rfl) (by kernel_rfl) (by kernel_rfl) (by kernel_rfl) (fun _ _ _ h => h) (Or.inl ⟨by rfl,?_⟩) (Or.inl ⟨17,by simp,by kernel_rfl⟩) ?_;rotate_left;focus (intro w hSw;clear hSw;go_simp;all_goals (with_reducible rfl)));(try simp only [Act.put,rp1,rp2,rp3,rp4,rp5,rp6])
 (refine wpAnyT_pure (i := 19) (v := ?_) rfl (by kernel_rfl) (by kernel_rfl) (by kernel_rfl) (by kernel_rfl) (fun _ _ _ h => h) (Or.inl ⟨by rfl,?_⟩) (Or.inl ⟨17,by simp,by kernel_rfl⟩) ?_;rotate_left;focus (intro w hSw;clear hSw;go_simp;all_goals (with_reducible rfl)));(try simp only [Act.put,rp1,rp2,rp3,rp4,rp5,rp6])
 (refine wpAnyT_one (i := 20) (by kernel_rfl) rfl (fun K hK => ?_));(rw [if_pos (by rfl)]);(refine wp_store1_st H 11 147 _ _ rfl gm 3 (.slice (some ⟨gq,0,none⟩) 3 cq) (by rfl) (by rfl) rfl _ _ rfl size_slK (by simp [nRow]) ?_;clear H;intro W H;refine hK.out _ _ (Or.inl ⟨17,by simp,by kernel_rfl⟩) ?_;clear hK K);(try simp only [Act.put,rp1,rp2,rp3,rp4,rp5,rp6])
 (refine wpAnyT_pure (i := 21) (v := ?_) rfl (by kernel_rfl) (by kernel_rfl) (by kernel_rfl) (by kernel_rfl) (fun _ _ _ h => h) (Or.inl ⟨by rfl,?_⟩) (Or.inl ⟨17,by simp,by kernel_rfl⟩) ?_;rotate_left;focus (intro w hSw;clear hSw;go_simp;all_goals (with_reducible rfl)));(try simp only [Act.put,rp1,rp2,rp3,rp4,rp5,rp6])
 (refine wpAnyT_pure (i := 22) (v := ?_) rfl (by kernel_rfl) (by kernel_rfl) (by kernel_rfl) (by kernel_rfl) (fun _ _ _ h => h) (Or.inl ⟨by rfl,?_⟩) (Or.inl ⟨17,by simp,by kernel_rfl⟩) ?_;rotate_left;focus (intro w hSw;clear hSw;go_simp;all_goals (with_reducible rfl)));(try simp only [Act.put,rp1,rp2,rp3,rp4,rp5,rp6])
 (refine wpAnyT_one (i := 23) (by kernel_rfl) rfl (fun K hK => ?_));(rw [if_pos (by rfl)]);(refine wp_store1_st H 11 72 _ _ rfl gm 4 (.slice (some ⟨gr,0,none⟩) 4 cr) (by rfl) (by rfl) rfl _ _ rfl size_slI (by simp [nRow]) ?_;clear H;intro W H;refine hK.out _ _ (Or.inl ⟨17,by simp,by kernel_rfl⟩) ?_;clear hK K);(try simp only [Act.put,rp1,rp2,rp3,rp4,rp5,rp6])
 (refine wpAnyT_done (by kernel_rfl) ?_ _)
 replace H : St O R0 w W (s1.L ++ [errA,nodeA g home false (.slice none 0 0) (.slice (some ⟨gk,0,none⟩) 7 ck) (.slice (some ⟨gi,0,none⟩) 8 cc),ownS 67 32 (some ⟨gk,0,none⟩) 7 ck (keyV (x ++ k :: y)),ownS 3 1 (some ⟨gi,0,none⟩) 8 cc (intsV ((x0 :: X) ++ (y0 :: Y))),nodeA gm i false (.slice none 0 0) (.slice (some ⟨gq,0,none⟩) 3 cq) (.slice (some ⟨gr,0,none⟩) 4 cr),splitA gs k i,ownS 67 32 (some ⟨gq,0,none⟩) 3 cq (keyV y),ownS 3 1 (some ⟨gr,0,none⟩) 4 cr (intsV (y0 :: Y))]) := H
 go_upto_region 16 with fail
 replace H := H.drew
 refine wp_region_T (fun w' => w'.cell? ⟨g,3,none⟩ = some (.slice (some ⟨gk,0,none⟩) 7 ck) ∧ w'.cell? ⟨g,4,none⟩ = some (.slice (some ⟨gi,0,none⟩) 8 cc)) [17] (by kernel_rfl) ⟨row_cell (H.at 8 rfl) (nRow3 _ _ _ _ _),row_cell (H.at 8 rfl) (nRow4 _ _ _ _ _)⟩ (fun hHeld => ?_)
 (refine wpAnyT_pure (i := 0) (v := ?_) rfl (by kernel_rfl) (by kernel_rfl) (by kernel_rfl) (by kernel_rfl) (fun _ _ _ h => h) (Or.inl ⟨by rfl,?_⟩) (Or.inr (by assumption)) ?_;rotate_left;focus (intro w hSw;clear hSw;go_simp;all_goals (with_reducible rfl)));(try simp only [Act.put,rp1,rp2,rp3,rp4,rp5,rp6])
 (refine wpAnyT_pure (i := 1) (v := ?_) rfl (by kernel_rfl) (by kernel_rfl) (by kernel_rfl) (by kernel_rfl) (fun _ _ _ h => h) (Or.inl ⟨by rfl,?_⟩) (Or.inr (by assumption)) ?_;rotate_left;focus (intro w hSw;clear hSw;go_simp;all_goals (with_reducible rfl)));(try simp only [Act.put,rp1,rp2,rp3,rp4,rp5,rp6])
 (refine wpAnyT_pure (i := 2) (v := ?_) rfl (by kernel_rfl) (by kernel_rfl) (by kernel_rfl) (by kernel_rfl) (fun _ _ _ h => h) (Or.inl ⟨by rfl,?_⟩) (Or.inr (by assumption)) ?_;rotate_left;focus (intro w hSw;clear hSw;go_simp;all_goals (with_reducible rfl)));(try simp only [Act.put,rp1,rp2,rp3,rp4,rp5,rp6])
 (refine wpAnyT_pure (i := 3) (v := ?_) rfl (by kernel_rfl) (by kernel_rfl) (by kernel_rfl) (by kernel_rfl) (fun _ _ _ h => h) (Or.inl ⟨by rfl,?_⟩) (Or.inr (by assumption)) ?_;rotate_left;focus (intro w hSw;clear hSw;go_simp;all_goals (with_reducible rfl)));(try simp only [Act.put,rp1,rp2,rp3,rp4,rp5,rp6])
 (refine wpAnyT_pure (i := 4) (v := ?_) rfl (by kernel_rfl) (by kernel_rfl) (by kernel_rfl) (by kernel_rfl) (fun _ _ _ h => h) (Or.inl ⟨by rfl,?_⟩) (Or.inr (by assumption)) ?_;rotate_left;focus (intro w hSw;clear hSw;go_simp;all_goals (with_reducible rfl)));(try simp only [Act.put,rp1,rp2,rp3,rp4,rp5,rp6])
 (refine wpAnyT_take (i := 5) (f := 30) rfl (by kernel_rfl) (by kernel_rfl) (by kernel_rfl) (by kernel_rfl) (by kernel_rfl) (fun _ _ _ h => h) ((yieldsIf_load1 (by rfl) 147 _ rfl _ _ (by rfl) _ Tryz.underlying147 rfl _ (fun w h => h.1))) (by assumption) ?_);(try simp only [Act.put,rp1,rp2,rp3,rp4,rp5,rp6])
 (refine wpAnyT_pure (i := 6) (v := ?_) rfl (by kernel_rfl) (by kernel_rfl) (by kernel_rfl) (by kernel_rfl) (fun _ _ _ h => h) (Or.inl ⟨by rfl,?_⟩) (Or.inr (by assumption)) ?_;rotate_left;focus (intro w hSw;clear hSw;go_simp;all_goals (with_reducible rfl)));(try simp only [Act.put,rp1,rp2,rp3,rp4,rp5,rp6])
 (refine wpAnyT_pure (i := 7) (v := ?_) rfl (by kernel_rfl) (by kernel_rfl) (by kernel_rfl) (by kernel_rfl) (fun _ _ _ h => h) (Or.inl ⟨by rfl,?_⟩) (Or.inr (by assumption)) ?_;rotate_left;focus (intro w hSw;clear hSw;go_simp;all_goals (with_reducible rfl)));(try simp only [Act.put,rp1,rp2,rp3,rp4,rp5,rp6])
 (refine wpAnyT_pure (i := 8) (v := ?_) rfl (by kernel_rfl) (by kernel_rfl) (by kernel_rfl) (by kernel_rfl) (fun _ _ _ h => h) (Or.inl ⟨by rfl,?_⟩) (Or.inr (by assumption)) ?_;rotate_left;focus (intro w hSw;clear hSw;go_simp;all_goals (with_reducible rfl)));(try simp only [Act.put,rp1,rp2,rp3,rp4,rp5,rp6])
 (refine wpAnyT_pure (i := 9) (v := ?_) rfl (by kernel_rfl) (by kernel_rfl) (by kernel_rfl) (by kernel_rfl) (fun _ _ _ h => h) (Or.inl ⟨by rfl,?_⟩) (Or.inr (by assumption)) ?_;rotate_left;focus (intro w hSw;clear hSw;go_simp;all_goals (with_reducible rfl)));(try simp only [Act.put,rp1,rp2,rp3,rp4,rp5,rp6])
 (refine wpAnyT_pure (i := 10) (v := ?_) rfl (by kernel_rfl) (by kernel_rfl) (by kernel_rfl) (by kernel_rfl) (fun _ _ _ h => h) (Or.inl ⟨by rfl,?_⟩) (Or.inr (by assumption)) ?_;rotate_left;focus (intro w hSw;clear hSw;go_simp;all_goals (with_reducible rfl)));(try simp only [Act.put,rp1,rp2,rp3,rp4,rp5,rp6])
 (refine wpAnyT_take (i := 11) (f := 30) rfl (by kernel_rfl) (by kernel_rfl) (by kernel_rfl) (by kernel_rfl) (by kernel_rfl) (fun _ _ _ h => h) ((yieldsIf_load1 (by rfl) 72 _ rfl _ _ (by rfl) _ Tryz.underlying72 rfl _ (fun w h => h.2))) (by assumption) ?_);(try simp only [Act.put,rp1,rp2,rp3,rp4,rp5,rp6])
 (refine wpAnyT_pure (i := 12) (v := ?_) rfl (by kernel_rfl) (by kernel_rfl) (by kernel_rfl) (by kernel_rfl) (fun _ _ _ h => h) (Or.inl ⟨by rfl,?_⟩) (Or.inr (by assumption)) ?_;rotate_left;focus (intro w hSw;clear hSw;go_simp;all_goals (with_reducible rfl)));(try simp only [Act.put,rp1,rp2,rp3,rp4,rp5,rp6])
 (refine wpAnyT_pure (i := 13) (v := ?_) rfl (by kernel_rfl) (by kernel_rfl) (by kernel_rfl) (by kernel_rfl) (fun _ _ _ h => h) (Or.inl ⟨by rfl,?_⟩) (Or.inr (by assumption)) ?_;rotate_left;focus (intro w hSw;clear hSw;go_simp;all_goals (with_reducible rfl)));(try simp only [Act.put,rp1,rp2,rp3,rp4,rp5,rp6])
 (refine wpAnyT_pure (i := 14) (v := ?_) rfl (by kernel_rfl) (by kernel_rfl) (by kernel_rfl) (by kernel_rfl) (fun _ _ _ h => h) (Or.inl ⟨by rfl,?_⟩) (Or.inr (by assumption)) ?_;rotate_left;focus (intro w hSw;clear hSw;go_simp;all_goals (with_reducible rfl)));(try simp only [Act.put,rp1,rp2,rp3,rp4,rp5,rp6])
 (refine wpAnyT_pure (i := 15) (v := ?_) rfl (by kernel_rfl) (by kernel_rfl) (by kernel_rfl) (by kernel_rfl) (fun _ _ _ h => h) (Or.inl ⟨by rfl,?_⟩) (Or.inr (by assumption)) ?_;rotate_left;focus (intro w hSw;clear hSw;go_simp;all_goals (with_reducible rfl)));(try simp only [Act.put,rp1,rp2,rp3,rp4,rp5,rp6])
 (refine wpAnyT_pure (i := 16) (v := ?_) rfl (by kernel_rfl) (by kernel_rfl) (by kernel_rfl) (by kernel_rfl) (fun _ _ _ h => h) (Or.inl ⟨by rfl,?_⟩) (Or.inr (by assumption)) ?_;rotate_left;focus (intro w hSw;clear hSw;go_simp;all_goals (with_reducible rfl)));(try simp only [Act.put,rp1,rp2,rp3,rp4,rp5,rp6])
 (refine wpAnyT_one (i := 17) (by kernel_rfl) rfl (fun K hK => ?_));(rw [if_pos (by rfl)]);(refine wp_store1_st H 8 147 _ _ rfl g 3 (.slice (some ⟨gk,0,none⟩) 3 ck) (by rfl) (by rfl) rfl _ _ rfl size_slK (by simp [nRow]) ?_;clear H;intro W H;refine hK.out _ _ (Or.inl ⟨17,by simp,by kernel_rfl⟩) ?_;clear hK K hHeld);(try simp only [Act.put,rp1,rp2,rp3,rp4,rp5,rp6])
 (refine wpAnyT_pure (i := 18) (v := ?_) rfl (by kernel_rfl) (by kernel_rfl) (by kernel_rfl) (by kernel_rfl) (fun _ _ _ h => h) (Or.inl ⟨by rfl,?_⟩) (Or.inl ⟨17,by simp,by kernel_rfl⟩) ?_;rotate_left;focus (intro w hSw;clear hSw;go_simp;all_goals (with_reducible rfl)));(try simp only [Act.put,rp1,rp2,rp3,rp4,rp5,rp6])
 (refine wpAnyT_pure (i := 19) (v := ?_) rfl (by kernel_rfl) (by kernel_rfl) (by kernel_rfl) (by kernel_rfl) (fun _ _ _ h => h) (Or.inl ⟨by rfl,?_⟩) (Or.inl ⟨17,by simp,by kernel_rfl⟩) ?_;rotate_left;focus (intro w hSw;clear hSw;go_simp;all_goals (with_reducible rfl)));(try simp only [Act.put,rp1,rp2,rp3,rp4,rp5,rp6])
 (refine wpAnyT_one (i := 20) (by kernel_rfl) rfl (fun K hK => ?_));(rw [if_pos (by rfl)]);(refine wp_store1_st H 8 72 _ _ rfl g 4 (.slice (some ⟨gi,0,none⟩) 4 cc) (by rfl) (by rfl) rfl _ _ rfl size_slI (by simp [nRow]) ?_;clear H;intro W H;refine hK.out _ _ (Or.inl ⟨17,by simp,by kernel_rfl⟩) ?_;clear hK K);(try simp only [Act.put,rp1,rp2,rp3,rp4,rp5,rp6])
 (refine wpAnyT_done (by kernel_rfl) ?_ _)
 replace H : St O R0 w W (s1.L ++ [errA,nodeA g home false (.slice none 0 0) (.slice (some ⟨gk,0,none⟩) 3 ck) (.slice (some ⟨gi,0,none⟩) 4 cc),ownS 67 32 (some ⟨gk,0,none⟩) 7 ck (keyV (x ++ k :: y)),ownS 3 1 (some ⟨gi,0,none⟩) 8 cc (intsV ((x0 :: X) ++ (y0 :: Y))),nodeA gm i false (.slice none 0 0) (.slice (some ⟨gq,0,none⟩) 3 cq) (.slice (some ⟨gr,0,none⟩) 4 cr),splitA gs k i,ownS 67 32 (some ⟨gq,0,none⟩) 3 cq (keyV y),ownS 3 1 (some ⟨gr,0,none⟩) 4 cr (intsV (y0 :: Y))]) := H
 go_upto_region 17 with fail
 replace H := H.recast 8 (A' := nodeA g home false (.slice none 0 0) (.slice (some ⟨gk,0,none⟩) x.length ck) (.slice (some ⟨gi,0,none⟩) (x.length + 1) cc)) rfl (fun h => by rw [HX.out];exact h) (fun k hk => hk) (fun k hk => hk.elim)
 replace H := H.recast 11 (A' := nodeA gm i false (.slice none 0 0) (.slice (some ⟨gq,0,none⟩) y.length cq) (.slice (some ⟨gr,0,none⟩) (y.length + 1) cr)) rfl (fun h => by rw [HY.out];exact h) (fun k hk => hk) (fun k hk => hk.elim)
 replace H := (((H.rdOf 9 rfl).rdOf 10 rfl).rdOf 13 rfl).rdOf 14 rfl
 replace H := H.recast 9 (A' := rdA (some ⟨gk,0,none⟩) (keyV x)) rfl (fun h => rdB_pre (ys := keyV (k :: y)) (by rw [← HKE.out];exact h)) (fun k hk => hk.elim) (fun _ ⟨_,hk⟩ => .inr ⟨fun e => by have h1 := congrArg List.length e;rw [HKE.out,List.length_append,keyV_len (ks := k :: y) (fun z hz => HP.out z (List.mem_append_right _ hz))] at h1;simp at h1,hk⟩)
 replace H := H.recast 10 (A' := rdA (some ⟨gi,0,none⟩) (intsV (x0 :: X))) rfl (fun h => rdB_pre (ys := intsV (y0 :: Y)) (by rw [← intsV_append];exact h)) (fun k hk => hk.elim) (fun _ ⟨_,hk⟩ => .inr ⟨fun e => by simp [intsV] at e,hk⟩)
 replace H : St O R0 w W ((s1.L ++ [errA,nodeA gm i false (.slice none 0 0) (.slice (some ⟨gq,0,none⟩) y.length cq) (.slice (some ⟨gr,0,none⟩) (y.length + 1) cr),splitA gs k i,rdA (some ⟨gq,0,none⟩) (keyV y),rdA (some ⟨gr,0,none⟩) (intsV (y0 :: Y))]) ++ NodeT.Ls ⟨g,home,.inner (some ⟨gk,0,none⟩) ck x (some ⟨gi,0,none⟩) cc x0 X⟩) := ((H.pull 8 rfl).pull 8 rfl).pull 8 rfl
 replace H := H.rebun
 replace H : St O R0 w W ((s1.L ++ [errA,splitA gs k i,NodeT.A ⟨g,home,.inner (some ⟨gk,0,none⟩) ck x (some ⟨gi,0,none⟩) cc x0 X⟩]) ++ NodeT.Ls ⟨gm,i,.inner (some ⟨gq,0,none⟩) cq y (some ⟨gr,0,none⟩) cr y0 Y⟩) := ((H.pull 8 rfl).pull 9 rfl).pull 9 rfl
 replace H := H.rebun
 replace H : St O R0 w W (s1.L ++ [errA,splitA gs k i,NodeT.A ⟨g,home,.inner (some ⟨gk,0,none⟩) ck x (some ⟨gi,0,none⟩) cc x0 X⟩,NodeT.A ⟨gm,i,.inner (some ⟨gq,0,none⟩) cq y (some ⟨gr,0,none⟩) cr y0 Y⟩]) := H
 go_wp2_with (first
  | ((refine wpList_buildslice_st H rfl 227 145 _ _ rfl Tryz.underlying227 _ size_ptrN _ zero_ptrN (by decide) (by decide) [(0,.pointer (some ⟨g,0,none⟩)),(1,.pointer (some ⟨gm,0,none⟩))] (by simp [Act.eval]) #[.pointer (some ⟨g,0,none⟩),.pointer (some ⟨gm,0,none⟩)] (fill_ptr2 _ _) ?_);go_loud (clear H;intro W gl H;replace H := H.recast 11 (A' := rdA (some ⟨gl,0,none⟩) (ptrV [⟨g,home,.inner (some ⟨gk,0,none⟩) ck x (some ⟨gi,0,none⟩) cc x0 X⟩,⟨gm,i,.inner (some ⟨gq,0,none⟩) cq y (some ⟨gr,0,none⟩) cr y0 Y⟩])) rfl (fun h => rdB_of_row h) (fun k hk => hk.elim) (fun k ⟨_,ad,e,hk⟩ => by { cases e;exact .inl hk });replace H : St O R0 w W ((s1.L ++ (rdA (some ⟨gl,0,none⟩) (ptrV [⟨g,home,.inner (some ⟨gk,0,none⟩) ck x (some ⟨gi,0,none⟩) cc x0 X⟩,⟨gm,i,.inner (some ⟨gq,0,none⟩) cq y (some ⟨gr,0,none⟩) cr y0 Y⟩]) :: ([⟨g,home,.inner (some ⟨gk,0,none⟩) ck x (some ⟨gi,0,none⟩) cc x0 X⟩,⟨gm,i,.inner (some ⟨gq,0,none⟩) cq y (some ⟨gr,0,none⟩) cr y0 Y⟩] : List NodeT).map NodeT.A)) ++ [errA,splitA gs k i]) := (((H.pull 9 rfl).pull 9 rfl).pull 7 rfl).pull 7 rfl))
  | (go_at_call 115;go_loud ((refine (saves_calls (s := s1) (n := 2) (Ns := [⟨g,home,.inner (some ⟨gk,0,none⟩) ck x (some ⟨gi,0,none⟩) cc x0 X⟩,⟨gm,i,.inner (some ⟨gq,0,none⟩) cq y (some ⟨gr,0,none⟩) cr y0 Y⟩]) H.left.bundle HS1.out.ok rfl (by omega) (fun N hN => by { have hn1 := HS1.out.n;rcases List.mem_cons.1 hN with rfl | hN;exact ⟨by rw [hn1];exact HHN.out,by rw [HXX.out,HX.out],fun p hpm => HP.out p (List.mem_append_left _ hpm),by rw [HX.out];omega,HC.out x0 (by simp),fun z hz => HC.out z (by simp [hz])⟩;rw [List.mem_singleton.1 hN];exact ⟨by rw [hn1];exact HI.out,by rw [HYY.out,HY.out],fun p hpm => HP.out p (List.mem_append_right _ (List.mem_cons_of_mem _ hpm)),by rw [HY.out];omega,HC.out y0 (by simp),fun z hz => HC.out z (by simp [hz])⟩ })).mono ?_);rintro e W ⟨rfl,s',hs',hto⟩;replace H := hto.front H;clear hto)))
 refine bodyPost_ret (results_tmp2 rfl _ _ _) rfl ?_
 refine ⟨gs,rfl,s',⟨hs'.ok,hs'.t.trans HS1.out.t,hs'.g.trans HS1.out.g,hs'.gl.trans HS1.out.gl,fun k hk => ?_⟩,St.bunTo ((((H.pull 7 rfl).pull 7 rfl).pull 7 rfl).take 9)⟩
 rw [hs'.V k (by rw [HS1.out.n];exact hk)]
 show updV (updV s1.V home (encInner x (x0 :: X))) i (encInner y (y0 :: Y)) k = _
 unfold updV
 rw [HS1.out.V k hk]
 rfl
set_option maxHeartbeats 4000000 in
theorem halves_leaf0 {w : World} {s : TX} {c g home cp : Nat} {pp : Option Addr} (hb : Bundle w (s.L ++ [errA,nodeA g home true (.slice pp 7 cp) (.slice none 0 0) (.slice none 0 0)])) (h : s.Ok c) (htak : ∀ j,2 ≤ j → j < s.n → hasB (s.v 1) j = true) :
  Calls Tryz.prog 152 #[.pointer (some ⟨g,0,none⟩),.pointer (some ⟨s.g,0,none⟩)] w fun e w' => ∃ ge,e = .returned (.tuple #[.pointer none,faultVR ge]) ∧ w'.heap[ge]? = some (faultOR 9 .nilIface) ∧
   BunTo w (ownL (s.L ++ [errA,nodeA g home true (.slice pp 7 cp) (.slice none 0 0) (.slice none 0 0)])) (rdL (s.L ++ [errA,nodeA g home true (.slice pp 7 cp) (.slice none 0 0) (.slice none 0 0)])) (s.L ++ [errA]) w' := by
 have H := hb.open_
 obtain ⟨O,hO⟩ : ∃ O,ownL (s.L ++ [errA,nodeA g home true (.slice pp 7 cp) (.slice none 0 0) (.slice none 0 0)]) = O := ⟨_,rfl⟩
 obtain ⟨R0,hR0⟩ : ∃ R,rdL (s.L ++ [errA,nodeA g home true (.slice pp 7 cp) (.slice none 0 0) (.slice none 0 0)]) = R := ⟨_,rfl⟩
 rw [hO,hR0] at H ⊢
 have HO := Lib.hid h
 have HTK := Lib.hid htak
 clear hb h hO hR0 htak
 have hf := row_cell (H.at 8 rfl) (nRow1 _ _ _ _ _)
 go_enter Tryz.func152,Tryz.ntmps152
 go_wp2_with (first
  | (go_at_call 169;go_loud ((refine (size_leaf (H.at 8 rfl)).mono ?_);rintro e W' ⟨rfl,rfl⟩))
  | (go_at_call 114;go_loud ((refine (fresh_full (s := s) (H.take 8).bundle HO.out true HTK.out).mono ?_);rintro e W ⟨ge,rfl,hge,hto⟩;replace H := BunTo.front (R := [nodeA g home true (.slice pp 7 cp) (.slice none 0 0) (.slice none 0 0)]) hto H;clear hto hf;unfold faultVR)))
 refine bodyPost_ret (results_tmp2 rfl _ _ _) rfl ?_
 exact ⟨ge,rfl,hge,St.bunTo (H.take 8)⟩
set_option maxHeartbeats 4000000 in
theorem halves_inner0 {w : World} {s : TX} {c g home ck cc m : Nat} {pk pc : Option Addr} (hb : Bundle w (s.L ++ [errA,nodeA g home false (.slice none 0 0) (.slice pk 7 ck) (.slice pc m cc)])) (h : s.Ok c) (htak : ∀ j,2 ≤ j → j < s.n → hasB (s.v 1) j = true) :
  Calls Tryz.prog 152 #[.pointer (some ⟨g,0,none⟩),.pointer (some ⟨s.g,0,none⟩)] w fun e w' => ∃ ge,e = .returned (.tuple #[.pointer none,faultVR ge]) ∧ w'.heap[ge]? = some (faultOR 9 .nilIface) ∧
   BunTo w (ownL (s.L ++ [errA,nodeA g home false (.slice none 0 0) (.slice pk 7 ck) (.slice pc m cc)])) (rdL (s.L ++ [errA,nodeA g home false (.slice none 0 0) (.slice pk 7 ck) (.slice pc m cc)])) (s.L ++ [errA]) w' := by
 have H := hb.open_
 obtain ⟨O,hO⟩ : ∃ O,ownL (s.L ++ [errA,nodeA g home false (.slice none 0 0) (.slice pk 7 ck) (.slice pc m cc)]) = O := ⟨_,rfl⟩
 obtain ⟨R0,hR0⟩ : ∃ R,rdL (s.L ++ [errA,nodeA g home false (.slice none 0 0) (.slice pk 7 ck) (.slice pc m cc)]) = R := ⟨_,rfl⟩
 rw [hO,hR0] at H ⊢
 have HO := Lib.hid h
 have HTK := Lib.hid htak
 clear hb h hO hR0 htak
 have hf := row_cell (H.at 8 rfl) (nRow1 _ _ _ _ _)
 go_enter Tryz.func152,Tryz.ntmps152
 go_wp2_with (first
  | (go_at_call 169;go_loud ((refine (size_inner (H.at 8 rfl)).mono ?_);rintro e W' ⟨rfl,rfl⟩))
  | (go_at_call 114;go_loud ((refine (fresh_full (s := s) (H.take 8).bundle HO.out false HTK.out).mono ?_);rintro e W ⟨ge,rfl,hge,hto⟩;replace H := BunTo.front (R := [nodeA g home false (.slice none 0 0) (.slice pk 7 ck) (.slice pc m cc)]) hto H;clear hto hf;unfold faultVR)))
 refine bodyPost_ret (results_tmp2 rfl _ _ _) rfl ?_
 exact ⟨ge,rfl,hge,St.bunTo (H.take 8)⟩
end Go.Proofs.YtlgciddnpinpbaaGreatDoor
