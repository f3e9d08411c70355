/- Texts of this proof, packed. -/
import Derived.Test.YtlgciddnpinpbaaGreatDoorPkBase4
import Derived.Test.YtlgciddnpinpbaaGreatDoorPqA
import Derived.Test.YtlgciddnpinpbaaGreatDoorPqR
import Derived.Test.YtlgciddnpinpbaaGreatDoorPqB
import Derived.Test.YtlgciddnpinpbaaGreatDoorPqC
import Derived.Test.YtlgciddnpinpbaaGreatDoorPqD
import Derived.Test.YtlgciddnpinpbaaGreatDoorPqI
import Derived.Test.YtlgciddnpinpbaaGreatDoorPqQ
import Derived.Test.YtlgciddnpinpbaaGreatDoorPqS
import Derived.Test.YtlgciddnpinpbaaGreatDoorPqU
import Derived.Sort.OwnSortedInts
set_option linter.unusedSimpArgs false
set_option linter.unusedVariables false
namespace Go.Proofs.YtlgciddnpinpbaaGreatDoor
open Go.RowKit Go.Sort Go.Shelf
set_option maxRecDepth 40000
def sortN (l : List Nat) : List Nat := l.mergeSort fun x y => decide (x ≤ y)
theorem sortN_map (l : List Nat) : ((l.map fun x : Nat => (x : Int)).mergeSort fun x y => decide (x ≤ y)) = (sortN l).map fun x : Nat => (x : Int) := by
 unfold sortN
 rw [List.map_mergeSort (r := fun x y => decide (x ≤ y)) (s := fun x y => decide (x ≤ y)) (f := fun x : Nat => (x : Int))]
 intro a _ b _
 simp
theorem intsV_map (l : List Nat) : intsV l = (l.map fun x : Nat => (x : Int)).map (Value.int .i64) := by simp [intsV]
theorem sort_raw (blk cap : Nat) (zs : List Int) (W : World) (hH : Holds (Value.int .i64) W blk 0 zs.toArray) (hblk : blk < W.heap.size) (hsz : zs.length ≤ 4000) :
  Calls Tryz.prog 84 #[.slice (some ⟨blk,0,none⟩) zs.length cap] W fun e w' => e = .returned (.tuple #[]) ∧ ∃ n os,w' = grow (putRow (Value.int .i64) (Sort.ahead W n) blk 0 (zs.mergeSort fun x y => decide (x ≤ y)).toArray) os :=
 AnyM.slices_Sort_int Tryz.sortA blk 0 cap zs W hH hblk (by omega)
theorem sort_own {M0 R0 : Nat → Prop} {w0 W : World} {L : List Asrt} (H : St M0 R0 w0 W L) (i : Nat) {p : Option Addr} {n cap : Nat} {l : List Nat} (hi : L[i]? = some (ownS 3 1 p n cap (intsV l))) (hl : l.length = n) (h9 : n ≤ 4000) :
  Calls Tryz.prog 84 #[.slice p n cap] W fun e w' => e = .returned (.tuple #[]) ∧ St M0 R0 w0 w' (L.set i (ownS 3 1 p n cap (intsV (sortN l)))) := by
 have hown : W.ownsRow 0 3 1 (.slice p n cap) n (intsV l) := H.at i hi
 rcases hown.2 with ⟨e1,h0⟩ | ⟨g,cap',cur,e1,hb,hg,h3,h4,h5,h6⟩
 ·have hn : n = 0 := by omega
  subst hn
  have hl0 : l = [] := List.eq_nil_of_length_eq_zero hl
  subst hl0
  refine (AnyM.slices_Sort_int_none Tryz.sortA p cap W).mono ?_
  rintro e w' ⟨rfl,rfl⟩
  refine ⟨rfl,?_⟩
  rw [show sortN [] = [] by simp [sortN],list_set_same hi]
  exact H
 ·cases e1
  have hcur : cur.toList.take ((l.map fun x : Nat => (x : Int)).length) = (l.map fun x : Nat => (x : Int)).map (Value.int .i64) := by
   rw [List.length_map,hl,← intsV_map,← h6,Nat.mul_one]
  have hgl := (Array.getElem?_eq_some_iff.1 hg).1
  have hs := sort_raw g cap (l.map fun x : Nat => (x : Int)) W (holds_of_blockI hg hcur) hgl (by rw [List.length_map];omega)
  rw [List.length_map,hl] at hs
  refine hs.mono ?_
  rintro e w' ⟨rfl,n2,os,rfl⟩
  have r2 := grownBy_sortedI (w := W) (g := g) (n := n2) (os := os) ((l.map fun x : Nat => (x : Int)).mergeSort fun x y => decide (x ≤ y)).toArray
  have r1 := ownsRow_sortedI (w := W) (base := 0) (g := g) (cap := cap) (n := n2) (os := os) (ss := l.map fun x : Nat => (x : Int)) (ts := (l.map fun x : Nat => (x : Int)).mergeSort fun x y => decide (x ≤ y)) (List.length_mergeSort ..) (Nat.zero_le _) hg (by rw [List.length_map,hl];exact h3) h4 (by rw [h5])
  rw [sortN_map,List.length_map,hl,← intsV_map] at r1
  rw [sortN_map] at r2 ⊢
  exact ⟨rfl,H.step i hi ⟨r2.os,r2.tape,r2.output,r2.size,fun k hk hn => r2.block k hk (fun e1 => hn ⟨_,rfl,(by have h := Option.some.inj e1;first | exact h | exact h.symm)⟩)⟩ r1 ⟨fun k hk => .inl hk,fun k hk => hk.elim⟩⟩
theorem zeroSlI : (Tryz.prog.info? 72).bind (·.zero) = some (.slice none 0 0) := by kernel_rfl
structure GotH where
 l : List Nat
 p : Option Addr
 cap : Nat
def stH (x : GotH) (h : Nat) (ps : List PairT) (deep : Nat) (r : GotH × Bool) : Prop := r.1.l = x.l ++ [h] ∧ r.2 = true
def hotL (gl : Nat) (x : GotH) : List Asrt := [blk gl (.cells #[.slice x.p x.l.length x.cap] 72 (0,0)),ownS 3 1 x.p x.l.length x.cap (intsV x.l)]
theorem walkR_nodes {frm : Nat} (v : Nat → List UInt8) : ∀ (d deep s h : Nat) (hs : List Nat) (ps : List PairT) (x : GotH) (r : GotH × Bool),frm = 0 → Lies v d s h hs ps → WalkR stH frm v d deep h hs ps x r → r.1.l = x.l ++ hs ∧ r.2 = true
 | 0,deep,s,h,hs,ps,x,r,h0,hlies,hw => by rw [hlies.1];exact hw
 | d + 1,deep,s,h,hs,ps,x,r,h0,hlies,⟨ks1,ks2,a,b,hi,hl,hwy,hhs,hps,hw⟩ => by
  have ha : a = [] := by
   refine List.eq_nil_iff_forall_not_mem.2 fun c hc => ?_
   have hk := hi.kids c (List.mem_append_left _ hc)
   obtain ⟨p,hp⟩ := List.exists_mem_of_ne_nil _ (hk.2.some_ (by omega))
   have hsep := hi.sep
   rw [List.map_append,List.map_append] at hsep
   obtain ⟨k',hk',hlt⟩ := last_of hsep (by simpa using hl) c.ns (List.mem_map.2 ⟨c,hc,rfl⟩) p.n (mem_ns.2 ⟨p,hp,rfl⟩)
   obtain ⟨k2,hk2,rfl⟩ := List.mem_map.1 hk'
   have := hwy.le k2 hk2
   omega
  subst ha
  rw [hhs,List.nil_append]
  rcases hw with ⟨x1,h1,rfl⟩ | ⟨x1,h1,hf⟩
  ·have := h1.2;cases this
  ·have hk : ∀ c ∈ b,Lies v d c.s c.h c.hs c.ps := fun c hc => (hi.kids c (List.mem_append_right _ hc)).2
   clear hi hl hps hlies
   have key : ∀ (b : List Sub) (x : GotH) (r : GotH × Bool),(∀ c ∈ b,Lies v d c.s c.h c.hs c.ps) → FoldR (fun (c : Sub) x r => WalkR stH frm v d (deep + 1) c.h c.hs c.ps x r) b x r → r.1.l = x.l ++ homesOf b ∧ r.2 = true := by
    intro b x r hk hf
    induction hf with
    | nil x => simp [homesOf]
    | @go c cs x x' r h k ih =>
     have h1 := walkR_nodes v d _ _ _ _ _ _ _ h0 (hk c (List.mem_cons_self ..)) h
     have h2 := ih fun c hc => hk c (List.mem_cons_of_mem _ hc)
     refine ⟨?_,h2.2⟩
     rw [h2.1,h1.1]
     simp [homesOf]
    | @stop c cs x x' h =>
     have h1 := walkR_nodes v d _ _ _ _ _ _ _ h0 (hk c (List.mem_cons_self ..)) h
     cases h1.2
   have h2 := key b _ r hk hf
   refine ⟨?_,h2.2⟩
   rw [h2.1,h1.1]
   simp
set_option maxHeartbeats 8000000 in
theorem nodes_see (gl : Nat) : SeeOk 83 #[.pointer (some ⟨gl,0,none⟩)] (fun x : GotH => bun (hotL gl x)) stH (fun x => x.l.length ≤ 3000) := by
 intro x g home lf pp n cp b c ps deep z W hVx hb hnl h6 hp hd hz
 subst hz
 have H := hb.open_
 obtain ⟨O,hO⟩ : ∃ O,ownL [bun (hotL gl x),nodeA g home lf (.slice pp n cp) b c,rdA pp (pairV ps)] = O := ⟨_,rfl⟩
 obtain ⟨R0,hR0⟩ : ∃ R,rdL [bun (hotL gl x),nodeA g home lf (.slice pp n cp) b c,rdA pp (pairV ps)] = R := ⟨_,rfl⟩
 rw [hO,hR0] at H ⊢
 replace H : St O R0 W W ([nodeA g home lf (.slice pp n cp) b c,rdA pp (pairV ps)] ++ [bun (hotL gl x)]) := St.rotate (A := [bun (hotL gl x)]) H
 replace H := H.unbun
 obtain ⟨PP,hPP⟩ : ∃ PP : Ending → World → Prop,(fun e w' => ∃ r,stH x home ps deep r ∧ e = .returned (.bool r.2) ∧ BunTo W O R0 [bun (hotL gl r.1),nodeA g home lf (.slice pp n cp) b c,rdA pp (pairV ps)] w') = PP := ⟨_,rfl⟩
 have HPP := Lib.hid hPP
 rw [hPP]
 obtain ⟨l,pl,cl⟩ := x
 obtain ⟨q,hq⟩ : ∃ q,l.length = q := ⟨_,rfl⟩
 have HQ := Lib.hid hq
 have hq9 : q ≤ 3000 := by rw [← hq];exact hVx
 have HQ9 := Lib.hid hq9
 replace H : St O R0 W W [nodeA g home lf (.slice pp n cp) b c,rdA pp (pairV ps),blk gl (.cells #[.slice pl q cl] 72 (0,0)),ownS 3 1 pl q cl (intsV l)] := by rw [← hq];exact H
 clear hb hnl h6 hp hd hO hR0 hPP hVx hq hq9
 show Calls Tryz.prog 83 #[.pointer (some ⟨g,0,none⟩),.int .i64 (deep : Int),.pointer (some ⟨gl,0,none⟩)] W PP
 go_enter Tryz.func83,Tryz.ntmps83
 go_upto_region 1 with fail
 replace H := H.drew
 refine wp_region_T (fun w' => w'.cell? ⟨gl,0,none⟩ = some (.slice pl q cl) ∧ w'.cell? ⟨g,0,none⟩ = some (.int .i64 (home : Int))) [7] (by kernel_rfl) ⟨row_cell (H.at 2 rfl) rfl,row_cell (H.at 0 rfl) (nRow0 _ _ _ _ _)⟩ (fun hHeld => ?_)
 (refine wpAnyT_take (i := 0) (f := 20) rfl (by kernel_rfl) (by kernel_rfl) (by kernel_rfl) (by kernel_rfl) (by kernel_rfl) (fun _ _ _ h => h) ((yieldsIf_load1 (by rfl) 72 _ rfl _ _ (by rfl) _ Tryz.underlying72 rfl _ (fun w h => h.1))) (by assumption) ?_);(try simp only [Act.put,rp1,rp2,rp3,rp4,rp5,rp6])
 (refine wpAnyT_take (i := 1) (f := 20) (v := ?_) rfl (by kernel_rfl) (by kernel_rfl) (by kernel_rfl) (by kernel_rfl) (by kernel_rfl) (fun _ _ _ h => h) (Or.inl ⟨by rfl,?_⟩) (by assumption) ?_;rotate_left;focus (intro w hSw;(try dsimp only at hSw);go_simp;all_goals (with_reducible rfl)));(try simp only [Act.put,rp1,rp2,rp3,rp4,rp5,rp6])
 (refine wpAnyT_take (i := 2) (f := 20) (v := ?_) rfl (by kernel_rfl) (by kernel_rfl) (by kernel_rfl) (by kernel_rfl) (by kernel_rfl) (fun _ _ _ h => h) (Or.inl ⟨by rfl,?_⟩) (by assumption) ?_;rotate_left;focus (intro w hSw;(try dsimp only at hSw);go_simp;all_goals (with_reducible rfl)));(try simp only [Act.put,rp1,rp2,rp3,rp4,rp5,rp6])
 (refine wpAnyT_take (i := 3) (f := 20) (v := ?_) rfl (by kernel_rfl) (by kernel_rfl) (by kernel_rfl) (by kernel_rfl) (by kernel_rfl) (fun _ _ _ h => h) (Or.inl ⟨by rfl,?_⟩) (by assumption) ?_;rotate_left;focus (intro w hSw;(try dsimp only at hSw);go_simp;all_goals (with_reducible rfl)));(try simp only [Act.put,rp1,rp2,rp3,rp4,rp5,rp6])
 (refine wpAnyT_take (i := 4) (f := 20) rfl (by kernel_rfl) (by kernel_rfl) (by kernel_rfl) (by kernel_rfl) (by kernel_rfl) (fun _ _ _ h => h) ((yieldsIf_load1 (by rfl) 3 _ rfl _ _ (by rfl) _ Tryz.underlying3 rfl _ (fun w h => h.2))) (by assumption) ?_);(try simp only [Act.put,rp1,rp2,rp3,rp4,rp5,rp6])
 (refine wpAnyT_one (i := 5) (by kernel_rfl) rfl (fun K hK => ?_));(rw [if_pos (by rfl)]);(refine wp_buildslice_st H 72 3 _ _ rfl Tryz.underlying72 _ size_int _ zero_i64 (by decide) (by decide) [(0,.int .i64 (home : Int))] (by simp [Act.eval]) _ (fill_int _) ?_;clear H;intro W6 gs H;have hHeld2 : W6.cell? ⟨gl,0,none⟩ = some (.slice pl q cl) ∧ W6.cell? ⟨g,0,none⟩ = some (.int .i64 (home : Int)) := ⟨row_cell (H.at 2 rfl) rfl,row_cell (H.at 0 rfl) (nRow0 _ _ _ _ _)⟩;refine hK.out _ _ (Or.inr hHeld2) ?_;clear hK K hHeld);(try simp only [Act.put,rp1,rp2,rp3,rp4,rp5,rp6])
 (refine wpAnyT_one (i := 6) (by kernel_rfl) rfl (fun K hK => ?_));(rw [if_pos (by rfl)]);(refine wp_append_ownS H 3 _ _ 72 rfl _ Tryz.underlying72 _ 1 8 infoI rfl (by omega) pl q cl (by rfl) _ rfl ⟨gs,0,none⟩ 1 _ (by rfl) [.int .i64 (home : Int)] rfl (news_of_row (H.at 4 rfl)) (by simp [Value.oneCell']) (by omega) (by have := HQ9.out;simp only [maxLen];omega) (by have := HQ9.out;omega) ?_;clear H;intro W7 gq cq H;have hHeld3 : W7.cell? ⟨gl,0,none⟩ = some (.slice pl q cl) ∧ W7.cell? ⟨g,0,none⟩ = some (.int .i64 (home : Int)) := ⟨row_cell (H.at 2 rfl) rfl,row_cell (H.at 0 rfl) (nRow0 _ _ _ _ _)⟩;refine hK.out _ _ (Or.inr hHeld3) ?_;clear hK K hHeld2);(try simp only [Act.put,rp1,rp2,rp3,rp4,rp5,rp6])
 (refine wpAnyT_one (i := 7) (by kernel_rfl) rfl (fun K hK => ?_));(rw [if_pos (by rfl)]);(refine wp_store1_st H 2 72 _ _ rfl gl 0 (.slice (some ⟨gq,0,none⟩) (q + 1) cq) (by rfl) (by rfl) rfl _ _ rfl size_slI (by simp) ?_;clear H;intro W8 H;refine hK.out _ _ (Or.inl ⟨7,by simp,by kernel_rfl⟩) ?_;clear hK K hHeld3);(try simp only [Act.put,rp1,rp2,rp3,rp4,rp5,rp6])
 (refine wpAnyT_done (by kernel_rfl) ?_ _)
 go_wp2
 rw [← HPP.out]
 refine ⟨(⟨l ++ [home],some ⟨gq,0,none⟩,cq⟩,true),⟨rfl,rfl⟩,rfl,?_⟩
 refine St.bunTo (St.rotate (A := [nodeA g home lf (.slice pp n cp) b c,rdA pp (pairV ps)]) (St.rebun (Ls := hotL gl ⟨l ++ [home],some ⟨gq,0,none⟩,cq⟩) ?_))
 have e1 : (l ++ [home]).length = q + 1 := by rw [List.length_append,HQ.out];rfl
 have e2 : intsV (l ++ [home]) = intsV l ++ [Value.int .i64 (home : Int)] := by rw [intsV_append];simp [intsV]
 show St O R0 W _ [nodeA g home lf (.slice pp n cp) b c,rdA pp (pairV ps),blk gl (.cells #[.slice (some ⟨gq,0,none⟩) (l ++ [home]).length cq] 72 (0,0)),ownS 3 1 (some ⟨gq,0,none⟩) (l ++ [home]).length cq (intsV (l ++ [home]))]
 rw [e1,e2]
 exact H.take 4
set_option maxHeartbeats 8000000 in
theorem Nodes_calls {w : World} {s : TX} {c r : Nat} {hs : List Nat} {ps : List PairT} (hb : Bundle w s.L) (h0 : s.Ok c) (R : Root s r hs ps) (z : Int) (hz : (r : Int) = z) :
  Calls Tryz.prog 44 #[.pointer (some ⟨s.g,0,none⟩),.int .u32 z] w fun e w' => ∃ p cap,e = .returned (.tuple #[.slice p hs.length cap,.int .i64 0]) ∧
   BunTo w (ownL s.L) (rdL s.L) (s.L ++ [ownS 3 1 p hs.length cap (intsV (sortN hs))]) w' := by
 subst hz
 have H := hb.open_
 obtain ⟨O,hO⟩ : ∃ O,ownL s.L = O := ⟨_,rfl⟩
 obtain ⟨R0,hR0⟩ : ∃ R,rdL s.L = R := ⟨_,rfl⟩
 rw [hO,hR0] at H ⊢
 have HO := Lib.hid h0
 obtain ⟨PP,hPP⟩ : ∃ PP : Ending → World → Prop,(fun e w' => ∃ p cap,e = .returned (.tuple #[.slice p hs.length cap,.int .i64 0]) ∧
   BunTo w O R0 (s.L ++ [ownS 3 1 p hs.length cap (intsV (sortN hs))]) w') = PP := ⟨_,rfl⟩
 have HPP := Lib.hid hPP
 rw [hPP]
 have R1 := R.is
 have hnn : s.n ≤ 1900 := h0.nn.2
 clear hb h0 R hO hR0 hPP
 rcases R1 with ⟨rfl,rfl,rfl⟩ | ⟨d,sz,h1,T⟩
 ·go_enter Tryz.func44,Tryz.ntmps44
  go_upto_region 5 with (first
   | (refine wpList_alloc_st H rfl 72 rfl _ zeroSlI ?_;clear H;intro W gl H)
   | (refine wpList_buildz rfl 67 rfl zeroKey built_zero ?_)
   | (go_at_call 81;go_loud (replace H := H.addNil 3 1;replace H : St O R0 w W (s.L ++ hotL gl ⟨[],none,0⟩) := H;replace H := H.rebun;(refine (walks_none (s := s) H.bundle HO.out zeroKey).mono ?_);rintro e W ⟨rfl,hto⟩;replace H := BunTo.front (R := []) hto (by rw [List.append_nil];exact H);rw [List.append_nil] at H;clear hto;replace H := H.unbun)))
  replace H : St O R0 w W (s.L ++ [blk gl (.cells #[.slice none 0 0] 72 (0,0)),ownS 3 1 none 0 0 (intsV [])]) := H
  have hf := row_cell (H.at 7 rfl) (off := 0) (v := .slice none 0 0) rfl
  go_upto_region 6 with (first
   | (go_at_call 84;go_loud ((refine (sort_own H 8 (l := []) rfl rfl (by omega)).mono ?_);rintro e W2 ⟨rfl,H2⟩;clear H hf;have H := H2;clear H2;have hf := row_cell (H.at 7 rfl) (off := 0) (v := .slice none 0 0) rfl)))
  go_wp2
  rw [← HPP.out]
  exact ⟨none,0,rfl,St.bunTo ((H.pull 7 rfl).take 8)⟩
 ·have HT := Lib.hid T
  have H1 := Lib.hid h1
  have HLN := Lib.hid (show hs.length ≤ 1900 by have := T.held.len;omega)
  clear T h1
  go_enter Tryz.func44,Tryz.ntmps44
  go_upto_region 5 with (first
   | (refine wpList_alloc_st H rfl 72 rfl _ zeroSlI ?_;clear H;intro W gl H)
   | (refine wpList_buildz rfl 67 rfl zeroKey built_zero ?_)
   | (go_at_call 81;go_loud (replace H := H.addNil 3 1;replace H : St O R0 w W (s.L ++ hotL gl ⟨[],none,0⟩) := H;replace H := H.rebun;(refine (walks_some (x := (⟨[],none,0⟩ : GotH)) (nodes_see gl) (enters_of Tryz.func83 (by kernel_rfl) rfl) (Vq := fun q x => x.l.length ≤ q) (fun q x hq hx => by omega) (fun q x h ps deep x' hx hst => by have h5 : x'.l = x.l ++ [h] := hst.1;rw [h5,List.length_append];simp;omega) H.bundle (Nat.zero_le _) HO.out HT.out.lies HT.out.held H1.out zeroKey_len _ rfl).mono ?_);rintro e W ⟨y,hy,rfl,hto⟩;have HY := Lib.hid (walkR_nodes _ _ _ _ _ _ _ _ _ kn_zero HT.out.lies hy);clear hy;replace H := BunTo.front (R := []) hto (by rw [List.append_nil];exact H);rw [List.append_nil] at H;clear hto;replace H := H.unbun)))
  obtain ⟨⟨l,pl,cl⟩,b⟩ := y
  have hl : l = hs := by have := HY.out.1;rw [List.nil_append] at this;exact this
  subst hl
  obtain ⟨q,hq⟩ : ∃ q,l.length = q := ⟨_,rfl⟩
  have HQ := Lib.hid hq
  replace H : St O R0 w W (s.L ++ [blk gl (.cells #[.slice pl q cl] 72 (0,0)),ownS 3 1 pl q cl (intsV l)]) := by rw [← hq];exact H
  clear hq HY
  have hf := row_cell (H.at 7 rfl) (off := 0) (v := .slice pl q cl) rfl
  go_upto_region 6 with (first
   | (go_at_call 84;go_loud ((refine (sort_own H 8 rfl HQ.out (by have := HLN.out;have := HQ.out;omega)).mono ?_);rintro e W2 ⟨rfl,H2⟩;clear H hf;have H := H2;clear H2;have hf := row_cell (H.at 7 rfl) (off := 0) (v := .slice pl q cl) rfl)))
  go_wp2
  rw [← HPP.out,HQ.out]
  exact ⟨pl,cl,rfl,St.bunTo ((H.pull 7 rfl).take 8)⟩
end Go.Proofs.YtlgciddnpinpbaaGreatDoor
