/- Texts of this proof, packed. -/
import Derived.Test.YtlgciddnpinpbaaGreatDoorPkBase4
import Derived.Test.YtlgciddnpinpbaaGreatDoorPqA
import Derived.Test.YtlgciddnpinpbaaGreatDoorPqR
import Derived.Test.YtlgciddnpinpbaaGreatDoorPqB
import Derived.Test.YtlgciddnpinpbaaGreatDoorPqC
import Derived.Test.YtlgciddnpinpbaaGreatDoorPqE
import Derived.Test.YtlgciddnpinpbaaGreatDoorPqD
import Derived.Test.YtlgciddnpinpbaaGreatDoorPqI
import Derived.Test.YtlgciddnpinpbaaGreatDoorPqK
import Derived.Test.YtlgciddnpinpbaaGreatDoorPqM
import Derived.Test.YtlgciddnpinpbaaGreatDoorPqO
import Derived.Test.YtlgciddnpinpbaaGreatDoorPqP
import Derived.Test.YtlgciddnpinpbaaGreatDoorPqQ
set_option linter.unusedSimpArgs false
set_option linter.unusedVariables false
namespace Go.Proofs.YtlgciddnpinpbaaGreatDoor
open Go.RowKit
set_option maxRecDepth 40000
theorem ret2_inj {a b c d : Value} (h : Ending.returned (.tuple #[a,b]) = .returned (.tuple #[c,d])) : a = c ∧ b = d := by
 injection h with h
 injection h with h
 simpa using h
theorem PutPost.vals {s : TX} {c d sz h : Nat} {hs : List Nat} {ps' : List PairT} {w w' : World} {own rd : Nat → Prop} {e : Ending} (hp : PutPost s c d sz h hs ps' w own rd e w') :
  ∃ v1 v2,e = .returned (.tuple #[v1,v2]) ∧ PutPost s c d sz h hs ps' w own rd (.returned (.tuple #[v1,v2])) w' := by
 have hp0 := hp
 rcases hp with ⟨_,_,_,rfl,_⟩ | ⟨_,_,_,_,_,_,_,rfl,_⟩ | ⟨_,_,_,rfl,_⟩ <;> exact ⟨_,_,rfl,hp0⟩
def PutsPostR (s : TX) (c : Nat) (hs : List Nat) (ps' : List PairT) (w : World) (own rd : Nat → Prop) (e : Ending) (w' : World) : Prop :=
 (∃ (r' : Nat) (hs' : List Nat) (s' : TX) (ws : List Nat),e = .returned (.tuple #[.int .i64 (r' : Int),.nilIface]) ∧ Root s' r' hs' ps' ∧ r' ≠ 0 ∧ Moves s s' c hs hs' ws ∧ ws.length ≤ 23 ∧ BunTo w own rd (s'.L ++ [errA]) w') ∨
 (∃ (ge : Nat) (inner z : Value) (s' : TX),e = .returned (.tuple #[z,faultVR ge]) ∧ w'.heap[ge]? = some (faultOR 9 inner) ∧ leftOf (s.v 1) s.n ≤ 7 ∧ s'.Ok c ∧ s'.t = s.t ∧ s'.g = s.g ∧ s'.x.gl = s.x.gl ∧ BunTo w own rd (s'.L ++ [errA]) w')
set_option maxHeartbeats 8000000 in
theorem puts_first {w : World} {s : TX} {c : Nat} {p : PairT} (hb : Bundle w (s.L ++ [errA])) (h0 : s.Ok c) (hp : PairOk p) :
  Calls Tryz.prog 79 #[.pointer (some ⟨s.g,0,none⟩),.int .i64 0,.agg (byteV p.b).toArray] w (PutsPostR s c [] (ins p []) w (ownL (s.L ++ [errA])) (rdL (s.L ++ [errA]))) := by
 have H := hb.open_
 obtain ⟨O,hO⟩ : ∃ O,ownL (s.L ++ [errA]) = O := ⟨_,rfl⟩
 obtain ⟨R0,hR0⟩ : ∃ R,rdL (s.L ++ [errA]) = R := ⟨_,rfl⟩
 rw [hO,hR0] at H ⊢
 have HO := Lib.hid h0
 have HP := Lib.hid hp
 have HPB := Lib.hid (show (byteV p.b).length = 40 by rw [byteV_length];exact hp.len)
 obtain ⟨PP,hPP⟩ : ∃ PP,PutsPostR s c [] (ins p []) w O R0 = PP := ⟨_,rfl⟩
 have HPP := Lib.hid hPP
 rw [hPP]
 clear hb h0 hp hO hR0 hPP
 rcases (show leftOf (s.v 1) s.n = 0 ∨ 0 < leftOf (s.v 1) s.n by omega) with h8 | h8
 ·have HL0 := Lib.hid h8
  clear h8
  go_enter Tryz.func79,Tryz.ntmps79
  go_wp2_with (first
   | (refine wpList_box_st H rfl 80 _ rfl (.agg (byteV p.b).toArray) rfl ?_;clear H;intro W gp H;replace H : St O R0 w W (s.L ++ [errA,blk gp (.cells (byteV p.b).toArray 80 (0,0))]) := H)
   | (go_at_call 114;go_loud ((refine (fresh_full (s := s) (H.take 8).bundle HO.out true (none_left HL0.out)).mono ?_);rintro e W ⟨ge,rfl,hge,hto⟩;have HGE := Lib.hid hge;clear hge;replace H := BunTo.front (R := [_]) hto H;clear hto;unfold faultVR)))
  rw [← HPP.out]
  exact .inr ⟨ge,.nilIface,_,s,rfl,HGE.out,by have := HL0.out;omega,HO.out,rfl,rfl,rfl,St.bunTo (H.take 8)⟩
 ·obtain ⟨i,hi2,hin,hif,hit⟩ := lowest h8
  have HLW := Lib.hid (And.intro hi2 (And.intro hin (And.intro hif hit)))
  clear hi2 hin hif hit h8
  go_enter Tryz.func79,Tryz.ntmps79
  go_upto_region 5 with (first
   | (refine wpList_box_st H rfl 80 _ rfl (.agg (byteV p.b).toArray) rfl ?_;clear H;intro W gp H;replace H : St O R0 w W (s.L ++ [errA,blk gp (.cells (byteV p.b).toArray 80 (0,0))]) := H)
   | (go_at_call 114;go_loud ((refine (fresh_ok (s := s) (H.take 8).bundle HO.out true i HLW.out.1 HLW.out.2.1 HLW.out.2.2.1 HLW.out.2.2.2).mono ?_);rintro e W ⟨g,rfl,s1,hs1,hto⟩;replace H := BunTo.front2 (Ls' := s1.L ++ [errA]) (E := [nodeA g i true (.slice none 0 0) (.slice none 0 0) (.slice none 0 0)]) (R := [blk gp (.cells (byteV p.b).toArray 80 (0,0))]) hto H;clear hto)))
  have HS1 := Lib.hid hs1
  have hg1 : s1.g = s.g := hs1.g
  rw [← hg1]
  clear hs1 hg1
  go_upto_region 6 with (first
   | (refine wpList_loadrow_st rfl 80 _ rfl _ rfl _ _ _ (H.at 8 rfl) _ Tryz.underlying80 rfl (size_pair _ HPB.out) ?_)
   | (refine wpList_buildslice_st H rfl 76 80 _ _ rfl Tryz.underlying76 40 sizeP _ zeroP (by decide) (by decide) [(0,.agg (byteV p.b).toArray)] (by first | (simp [Act.eval];done) | (simp [Act.eval,Act.put];done)) _ (fill_one 40 (byteV p.b) _ (by simp) HPB.out) ?_;clear H;intro W gr H)
   | (refine wpList_store1_st H 9 rfl 76 _ _ rfl g 2 (.slice (some ⟨gr,0,none⟩) 1 1) (by rfl) (by rfl) rfl _ _ rfl size_slP (by simp [nRow]) ?_;clear H;intro W H))
  replace H : St O R0 w W (s1.L ++ [errA,blk gp (.cells (byteV p.b).toArray 80 (0,0)),nodeA g i true (.slice (some ⟨gr,0,none⟩) [p].length 1) (.slice none 0 0) (.slice none 0 0),blk gr (.cells (byteV p.b).toArray 80 (0,0))]) := H
  replace H := H.recast 10 (A' := rdA (some ⟨gr,0,none⟩) (pairV [p])) rfl (fun h => by rw [show pairV [p] = byteV p.b by simp [pairV]];exact rdB_of_row h) (fun k hk => hk.elim) (fun k ⟨_,ad,e,hk⟩ => by { cases e;exact .inl hk })
  have HNO := Lib.hid (show NodeT.Ok ⟨g,i,.leaf (some ⟨gr,0,none⟩) 1 [p]⟩ s1.n from ⟨by rw [HS1.out.n];exact HLW.out.2.1,fun q hq => by rw [List.mem_singleton.1 hq];exact HP.out,by simp⟩)
  replace H := H.drew
  refine wp_region_T (fun w' => w'.cell? ⟨g,0,none⟩ = some (.int .i64 (i : Int))) [] (by kernel_rfl) (row_cell (H.at 9 rfl) (nRow0 _ _ _ _ _)) (fun hHeld => ?_)
  (refine wpAnyT_pure (i := 0) (v := ?_) rfl (by kernel_rfl) (by kernel_rfl) (by kernel_rfl) (by kernel_rfl) (fun _ _ _ h => h) (Or.inl ⟨by rfl,?_⟩) (Or.inr (by assumption)) ?_;rotate_left;focus (intro w hSw;clear hSw;go_simp;all_goals (with_reducible rfl)));(try simp only [Act.put,rp1,rp2,rp3,rp4,rp5,rp6])
  (refine wpAnyT_pure (i := 1) (v := ?_) rfl (by kernel_rfl) (by kernel_rfl) (by kernel_rfl) (by kernel_rfl) (fun _ _ _ h => h) (Or.inl ⟨by rfl,?_⟩) (Or.inr (by assumption)) ?_;rotate_left;focus (intro w hSw;clear hSw;go_simp;all_goals (with_reducible rfl)));(try simp only [Act.put,rp1,rp2,rp3,rp4,rp5,rp6])
  (refine wpAnyT_pure (i := 2) (v := ?_) rfl (by kernel_rfl) (by kernel_rfl) (by kernel_rfl) (by kernel_rfl) (fun _ _ _ h => h) (Or.inl ⟨by rfl,?_⟩) (Or.inr (by assumption)) ?_;rotate_left;focus (intro w hSw;clear hSw;go_simp;all_goals (with_reducible rfl)));(try simp only [Act.put,rp1,rp2,rp3,rp4,rp5,rp6])
  (refine wpAnyT_take (i := 3) (f := 20) rfl (by kernel_rfl) (by kernel_rfl) (by kernel_rfl) (by kernel_rfl) (by kernel_rfl) (fun _ _ _ h => h) ((yieldsIf_load1 (by rfl) 3 _ rfl _ _ (by rfl) _ Tryz.underlying3 rfl _ (fun w h => h))) (by assumption) ?_);(try simp only [Act.put,rp1,rp2,rp3,rp4,rp5,rp6])
  (refine wpAnyT_pure (i := 4) (v := ?_) rfl (by kernel_rfl) (by kernel_rfl) (by kernel_rfl) (by kernel_rfl) (fun _ _ _ h => h) (Or.inl ⟨by rfl,?_⟩) (Or.inr (by assumption)) ?_;rotate_left;focus (intro w hSw;clear hSw;go_simp;all_goals (with_reducible rfl)));(try simp only [Act.put,rp1,rp2,rp3,rp4,rp5,rp6])
  (refine wpAnyT_pure (i := 5) (v := ?_) rfl (by kernel_rfl) (by kernel_rfl) (by kernel_rfl) (by kernel_rfl) (fun _ _ _ h => h) (Or.inl ⟨by rfl,?_⟩) (Or.inr (by assumption)) ?_;rotate_left;focus (intro w hSw;clear hSw;go_simp;all_goals (with_reducible rfl)));(try simp only [Act.put,rp1,rp2,rp3,rp4,rp5,rp6])
  (refine wpAnyT_one (i := 6) (by kernel_rfl) rfl (fun K hK => ?_));(rw [if_pos (by rfl)]);(refine wp_buildslice_st H 227 145 _ _ rfl Tryz.underlying227 _ size_ptrN _ zero_ptrN (by decide) (by decide) [(0,.pointer (some ⟨g,0,none⟩))] (by first | (simp [Act.eval];done) | (simp [Act.eval,Act.put];done)) #[.pointer (some ⟨g,0,none⟩)] (fill_ptr1 _) ?_;clear H;intro W gl H;have hH2 : W.cell? ⟨g,0,none⟩ = some (.int .i64 (i : Int)) := row_cell (H.at 9 rfl) (nRow0 _ _ _ _ _);refine hK.out _ _ (Or.inr hH2) ?_;clear hK K hHeld);(try simp only [Act.put,rp1,rp2,rp3,rp4,rp5,rp6])
  replace H := H.recast 11 (A' := rdA (some ⟨gl,0,none⟩) (ptrV [⟨g,i,.leaf (some ⟨gr,0,none⟩) 1 [p]⟩])) rfl (fun h => rdB_of_row h) (fun k hk => hk.elim) (fun k ⟨_,ad,e,hk⟩ => by { cases e;exact .inl hk })
  replace H : St O R0 w W ((s1.L ++ [errA,blk gp (.cells (byteV p.b).toArray 80 (0,0)),rdA (some ⟨gl,0,none⟩) (ptrV [⟨g,i,.leaf (some ⟨gr,0,none⟩) 1 [p]⟩])]) ++ NodeT.Ls ⟨g,i,.leaf (some ⟨gr,0,none⟩) 1 [p]⟩) := ((H.pull 9 rfl).pull 9 rfl)
  replace H := H.rebun
  replace H : St O R0 w W ((s1.L ++ (rdA (some ⟨gl,0,none⟩) (ptrV [⟨g,i,.leaf (some ⟨gr,0,none⟩) 1 [p]⟩]) :: [(⟨g,i,.leaf (some ⟨gr,0,none⟩) 1 [p]⟩ : NodeT)].map NodeT.A)) ++ [errA,blk gp (.cells (byteV p.b).toArray 80 (0,0))]) := (H.pull 7 rfl).pull 7 rfl
  (refine wpAnyT_one (i := 7) (by kernel_rfl) rfl (fun K hK => ?_));(rw [if_pos (by rfl)]);(go_simp;go_at_call 115;(refine (saves_calls (s := s1) (n := 1) (Ns := [⟨g,i,.leaf (some ⟨gr,0,none⟩) 1 [p]⟩]) H.left.bundle HS1.out.ok rfl (by omega) (fun N hN => by { rw [List.mem_singleton.1 hN];exact HNO.out })).mono ?_);rintro e W ⟨rfl,s',hs',hto⟩;have HS' := Lib.hid (show s1.To s' c (updV s1.V i (NodeT.enc ⟨g,i,.leaf (some ⟨gr,0,none⟩) 1 [p]⟩)) from hs');clear hs';replace H := hto.front H;clear hto;(try go_wp2_with fail);have hH3 : W.cell? ⟨g,0,none⟩ = some (.int .i64 (i : Int)) := row_cell ((H.at 8 rfl : Bundle W (NodeT.Ls ⟨g,i,.leaf (some ⟨gr,0,none⟩) 1 [p]⟩)).all 0 _ rfl) (nRow0 _ _ _ _ _);refine hK.out _ _ (Or.inr hH3) ?_;clear hK K hH2);(try simp only [Act.put,rp1,rp2,rp3,rp4,rp5,rp6])
  (refine wpAnyT_pure (i := 8) (v := ?_) rfl (by kernel_rfl) (by kernel_rfl) (by kernel_rfl) (by kernel_rfl) (fun _ _ _ h => h) (Or.inl ⟨by rfl,?_⟩) (Or.inr (by assumption)) ?_;rotate_left;focus (intro w hSw;clear hSw;go_simp;all_goals (with_reducible rfl)));(try simp only [Act.put,rp1,rp2,rp3,rp4,rp5,rp6])
  (refine wpAnyT_pure (i := 9) (v := ?_) rfl (by kernel_rfl) (by kernel_rfl) (by kernel_rfl) (by kernel_rfl) (fun _ _ _ h => h) (Or.inl ⟨by rfl,?_⟩) (Or.inr (by assumption)) ?_;rotate_left;focus (intro w hSw;clear hSw;go_simp;all_goals (with_reducible rfl)));(try simp only [Act.put,rp1,rp2,rp3,rp4,rp5,rp6])
  (refine wpAnyT_done (by kernel_rfl) ?_ _)
  replace H : St O R0 w W (s'.L ++ [errA]) := ((H.pull 7 rfl).pull 7 rfl).take 8
  go_wp2
  rw [← HPP.out]
  obtain ⟨hr,hm⟩ := root_first HO.out HP.out HLW.out.1 HLW.out.2.1 HLW.out.2.2.1 HS1.out HS'.out
  exact .inl ⟨i,[i],s',_,rfl,hr,by have := HLW.out.1;omega,hm,by simp,H.bunTo⟩
theorem fill_int2 (m n : Int) : Instr.fill (fun i => some (i * 1,1)) ((Array.range (2 * 1)).map ((Value.int .i64 0).cells[· % (Value.int .i64 0).cells.size]!)) [(0,.int .i64 m),(1,.int .i64 n)] = some #[.int .i64 m,.int .i64 n] := by kernel_rfl
set_option maxHeartbeats 16000000 in
theorem puts_more {w : World} {s : TX} {c d sz r : Nat} {hs : List Nat} {ps : List PairT} {p : PairT} (hb : Bundle w (s.L ++ [errA])) (h0 : s.Ok c) (T : Tree s d sz r hs ps) (h1 : 1 ≤ sz) (hp : PairOk p) (z : Int) (hz : (r : Int) = z) :
  Calls Tryz.prog 79 #[.pointer (some ⟨s.g,0,none⟩),.int .i64 z,.agg (byteV p.b).toArray] w (PutsPostR s c hs (ins p ps) w (ownL (s.L ++ [errA])) (rdL (s.L ++ [errA]))) := by
 subst hz
 have H := hb.open_
 obtain ⟨O,hO⟩ : ∃ O,ownL (s.L ++ [errA]) = O := ⟨_,rfl⟩
 obtain ⟨R0,hR0⟩ : ∃ R,rdL (s.L ++ [errA]) = R := ⟨_,rfl⟩
 rw [hO,hR0] at H ⊢
 have HO := Lib.hid h0
 have HP := Lib.hid hp
 have HT := Lib.hid T
 have H1 := Lib.hid h1
 have HD := Lib.hid (T.deep h0.nn.2)
 have HSN := Lib.hid h0.nn.2
 have HRR := Lib.hid T.two
 have hr2 : ¬ ((r : Int) = 0) := by have := T.two.1;omega
 have hr3 : ((r : Int) == 0) = false := beq_eq_false_iff_ne.2 hr2
 have HPB := Lib.hid (show (byteV p.b).length = 40 by rw [byteV_length];exact hp.len)
 obtain ⟨PP,hPP⟩ : ∃ PP,PutsPostR s c hs (ins p ps) w O R0 = PP := ⟨_,rfl⟩
 have HPP := Lib.hid hPP
 rw [hPP]
 clear hb h0 hp hO hR0 hPP T h1
 go_enter Tryz.func79,Tryz.ntmps79
 go_upto_region 7 with (first
  | (refine wpList_box_st H rfl 80 _ rfl (.agg (byteV p.b).toArray) rfl ?_;clear H;intro W gp H;replace H : St O R0 w W (s.L ++ [errA,blk gp (.cells (byteV p.b).toArray 80 (0,0))]) := H))
 go_upto_region 8 with (first
  | (refine wpList_loadrow_st rfl 80 _ rfl _ rfl _ _ _ (H.at 8 rfl) _ Tryz.underlying80 rfl (size_pair _ HPB.out) ?_)
  | (go_at_call 116;go_loud ((refine (put_ok d _ s c sz r 1 hs ps p (H.take 8).bundle HO.out HT.out H1.out HP.out (by have := HD.out;omega) _ _ rfl rfl).mono ?_);intro e W hpost;obtain ⟨v1,v2,rfl,hpost2⟩ := hpost.vals;have HPO := Lib.hid hpost2;clear hpost hpost2)))
 rcases HPO.out with (⟨c',s1,ws,he,hput,hmv,hws,hln,hto⟩ | ⟨c1,c2,k,h2,gs,s1,ws,he,hput,hmv,hws,hln,hto⟩ | ⟨ge,inner,s1,he,hge,hlo,hok,ht1,hg1,hgl1,hto⟩)
 ·obtain ⟨rfl,rfl⟩ := ret2_inj he
  have HA := Lib.hid (And.intro hput (And.intro hmv hws))
  clear hput hmv hws hln he HPO
  replace H := BunTo.front (R := [blk gp (.cells (byteV p.b).toArray 80 (0,0))]) hto H
  clear hto
  go_wp2_with (first
   | (go_at_call 117;go_loud ((refine (below_nilR _).mono ?_);rintro e W' ⟨rfl,rfl⟩)))
  rw [← HPP.out]
  have hr := root_same H1.out (ris_ins HT.out.ris p) HT.out.held HA.out.1 HA.out.2.1
  exact .inl ⟨r,c'.hs,s1,ws,rfl,hr,by have := HRR.out.1;omega,HA.out.2.1,by have := HA.out.2.2;have := HD.out;omega,St.bunTo (H.take 8)⟩
 ·obtain ⟨rfl,rfl⟩ := ret2_inj he
  have HA := Lib.hid (And.intro hput (And.intro hmv (And.intro hws hln)))
  have HPT := Lib.hid (PartT.mk (c1 := c1) (c2 := c2) hput.2.2.2.2.2.2.2.1)
  have HKB := Lib.hid (show (byteV k).length = 32 by rw [byteV_length];exact HPT.out.k32)
  have HO1 := Lib.hid hmv.ok
  have HG := Lib.hid (show s1.g = s.g from hmv.g)
  clear hput hmv hws hln he HPO
  replace H := BunTo.front (R := [blk gp (.cells (byteV p.b).toArray 80 (0,0))]) hto H
  clear hto
  replace H : St O R0 w W (s1.L ++ [errA,splitA gs k h2,blk gp (.cells (byteV p.b).toArray 80 (0,0))]) := H
  rw [← HG.out]
  rcases (show leftOf (s1.v 1) s1.n = 0 ∨ 0 < leftOf (s1.v 1) s1.n by omega) with h8 | h8
  ·have HL0 := Lib.hid h8
   clear h8
   replace H : St O R0 w W (s1.L ++ [errA,blk gp (.cells (byteV p.b).toArray 80 (0,0)),splitA gs k h2]) := H.pull 8 rfl
   go_wp2_with (first
    | (go_at_call 114;go_loud ((refine (fresh_full (s := s1) (H.take 8).bundle HO1.out false (none_left HL0.out)).mono ?_);rintro e W ⟨ge,rfl,hge,hto⟩;have HGE := Lib.hid hge;clear hge;replace H := BunTo.front (R := [_,_]) hto H;clear hto;unfold faultVR)))
   rw [← HPP.out]
   exact .inr ⟨ge,.nilIface,_,s1,rfl,HGE.out,by have h5 := HL0.out;have h6 := HA.out.2.1.left;have h7 := HA.out.2.2.2;have h9 := HD.out;rw [HA.out.2.1.n] at h5;omega,HO1.out,HA.out.2.1.t,HA.out.2.1.g,HA.out.2.1.gl,St.bunTo (H.take 8)⟩
  ·obtain ⟨i,hi2,hin,hif,hit⟩ := lowest h8
   have HLW := Lib.hid (And.intro hi2 (And.intro hin (And.intro hif hit)))
   clear hi2 hin hif hit h8
   go_upto_region 13 with (first
    | (go_at_call 114;go_loud ((refine (fresh_ok (s := s1) (H.take 8).bundle HO1.out false i HLW.out.1 HLW.out.2.1 HLW.out.2.2.1 HLW.out.2.2.2).mono ?_);rintro e W ⟨g,rfl,s2,hs2,hto⟩;replace H := BunTo.front2 (Ls' := s2.L ++ [errA]) (E := [nodeA g i false (.slice none 0 0) (.slice none 0 0) (.slice none 0 0)]) (R := [splitA gs k h2,blk gp (.cells (byteV p.b).toArray 80 (0,0))]) hto H;clear hto)))
   have HS2 := Lib.hid hs2
   have HG2 := Lib.hid (show s2.g = s1.g from hs2.g)
   clear hs2
   rw [← HG2.out]
   replace H : St O R0 w W (s2.L ++ [errA,blk gp (.cells (byteV p.b).toArray 80 (0,0)),nodeA g i false (.slice none 0 0) (.slice none 0 0) (.slice none 0 0),splitA gs k h2]) := H.pull 8 rfl
   replace H := H.drew
   refine wp_region_T (fun w' => (∀ j u,(byteV k)[j]? = some u → w'.cell? ((⟨gs,0,none⟩ : Addr).add j) = some u) ∧ w'.cell? ⟨gs,32,none⟩ = some (.int .i64 (h2 : Int))) [15] (by kernel_rfl) (split_cells (H.at 10 rfl) HPT.out.k32) (fun hHeld => ?_)
   (refine wpAnyT_pure (i := 0) (v := ?_) rfl (by kernel_rfl) (by kernel_rfl) (by kernel_rfl) (by kernel_rfl) (fun _ _ _ h => h) (Or.inl ⟨by rfl,?_⟩) (Or.inr (by assumption)) ?_;rotate_left;focus (intro w hSw;clear hSw;go_simp;all_goals (with_reducible rfl)));(try simp only [Act.put,rp1,rp2,rp3,rp4,rp5,rp6])
   (refine wpAnyT_pure (i := 1) (v := ?_) rfl (by kernel_rfl) (by kernel_rfl) (by kernel_rfl) (by kernel_rfl) (fun _ _ _ h => h) (Or.inl ⟨by rfl,?_⟩) (Or.inr (by assumption)) ?_;rotate_left;focus (intro w hSw;clear hSw;go_simp;all_goals (with_reducible rfl)));(try simp only [Act.put,rp1,rp2,rp3,rp4,rp5,rp6])
   (refine wpAnyT_pure (i := 2) (v := ?_) rfl (by kernel_rfl) (by kernel_rfl) (by kernel_rfl) (by kernel_rfl) (fun _ _ _ h => h) (Or.inl ⟨by rfl,?_⟩) (Or.inr (by assumption)) ?_;rotate_left;focus (intro w hSw;clear hSw;go_simp;all_goals (with_reducible rfl)));(try simp only [Act.put,rp1,rp2,rp3,rp4,rp5,rp6])
   (refine wpAnyT_pure (i := 3) (v := ?_) rfl (by kernel_rfl) (by kernel_rfl) (by kernel_rfl) (by kernel_rfl) (fun _ _ _ h => h) (Or.inl ⟨by rfl,?_⟩) (Or.inr (by assumption)) ?_;rotate_left;focus (intro w hSw;clear hSw;go_simp;all_goals (with_reducible rfl)));(try simp only [Act.put,rp1,rp2,rp3,rp4,rp5,rp6])
   (refine wpAnyT_pure (i := 4) (v := ?_) rfl (by kernel_rfl) (by kernel_rfl) (by kernel_rfl) (by kernel_rfl) (fun _ _ _ h => h) (Or.inl ⟨by rfl,?_⟩) (Or.inr (by assumption)) ?_;rotate_left;focus (intro w hSw;clear hSw;go_simp;all_goals (with_reducible rfl)));(try simp only [Act.put,rp1,rp2,rp3,rp4,rp5,rp6])
   (refine wpAnyT_take (i := 5) (f := 30) rfl (by kernel_rfl) (by kernel_rfl) (by kernel_rfl) (by kernel_rfl) (by kernel_rfl) (fun _ _ _ h => h) ((yieldsIf_load_cells (by rfl) 67 _ rfl ⟨gs,0,none⟩ (by rfl) _ Tryz.underlying67 rfl (byteV k) (by rw [sizeK,byteV_length,HPT.out.k32]) (fun w h => h.1))) (by assumption) ?_);(try simp only [Act.put,rp1,rp2,rp3,rp4,rp5,rp6])
   (refine wpAnyT_pure (i := 7) (v := ?_) rfl (by kernel_rfl) (by kernel_rfl) (by kernel_rfl) (by kernel_rfl) (fun _ _ _ h => h) (Or.inl ⟨by rfl,?_⟩) (Or.inr (by assumption)) ?_;rotate_left;focus (intro w hSw;clear hSw;go_simp;all_goals (with_reducible rfl)));(try simp only [Act.put,rp1,rp2,rp3,rp4,rp5,rp6])
   (refine wpAnyT_pure (i := 8) (v := ?_) rfl (by kernel_rfl) (by kernel_rfl) (by kernel_rfl) (by kernel_rfl) (fun _ _ _ h => h) (Or.inl ⟨by rfl,?_⟩) (Or.inr (by assumption)) ?_;rotate_left;focus (intro w hSw;clear hSw;go_simp;all_goals (with_reducible rfl)));(try simp only [Act.put,rp1,rp2,rp3,rp4,rp5,rp6])
   (refine wpAnyT_pure (i := 9) (v := ?_) rfl (by kernel_rfl) (by kernel_rfl) (by kernel_rfl) (by kernel_rfl) (fun _ _ _ h => h) (Or.inl ⟨by rfl,?_⟩) (Or.inr (by assumption)) ?_;rotate_left;focus (intro w hSw;clear hSw;go_simp;all_goals (with_reducible rfl)));(try simp only [Act.put,rp1,rp2,rp3,rp4,rp5,rp6])
   (refine wpAnyT_pure (i := 10) (v := ?_) rfl (by kernel_rfl) (by kernel_rfl) (by kernel_rfl) (by kernel_rfl) (fun _ _ _ h => h) (Or.inl ⟨by rfl,?_⟩) (Or.inr (by assumption)) ?_;rotate_left;focus (intro w hSw;clear hSw;go_simp;all_goals (with_reducible rfl)));(try simp only [Act.put,rp1,rp2,rp3,rp4,rp5,rp6])
   (refine wpAnyT_take (i := 11) (f := 30) rfl (by kernel_rfl) (by kernel_rfl) (by kernel_rfl) (by kernel_rfl) (by kernel_rfl) (fun _ _ _ h => h) ((yieldsIf_load1 (by rfl) 3 _ rfl _ _ (by rfl) _ Tryz.underlying3 rfl _ (fun w h => h.2))) (by assumption) ?_);(try simp only [Act.put,rp1,rp2,rp3,rp4,rp5,rp6])
   apply share3 (P := fun W gk gi => St O R0 w W (s2.L ++ [errA,blk gp (.cells (byteV p.b).toArray 80 (0,0)),nodeA g i false (.slice none 0 0) (.slice (some ⟨gk,0,none⟩) 1 1) (.slice none 0 0),splitA gs k h2,blk gk (.cells (byteV k).toArray 67 (0,0)),blk gi (.cells [Value.int .i64 (r : Int),.int .i64 (h2 : Int)].toArray 3 (0,0))]))
   ·intro tail
    refine wpAnyT_two (i := 6) (j := 12) (by kernel_rfl) rfl rfl (fun K hK => ?_) (fun K hK => ?_)
    ·(rw [if_pos (by rfl)]);(refine wp_buildslice_st H 147 67 _ _ rfl Tryz.underlying147 32 sizeK _ zeroK (by decide) (by decide) [(0,.agg (byteV k).toArray)] (by simp [Act.eval]) _ (fill_one 32 (byteV k) _ (by simp) HKB.out) ?_;intro W gk H;have hH2 := (show (fun w' => (∀ j u,(byteV k)[j]? = some u → w'.cell? ((⟨gs,0,none⟩ : Addr).add j) = some u) ∧ w'.cell? ⟨gs,32,none⟩ = some (.int .i64 (h2 : Int))) W from split_cells (H.at 10 rfl) HPT.out.k32);refine hK.out _ _ (Or.inr hH2) ?_;clear hK K);(try simp only [Act.put,rp1,rp2,rp3,rp4,rp5,rp6])
     (refine wpAnyT_pure (i := 13) (v := ?_) rfl (by kernel_rfl) (by kernel_rfl) (by kernel_rfl) (by kernel_rfl) (fun _ _ _ h => h) (Or.inl ⟨by rfl,?_⟩) (Or.inr (by assumption)) ?_;rotate_left;focus (intro w hSw;clear hSw;go_simp;all_goals (with_reducible rfl)));(try simp only [Act.put,rp1,rp2,rp3,rp4,rp5,rp6])
     (refine wpAnyT_pure (i := 14) (v := ?_) rfl (by kernel_rfl) (by kernel_rfl) (by kernel_rfl) (by kernel_rfl) (fun _ _ _ h => h) (Or.inl ⟨by rfl,?_⟩) (Or.inr (by assumption)) ?_;rotate_left;focus (intro w hSw;clear hSw;go_simp;all_goals (with_reducible rfl)));(try simp only [Act.put,rp1,rp2,rp3,rp4,rp5,rp6])
     refine wpAnyT_two (i := 12) (j := 15) (by kernel_rfl) rfl rfl (fun K hK => ?_) (fun K hK => ?_)
     ·(rw [if_pos (by rfl)]);(refine wp_buildslice_st H 72 3 _ _ rfl Tryz.underlying72 _ size_int _ zero_i64 (by decide) (by decide) [(0,.int .i64 (r : Int)),(1,.int .i64 (h2 : Int))] (by simp [Act.eval]) _ (fill_int2 _ _) ?_;intro W gi H;have hH3 := (show (fun w' => (∀ j u,(byteV k)[j]? = some u → w'.cell? ((⟨gs,0,none⟩ : Addr).add j) = some u) ∧ w'.cell? ⟨gs,32,none⟩ = some (.int .i64 (h2 : Int))) W from split_cells (H.at 10 rfl) HPT.out.k32);refine hK.out _ _ (Or.inr hH3) ?_;clear hK K);(try simp only [Act.put,rp1,rp2,rp3,rp4,rp5,rp6])
      (refine wpAnyT_one (i := 15) (by kernel_rfl) rfl (fun K hK => ?_));(rw [if_pos (by rfl)]);(refine wp_store1_st H 9 147 _ _ rfl g 3 (.slice (some ⟨gk,0,none⟩) 1 1) (by rfl) (by rfl) rfl _ _ rfl size_slK (by simp [nRow]) ?_;intro W H;refine hK.out _ _ (Or.inl ⟨15,by simp,by kernel_rfl⟩) ?_;clear hK K);(try simp only [Act.put,rp1,rp2,rp3,rp4,rp5,rp6])
      (refine wpAnyT_pure (i := 16) (v := ?_) rfl (by kernel_rfl) (by kernel_rfl) (by kernel_rfl) (by kernel_rfl) (fun _ _ _ h => h) (Or.inl ⟨by rfl,?_⟩) (Or.inl ⟨15,by simp,by kernel_rfl⟩) ?_;rotate_left;focus (intro w hSw;clear hSw;go_simp;all_goals (with_reducible rfl)));(try simp only [Act.put,rp1,rp2,rp3,rp4,rp5,rp6])
      (refine wpAnyT_pure (i := 17) (v := ?_) rfl (by kernel_rfl) (by kernel_rfl) (by kernel_rfl) (by kernel_rfl) (fun _ _ _ h => h) (Or.inl ⟨by rfl,?_⟩) (Or.inl ⟨15,by simp,by kernel_rfl⟩) ?_;rotate_left;focus (intro w hSw;clear hSw;go_simp;all_goals (with_reducible rfl)));(try simp only [Act.put,rp1,rp2,rp3,rp4,rp5,rp6])
      replace H : St O R0 w W (s2.L ++ [errA,blk gp (.cells (byteV p.b).toArray 80 (0,0)),nodeA g i false (.slice none 0 0) (.slice (some ⟨gk,0,none⟩) 1 1) (.slice none 0 0),splitA gs k h2,blk gk (.cells (byteV k).toArray 67 (0,0)),blk gi (.cells [Value.int .i64 (r : Int),.int .i64 (h2 : Int)].toArray 3 (0,0))]) := H;exact tail W gk gi H
     ·(rw [if_pos (by rfl)]);(refine wp_store1_st H 9 147 _ _ rfl g 3 (.slice (some ⟨gk,0,none⟩) 1 1) (by rfl) (by rfl) rfl _ _ rfl size_slK (by simp [nRow]) ?_;intro W H;refine hK.out _ _ (Or.inl ⟨15,by simp,by kernel_rfl⟩) ?_;clear hK K);(try simp only [Act.put,rp1,rp2,rp3,rp4,rp5,rp6])
      (refine wpAnyT_one (i := 12) (by kernel_rfl) rfl (fun K hK => ?_));(rw [if_pos (by rfl)]);(refine wp_buildslice_st H 72 3 _ _ rfl Tryz.underlying72 _ size_int _ zero_i64 (by decide) (by decide) [(0,.int .i64 (r : Int)),(1,.int .i64 (h2 : Int))] (by simp [Act.eval]) _ (fill_int2 _ _) ?_;intro W gi H;refine hK.out _ _ (Or.inl ⟨15,by simp,by kernel_rfl⟩) ?_;clear hK K);(try simp only [Act.put,rp1,rp2,rp3,rp4,rp5,rp6])
      (refine wpAnyT_pure (i := 16) (v := ?_) rfl (by kernel_rfl) (by kernel_rfl) (by kernel_rfl) (by kernel_rfl) (fun _ _ _ h => h) (Or.inl ⟨by rfl,?_⟩) (Or.inl ⟨15,by simp,by kernel_rfl⟩) ?_;rotate_left;focus (intro w hSw;clear hSw;go_simp;all_goals (with_reducible rfl)));(try simp only [Act.put,rp1,rp2,rp3,rp4,rp5,rp6])
      (refine wpAnyT_pure (i := 17) (v := ?_) rfl (by kernel_rfl) (by kernel_rfl) (by kernel_rfl) (by kernel_rfl) (fun _ _ _ h => h) (Or.inl ⟨by rfl,?_⟩) (Or.inl ⟨15,by simp,by kernel_rfl⟩) ?_;rotate_left;focus (intro w hSw;clear hSw;go_simp;all_goals (with_reducible rfl)));(try simp only [Act.put,rp1,rp2,rp3,rp4,rp5,rp6])
      replace H : St O R0 w W (s2.L ++ [errA,blk gp (.cells (byteV p.b).toArray 80 (0,0)),nodeA g i false (.slice none 0 0) (.slice (some ⟨gk,0,none⟩) 1 1) (.slice none 0 0),splitA gs k h2,blk gk (.cells (byteV k).toArray 67 (0,0)),blk gi (.cells [Value.int .i64 (r : Int),.int .i64 (h2 : Int)].toArray 3 (0,0))]) := H;exact tail W gk gi H
    ·(rw [if_pos (by rfl)]);(refine wp_buildslice_st H 72 3 _ _ rfl Tryz.underlying72 _ size_int _ zero_i64 (by decide) (by decide) [(0,.int .i64 (r : Int)),(1,.int .i64 (h2 : Int))] (by simp [Act.eval]) _ (fill_int2 _ _) ?_;intro W gi H;have hH2 := (show (fun w' => (∀ j u,(byteV k)[j]? = some u → w'.cell? ((⟨gs,0,none⟩ : Addr).add j) = some u) ∧ w'.cell? ⟨gs,32,none⟩ = some (.int .i64 (h2 : Int))) W from split_cells (H.at 10 rfl) HPT.out.k32);refine hK.out _ _ (Or.inr hH2) ?_;clear hK K);(try simp only [Act.put,rp1,rp2,rp3,rp4,rp5,rp6])
     (refine wpAnyT_one (i := 6) (by kernel_rfl) rfl (fun K hK => ?_));(rw [if_pos (by rfl)]);(refine wp_buildslice_st H 147 67 _ _ rfl Tryz.underlying147 32 sizeK _ zeroK (by decide) (by decide) [(0,.agg (byteV k).toArray)] (by simp [Act.eval]) _ (fill_one 32 (byteV k) _ (by simp) HKB.out) ?_;intro W gk H;have hH3 := (show (fun w' => (∀ j u,(byteV k)[j]? = some u → w'.cell? ((⟨gs,0,none⟩ : Addr).add j) = some u) ∧ w'.cell? ⟨gs,32,none⟩ = some (.int .i64 (h2 : Int))) W from split_cells (H.at 10 rfl) HPT.out.k32);refine hK.out _ _ (Or.inr hH3) ?_;clear hK K);(try simp only [Act.put,rp1,rp2,rp3,rp4,rp5,rp6])
     (refine wpAnyT_pure (i := 13) (v := ?_) rfl (by kernel_rfl) (by kernel_rfl) (by kernel_rfl) (by kernel_rfl) (fun _ _ _ h => h) (Or.inl ⟨by rfl,?_⟩) (Or.inr (by assumption)) ?_;rotate_left;focus (intro w hSw;clear hSw;go_simp;all_goals (with_reducible rfl)));(try simp only [Act.put,rp1,rp2,rp3,rp4,rp5,rp6])
     (refine wpAnyT_pure (i := 14) (v := ?_) rfl (by kernel_rfl) (by kernel_rfl) (by kernel_rfl) (by kernel_rfl) (fun _ _ _ h => h) (Or.inl ⟨by rfl,?_⟩) (Or.inr (by assumption)) ?_;rotate_left;focus (intro w hSw;clear hSw;go_simp;all_goals (with_reducible rfl)));(try simp only [Act.put,rp1,rp2,rp3,rp4,rp5,rp6])
     (refine wpAnyT_one (i := 15) (by kernel_rfl) rfl (fun K hK => ?_));(rw [if_pos (by rfl)]);(refine wp_store1_st H 9 147 _ _ rfl g 3 (.slice (some ⟨gk,0,none⟩) 1 1) (by rfl) (by rfl) rfl _ _ rfl size_slK (by simp [nRow]) ?_;intro W H;refine hK.out _ _ (Or.inl ⟨15,by simp,by kernel_rfl⟩) ?_;clear hK K);(try simp only [Act.put,rp1,rp2,rp3,rp4,rp5,rp6])
     (refine wpAnyT_pure (i := 16) (v := ?_) rfl (by kernel_rfl) (by kernel_rfl) (by kernel_rfl) (by kernel_rfl) (fun _ _ _ h => h) (Or.inl ⟨by rfl,?_⟩) (Or.inl ⟨15,by simp,by kernel_rfl⟩) ?_;rotate_left;focus (intro w hSw;clear hSw;go_simp;all_goals (with_reducible rfl)));(try simp only [Act.put,rp1,rp2,rp3,rp4,rp5,rp6])
     (refine wpAnyT_pure (i := 17) (v := ?_) rfl (by kernel_rfl) (by kernel_rfl) (by kernel_rfl) (by kernel_rfl) (fun _ _ _ h => h) (Or.inl ⟨by rfl,?_⟩) (Or.inl ⟨15,by simp,by kernel_rfl⟩) ?_;rotate_left;focus (intro w hSw;clear hSw;go_simp;all_goals (with_reducible rfl)));(try simp only [Act.put,rp1,rp2,rp3,rp4,rp5,rp6])
     replace H : St O R0 w W (s2.L ++ [errA,blk gp (.cells (byteV p.b).toArray 80 (0,0)),nodeA g i false (.slice none 0 0) (.slice (some ⟨gk,0,none⟩) 1 1) (.slice none 0 0),splitA gs k h2,blk gk (.cells (byteV k).toArray 67 (0,0)),blk gi (.cells [Value.int .i64 (r : Int),.int .i64 (h2 : Int)].toArray 3 (0,0))]) := H.pull 11 rfl;exact tail W gk gi H
   clear H hHeld
   intro W gk gi H
   (refine wpAnyT_one (i := 18) (by kernel_rfl) rfl (fun K hK => ?_));(rw [if_pos (by rfl)]);(refine wp_store1_st H 9 72 _ _ rfl g 4 (.slice (some ⟨gi,0,none⟩) 2 2) (by rfl) (by rfl) rfl _ _ rfl size_slI (by simp [nRow]) ?_;clear H;intro W H;refine hK.out _ _ (Or.inl ⟨15,by simp,by kernel_rfl⟩) ?_;clear hK K);(try simp only [Act.put,rp1,rp2,rp3,rp4,rp5,rp6])
   (refine wpAnyT_done (by kernel_rfl) ?_ _)
   replace H : St O R0 w W (s2.L ++ [errA,blk gp (.cells (byteV p.b).toArray 80 (0,0)),nodeA g i false (.slice none 0 0) (.slice (some ⟨gk,0,none⟩) [k].length 1) (.slice (some ⟨gi,0,none⟩) ([k].length + 1) 2),blk gk (.cells (byteV k).toArray 67 (0,0)),blk gi (.cells [Value.int .i64 (r : Int),.int .i64 (h2 : Int)].toArray 3 (0,0)),splitA gs k h2]) := H.pull 10 rfl
   replace H := H.take 12
   replace H := H.recast 10 (A' := rdA (some ⟨gk,0,none⟩) (keyV [k])) rfl (fun h => by rw [show keyV [k] = byteV k by simp [keyV]];exact rdB_of_row h) (fun k hk => hk.elim) (fun k ⟨_,ad,e,hk⟩ => by { cases e;exact .inl hk })
   replace H := H.recast 11 (A' := rdA (some ⟨gi,0,none⟩) (intsV [r,h2])) rfl (fun h => rdB_of_row h) (fun k hk => hk.elim) (fun k ⟨_,ad,e,hk⟩ => by { cases e;exact .inl hk })
   have HNO := Lib.hid (show NodeT.Ok ⟨g,i,.inner (some ⟨gk,0,none⟩) 1 [k] (some ⟨gi,0,none⟩) 2 r [h2]⟩ s2.n from ⟨by rw [HS2.out.n];exact HLW.out.2.1,rfl,fun q hq => by rw [List.mem_singleton.1 hq];exact HPT.out.k32,by simp,by have := HRR.out.2;have := HSN.out;omega,fun q hq => by
    rw [List.mem_singleton.1 hq]
    have h5 := HA.out.1
    have h6 := (HA.out.2.1.held HT.out.held).taken c2.h (List.mem_append_right _ h5.2.2.2.1.mem)
    rw [← h5.2.2.2.2.2.1]
    have h7 := h6.2.1
    rw [HA.out.2.1.n] at h7
    have := HSN.out;omega⟩)
   go_upto_region 14 with fail
   replace H := H.drew
   refine wp_region_T (fun w' => w'.cell? ⟨g,0,none⟩ = some (.int .i64 (i : Int))) [] (by kernel_rfl) (row_cell (H.at 9 rfl) (nRow0 _ _ _ _ _)) (fun hHeld => ?_)
   (refine wpAnyT_pure (i := 0) (v := ?_) rfl (by kernel_rfl) (by kernel_rfl) (by kernel_rfl) (by kernel_rfl) (fun _ _ _ h => h) (Or.inl ⟨by rfl,?_⟩) (Or.inr (by assumption)) ?_;rotate_left;focus (intro w hSw;clear hSw;go_simp;all_goals (with_reducible rfl)));(try simp only [Act.put,rp1,rp2,rp3,rp4,rp5,rp6])
   (refine wpAnyT_pure (i := 1) (v := ?_) rfl (by kernel_rfl) (by kernel_rfl) (by kernel_rfl) (by kernel_rfl) (fun _ _ _ h => h) (Or.inl ⟨by rfl,?_⟩) (Or.inr (by assumption)) ?_;rotate_left;focus (intro w hSw;clear hSw;go_simp;all_goals (with_reducible rfl)));(try simp only [Act.put,rp1,rp2,rp3,rp4,rp5,rp6])
   (refine wpAnyT_pure (i := 2) (v := ?_) rfl (by kernel_rfl) (by kernel_rfl) (by kernel_rfl) (by kernel_rfl) (fun _ _ _ h => h) (Or.inl ⟨by rfl,?_⟩) (Or.inr (by assumption)) ?_;rotate_left;focus (intro w hSw;clear hSw;go_simp;all_goals (with_reducible rfl)));(try simp only [Act.put,rp1,rp2,rp3,rp4,rp5,rp6])
   (refine wpAnyT_take (i := 3) (f := 20) rfl (by kernel_rfl) (by kernel_rfl) (by kernel_rfl) (by kernel_rfl) (by kernel_rfl) (fun _ _ _ h => h) ((yieldsIf_load1 (by rfl) 3 _ rfl _ _ (by rfl) _ Tryz.underlying3 rfl _ (fun w h => h))) (by assumption) ?_);(try simp only [Act.put,rp1,rp2,rp3,rp4,rp5,rp6])
   (refine wpAnyT_pure (i := 4) (v := ?_) rfl (by kernel_rfl) (by kernel_rfl) (by kernel_rfl) (by kernel_rfl) (fun _ _ _ h => h) (Or.inl ⟨by rfl,?_⟩) (Or.inr (by assumption)) ?_;rotate_left;focus (intro w hSw;clear hSw;go_simp;all_goals (with_reducible rfl)));(try simp only [Act.put,rp1,rp2,rp3,rp4,rp5,rp6])
   (refine wpAnyT_pure (i := 5) (v := ?_) rfl (by kernel_rfl) (by kernel_rfl) (by kernel_rfl) (by kernel_rfl) (fun _ _ _ h => h) (Or.inl ⟨by rfl,?_⟩) (Or.inr (by assumption)) ?_;rotate_left;focus (intro w hSw;clear hSw;go_simp;all_goals (with_reducible rfl)));(try simp only [Act.put,rp1,rp2,rp3,rp4,rp5,rp6])
   (refine wpAnyT_one (i := 6) (by kernel_rfl) rfl (fun K hK => ?_));(rw [if_pos (by rfl)]);(refine wp_buildslice_st H 227 145 _ _ rfl Tryz.underlying227 _ size_ptrN _ zero_ptrN (by decide) (by decide) [(0,.pointer (some ⟨g,0,none⟩))] (by first | (simp [Act.eval];done) | (simp [Act.eval,Act.put];done)) #[.pointer (some ⟨g,0,none⟩)] (fill_ptr1 _) ?_;clear H;intro W gl H;have hH2 : W.cell? ⟨g,0,none⟩ = some (.int .i64 (i : Int)) := row_cell (H.at 9 rfl) (nRow0 _ _ _ _ _);refine hK.out _ _ (Or.inr hH2) ?_;clear hK K hHeld);(try simp only [Act.put,rp1,rp2,rp3,rp4,rp5,rp6])
   replace H := H.recast 12 (A' := rdA (some ⟨gl,0,none⟩) (ptrV [⟨g,i,.inner (some ⟨gk,0,none⟩) 1 [k] (some ⟨gi,0,none⟩) 2 r [h2]⟩])) rfl (fun h => rdB_of_row h) (fun k hk => hk.elim) (fun k ⟨_,ad,e,hk⟩ => by { cases e;exact .inl hk })
   replace H : St O R0 w W ((s2.L ++ [errA,blk gp (.cells (byteV p.b).toArray 80 (0,0)),rdA (some ⟨gl,0,none⟩) (ptrV [⟨g,i,.inner (some ⟨gk,0,none⟩) 1 [k] (some ⟨gi,0,none⟩) 2 r [h2]⟩])]) ++ NodeT.Ls ⟨g,i,.inner (some ⟨gk,0,none⟩) 1 [k] (some ⟨gi,0,none⟩) 2 r [h2]⟩) := (((H.pull 9 rfl).pull 9 rfl).pull 9 rfl)
   replace H := H.rebun
   replace H : St O R0 w W ((s2.L ++ (rdA (some ⟨gl,0,none⟩) (ptrV [⟨g,i,.inner (some ⟨gk,0,none⟩) 1 [k] (some ⟨gi,0,none⟩) 2 r [h2]⟩]) :: [(⟨g,i,.inner (some ⟨gk,0,none⟩) 1 [k] (some ⟨gi,0,none⟩) 2 r [h2]⟩ : NodeT)].map NodeT.A)) ++ [errA,blk gp (.cells (byteV p.b).toArray 80 (0,0))]) := (H.pull 7 rfl).pull 7 rfl
   (refine wpAnyT_one (i := 7) (by kernel_rfl) rfl (fun K hK => ?_));(rw [if_pos (by rfl)]);(go_simp;go_at_call 115;(refine (saves_calls (s := s2) (n := 1) (Ns := [⟨g,i,.inner (some ⟨gk,0,none⟩) 1 [k] (some ⟨gi,0,none⟩) 2 r [h2]⟩]) H.left.bundle HS2.out.ok rfl (by omega) (fun N hN => by { rw [List.mem_singleton.1 hN];exact HNO.out })).mono ?_);rintro e W ⟨rfl,s',hs',hto⟩;have HS' := Lib.hid (show s2.To s' c (updV s2.V i (NodeT.enc ⟨g,i,.inner (some ⟨gk,0,none⟩) 1 [k] (some ⟨gi,0,none⟩) 2 r [h2]⟩)) from hs');clear hs';replace H := hto.front H;clear hto;(try go_wp2_with fail);have hH3 : W.cell? ⟨g,0,none⟩ = some (.int .i64 (i : Int)) := row_cell ((H.at 8 rfl : Bundle W (NodeT.Ls ⟨g,i,.inner (some ⟨gk,0,none⟩) 1 [k] (some ⟨gi,0,none⟩) 2 r [h2]⟩)).all 0 _ rfl) (nRow0 _ _ _ _ _);refine hK.out _ _ (Or.inr hH3) ?_;clear hK K hH2);(try simp only [Act.put,rp1,rp2,rp3,rp4,rp5,rp6])
   (refine wpAnyT_pure (i := 8) (v := ?_) rfl (by kernel_rfl) (by kernel_rfl) (by kernel_rfl) (by kernel_rfl) (fun _ _ _ h => h) (Or.inl ⟨by rfl,?_⟩) (Or.inr (by assumption)) ?_;rotate_left;focus (intro w hSw;clear hSw;go_simp;all_goals (with_reducible rfl)));(try simp only [Act.put,rp1,rp2,rp3,rp4,rp5,rp6])
   (refine wpAnyT_pure (i := 9) (v := ?_) rfl (by kernel_rfl) (by kernel_rfl) (by kernel_rfl) (by kernel_rfl) (fun _ _ _ h => h) (Or.inl ⟨by rfl,?_⟩) (Or.inr (by assumption)) ?_;rotate_left;focus (intro w hSw;clear hSw;go_simp;all_goals (with_reducible rfl)));(try simp only [Act.put,rp1,rp2,rp3,rp4,rp5,rp6])
   (refine wpAnyT_done (by kernel_rfl) ?_ _)
   replace H : St O R0 w W (s'.L ++ [errA]) := ((H.pull 7 rfl).pull 7 rfl).take 8
   go_wp2
   rw [← HPP.out]
   obtain ⟨hr,hm⟩ := root_split (ris_ins HT.out.ris p) HT.out.held HA.out.1 HA.out.2.1 HLW.out.1 HLW.out.2.1 HLW.out.2.2.1 HS2.out HS'.out
   exact .inl ⟨i,_,s',_,rfl,hr,by have := HLW.out.1;omega,hm,by have := HA.out.2.2.1;have := HD.out;simp;omega,H.bunTo⟩
 ·obtain ⟨rfl,rfl⟩ := ret2_inj he
  have HA := Lib.hid (And.intro hge (And.intro hlo (And.intro hok (And.intro ht1 (And.intro hg1 hgl1)))))
  clear hge hlo hok ht1 hg1 hgl1 he HPO
  replace H := BunTo.front (R := [blk gp (.cells (byteV p.b).toArray 80 (0,0))]) hto H
  clear hto
  unfold faultVR
  go_wp2_with (first
   | (go_at_call 117;go_loud ((refine (below_faultR ge 9 inner _ (H.at 7 rfl) HA.out.1).mono ?_);rintro e W' ⟨ge2,rfl,hge2,hgo2,hbl⟩;have HGO := Lib.hid hgo2;replace H := H.stay (Fix.of_below hbl _);clear hbl hgo2;unfold faultVR)))
  rw [← HPP.out]
  exact .inr ⟨ge2,_,_,s1,rfl,HGO.out,by have := HA.out.2.1;have := HD.out;omega,HA.out.2.2.1,HA.out.2.2.2.1,HA.out.2.2.2.2.1,HA.out.2.2.2.2.2,St.bunTo (H.take 8)⟩
end Go.Proofs.YtlgciddnpinpbaaGreatDoor
