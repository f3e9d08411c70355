/- Texts of this proof, packed. -/
import Derived.Test.YtlgciddnpinpbaaGreatDoorPkBase4
import Derived.Test.YtlgciddnpinpbaaGreatDoorPqA
import Derived.Test.YtlgciddnpinpbaaGreatDoorPqR
import Derived.Test.YtlgciddnpinpbaaGreatDoorPqB
import Derived.Test.YtlgciddnpinpbaaGreatDoorPqC
import Derived.Test.YtlgciddnpinpbaaGreatDoorPqE
import Derived.Test.YtlgciddnpinpbaaGreatDoorPqD
import Derived.Test.YtlgciddnpinpbaaGreatDoorPqG
import Derived.Test.YtlgciddnpinpbaaGreatDoorPqI
import Derived.Test.YtlgciddnpinpbaaGreatDoorPqL
import Derived.Test.YtlgciddnpinpbaaGreatDoorPqM
import Derived.Test.YtlgciddnpinpbaaGreatDoorPqN
set_option linter.unusedSimpArgs false
set_option linter.unusedVariables false
namespace Go.Proofs.YtlgciddnpinpbaaGreatDoor
open Go.RowKit
theorem Moves.split {s s' : TX} {c h i : Nat} {l1 l2 : List UInt8} (hc : s.Ok c) (hh : Held s [h]) (h2 : 2 ≤ i) (hi : i < s.n) (hf : hasB (s.v 1) i = false) (k : s.To s' c (updV (updV (updV s.V 1 (turnB (s.v 1) i)) h l1) i l2)) :
  Moves s s' c [h] [h,i] [1,h,i] ∧ s'.v h = l1 ∧ s'.v i = l2 := by
 have hn := hc.nn
 have hl := hc.lens 1 (by omega)
 have ht := hh.taken h (List.mem_singleton_self h)
 have hne : h ≠ i := fun e => by subst e;rw [hf] at ht;exact absurd ht.2.2 (by simp)
 have hV : ∀ j,j < s.n → s'.V j = if j = i then (l2,true) else if j = h then (l1,true) else if j = 1 then (turnB (s.v 1) i,true) else s.V j := fun j hj => k.V j hj
 have h1 : s'.v 1 = turnB (s.v 1) i := by
  show (s'.V 1).1 = _
  rw [hV 1 (by omega),if_neg (by omega),if_neg (by omega),if_pos rfl]
 refine ⟨⟨k.ok,k.t,k.g,k.gl,fun j hj h3 h4 h5 => ?_,fun j h3 hj => ?_,fun j hj => ?_,?_,?_,fun j hj h3 => ?_⟩,?_,?_⟩
 ·simp only [List.mem_cons,List.not_mem_nil,or_false,not_or] at h5
  rw [hV j hj,if_neg h5.2,if_neg h5.1,if_neg h3]
 ·rw [h1,hasB_turn hl (by omega) h3]
  simp only [List.mem_cons,List.not_mem_nil,or_false]
  by_cases e1 : j = i
  ·subst e1;simp [hf]
  ·rw [if_neg e1]
   by_cases e2 : j = h
   ·subst e2;simp [ht.2.2]
   ·simp [e1,e2]
 ·simp only [List.mem_cons,List.not_mem_nil,or_false] at hj
  rcases hj with rfl | rfl
  ·exact .inl (List.mem_singleton_self _)
  ·exact .inr ⟨h2,hi,hf⟩
 ·simp [hne]
 ·rw [h1];have := (leftOf_turn hl hn.2 h2 hi).1 hf;simp only [List.length_cons,List.length_nil];omega
 ·rw [hV j hj] at h3
  by_cases e1 : j = i
  ·exact .inr (by simp [e1])
  ·rw [if_neg e1] at h3
   by_cases e2 : j = h
   ·exact .inr (by simp [e2])
   ·rw [if_neg e2] at h3
    by_cases e3 : j = 1
    ·exact .inr (by simp [e3])
    ·rw [if_neg e3] at h3;exact .inl h3
 ·show (s'.V h).1 = _
  rw [hV h ht.2.1,if_neg hne,if_pos rfl]
 ·show (s'.V i).1 = _
  rw [hV i hi,if_pos rfl]
def PutPost (s : TX) (c d sz h : Nat) (hs : List Nat) (ps' : List PairT) (w : World) (own rd : Nat → Prop) (e : Ending) (w' : World) : Prop :=
 (∃ (c' : Sub) (s' : TX) (ws : List Nat),e = .returned (.tuple #[.pointer none,.nilIface]) ∧ PutTo s'.v d sz h ps' none [c'] ∧ Moves s s' c hs c'.hs ws ∧ ws.length ≤ 3 * (d + 1) ∧ c'.hs.length ≤ hs.length + d ∧ BunTo w own rd (s'.L ++ [errA]) w') ∨
 (∃ (c1 c2 : Sub) (k : List UInt8) (h2 gs : Nat) (s' : TX) (ws : List Nat),e = .returned (.tuple #[.pointer (some ⟨gs,0,none⟩),.nilIface]) ∧ PutTo s'.v d sz h ps' (some (k,h2)) [c1,c2] ∧ Moves s s' c hs (c1.hs ++ c2.hs) ws ∧ ws.length ≤ 3 * (d + 1) ∧ (c1.hs ++ c2.hs).length ≤ hs.length + d + 1 ∧ BunTo w own rd (s'.L ++ [errA,splitA gs k h2]) w') ∨
 (∃ (ge : Nat) (inner : Value) (s' : TX),e = .returned (.tuple #[.pointer none,faultVR ge]) ∧ w'.heap[ge]? = some (faultOR 9 inner) ∧ leftOf (s.v 1) s.n ≤ d ∧ s'.Ok c ∧ s'.t = s.t ∧ s'.g = s.g ∧ s'.x.gl = s.x.gl ∧ BunTo w own rd (s'.L ++ [errA]) w')
theorem putPost_leaf1 {s s' : TX} {c sz h : Nat} {hs : List Nat} {ps a b : List PairT} {p : PairT} {is : Bool} {w w' : World} {own rd : Nat → Prop} {e : Ending} (hc : s.Ok c) (T : Tree s 0 sz h hs ps) (hf : Found ps a b p.n is) (hp : PairOk p) (h6 : (putL a b p is).length ≤ 6)
  (k : s.To s' c (updV s.V h (encLeaf (putL a b p is)))) (he : e = .returned (.tuple #[.pointer none,.nilIface])) (hto : BunTo w own rd (s'.L ++ [errA]) w') : PutPost s c 0 sz h hs (ins p ps) w own rd e w' := by
 obtain ⟨rfl,_⟩ := T.lies
 obtain ⟨hm,hv⟩ := Moves.write T.held (List.mem_singleton_self h) k
 exact .inl ⟨_,s',[h],he,put_leaf T.lies hf hp h6 hv,hm,by simp,Nat.le_refl _,hto⟩
theorem putPost_leaf2 {s s' : TX} {c sz h i gs : Nat} {hs : List Nat} {ps x y : List PairT} {p q : PairT} {w w' : World} {own rd : Nat → Prop} {e : Ending} (hc : s.Ok c) (T : Tree s 0 sz h hs ps) (hp : PairOk p) (hi : ins p ps = x ++ q :: y) (hx : x.length = 4) (hy : y.length = 2)
  (h2 : 2 ≤ i) (hin : i < s.n) (hf : hasB (s.v 1) i = false) (k : s.To s' c (updV (updV (updV s.V 1 (turnB (s.v 1) i)) h (encLeaf x)) i (encLeaf (q :: y)))) (he : e = .returned (.tuple #[.pointer (some ⟨gs,0,none⟩),.nilIface])) (hto : BunTo w own rd (s'.L ++ [errA,splitA gs q.k i]) w') :
  PutPost s c 0 sz h hs (ins p ps) w own rd e w' := by
 obtain ⟨rfl,_⟩ := T.lies
 obtain ⟨hm,hv1,hv2⟩ := Moves.split hc T.held h2 hin hf k
 exact .inr (.inl ⟨_,_,q.k,i,gs,s',[1,h,i],he,put_leaf2 T.lies T.ris hp hi hx hy hv1 hv2,hm,by simp,by simp,hto⟩)
theorem putPost_full {s s' : TX} {c d sz h ge : Nat} {inner : Value} {hs : List Nat} {ps' : List PairT} {w w' : World} {own rd : Nat → Prop} {e : Ending} (he : e = .returned (.tuple #[.pointer none,faultVR ge])) (hg : w'.heap[ge]? = some (faultOR 9 inner)) (hl : leftOf (s.v 1) s.n ≤ d) (hc : s'.Ok c) (h1 : s'.t = s.t) (h2 : s'.g = s.g) (h3 : s'.x.gl = s.x.gl)
  (hto : BunTo w own rd (s'.L ++ [errA]) w') : PutPost s c d sz h hs ps' w own rd e w' := .inr (.inr ⟨ge,inner,s',he,hg,hl,hc,h1,h2,h3,hto⟩)
theorem homesOf_perm (a b : List Sub) (c : Sub) (h : Nat) : (h :: homesOf (a ++ c :: b)).Perm ((h :: homesOf a ++ homesOf b) ++ c.hs) := by
 rw [homesOf_mid]
 simp only [List.cons_append,List.append_assoc]
 exact List.Perm.cons h (List.Perm.append_left _ List.perm_append_comm)
theorem homesOf_perm2 (a b : List Sub) (c1 c2 : Sub) (h : Nat) : (h :: homesOf (a ++ c1 :: c2 :: b)).Perm ((h :: homesOf a ++ homesOf b) ++ (c1.hs ++ c2.hs)) := by
 have e : homesOf (a ++ c1 :: c2 :: b) = homesOf a ++ ((c1.hs ++ c2.hs) ++ homesOf b) := by simp [homesOf]
 rw [e]
 simp only [List.cons_append,List.append_assoc]
 refine List.Perm.cons h (List.Perm.append_left _ ?_)
 rw [← List.append_assoc]
 exact List.perm_append_comm
theorem child_moves {s s' : TX} {c h : Nat} {a b : List Sub} {ch : Sub} {hs' ws : List Nat} (hh : Held s (h :: homesOf (a ++ ch :: b))) (m : Moves s s' c ch.hs hs' ws) :
  Moves s s' c (h :: homesOf (a ++ ch :: b)) ((h :: homesOf a ++ homesOf b) ++ hs') ws ∧ (∀ x ∈ homesOf a,s'.v x = s.v x) ∧ (∀ x ∈ homesOf b,s'.v x = s.v x) ∧ s'.v h = s.v h := by
 have hp := homesOf_perm a b ch h
 have hh2 := hh.perm hp
 have hap := hh2.apart
 have hv : ∀ x ∈ h :: homesOf a ++ homesOf b,s'.v x = s.v x := fun x hx => by
  have ht := hh2.left.taken x hx
  refine m.v ht.2.1 (by omega) (hap x hx) fun h3 => ?_
  rcases m.fresh x h3 with h4 | h4
  ·exact hap x hx h4
  ·rw [ht.2.2] at h4;exact absurd h4.2.2 (by simp)
 exact ⟨(m.beside hh2).perm hp.symm (List.Perm.refl _) fun _ h => h,fun x hx => hv x (by simp [hx]),fun x hx => hv x (by simp [hx]),hv h (by simp)⟩
theorem tree_child {s : TX} {d sz h : Nat} {hs : List Nat} {ps : List PairT} (T : Tree s (d + 1) sz h hs ps) {ks1 ks2 : List (List UInt8)} {a b : List Sub} {ch : Sub} (hi : Inner s.v d (ks1 ++ ks2) (a ++ ch :: b)) (hhs : hs = h :: homesOf (a ++ ch :: b)) (hps : ps = pairsOf (a ++ ch :: b)) : Tree s d ch.s ch.h ch.hs ch.ps := by
 subst hhs hps
 refine ⟨(hi.kids ch (by simp)).2,(T.held.perm (homesOf_perm a b ch h)).right,?_⟩
 have := T.ris
 unfold Ris at this
 rw [pairsOf_mid] at this
 exact (List.pairwise_append.1 (List.pairwise_append.1 this).2.1).1
end Go.Proofs.YtlgciddnpinpbaaGreatDoor
namespace Go.Proofs.YtlgciddnpinpbaaGreatDoor
open Go.RowKit
set_option maxRecDepth 40000
theorem set_row {cs A v M : List Value} {k i n : Nat} (hA : A.length = i * k) (hv : v.length = k) (h : cs.take (n * k) = A ++ (v ++ M)) {u : List Value} (hu : u.length = k) (hin : i < n) : (cs.take (i * k) ++ u ++ cs.drop (i * k + u.length)).take (n * k) = A ++ (u ++ M) := by
 have hle : i * k + k ≤ n * k := by rw [← Nat.succ_mul];exact Nat.mul_le_mul_right _ hin
 have hl := congrArg List.length h
 simp only [List.length_take,List.length_append,hA,hv] at hl
 have e1 : cs.take (i * k) = A := by
  have : (cs.take (n * k)).take (i * k) = A := by rw [h,List.take_append_of_le_length (by omega),List.take_of_length_le (by omega)]
  rw [List.take_take,Nat.min_eq_left (by omega)] at this;exact this
 have e2 : (cs.drop (i * k + k)).take (n * k - (i * k + k)) = M := by
  rw [← List.drop_take,h,← List.append_assoc,List.drop_append_of_le_length (by simp [hA,hv]),List.drop_of_length_le (by simp [hA,hv]),List.nil_append]
 rw [e1,hu,List.append_assoc,List.take_append,List.take_of_length_le (by omega),List.take_append,List.take_of_length_le (by omega),hA,hu]
 congr 2
 rw [show n * k - i * k - k = n * k - (i * k + k) by omega]
 exact e2
theorem split_at {α : Type} {l : List α} {i : Nat} {x : α} (h : l[i]? = some x) : l = l.take i ++ x :: l.drop (i + 1) := by
 obtain ⟨h1,h2⟩ := List.getElem?_eq_some_iff.1 h
 rw [← h2,← List.drop_eq_getElem_cons h1,List.take_append_drop]
theorem pairV_take {ps : List PairT} (hp : ∀ p ∈ ps,PairOk p) (i : Nat) (hi : i ≤ ps.length) : (pairV ps).take (i * 40) = pairV (ps.take i) ∧ (pairV ps).drop (i * 40) = pairV (ps.drop i) := by
 have h1 : (pairV (ps.take i)).length = i * 40 := by rw [pairV_len (fun p h => hp p (List.mem_of_mem_take h)),List.length_take,Nat.min_eq_left hi]
 have e : pairV ps = pairV (ps.take i) ++ pairV (ps.drop i) := by rw [← pairV_append,List.take_append_drop]
 rw [e,← h1]
 exact ⟨List.take_left,List.drop_left⟩
theorem keyV_take {ks : List (List UInt8)} (hp : ∀ p ∈ ks,p.length = 32) (i : Nat) (hi : i ≤ ks.length) : (keyV ks).take (i * 32) = keyV (ks.take i) ∧ (keyV ks).drop (i * 32) = keyV (ks.drop i) := by
 have h1 : (keyV (ks.take i)).length = i * 32 := by rw [keyV_len (fun p h => hp p (List.mem_of_mem_take h)),List.length_take,Nat.min_eq_left hi]
 have e : keyV ks = keyV (ks.take i) ++ keyV (ks.drop i) := by rw [← keyV_append,List.take_append_drop]
 rw [e,← h1]
 exact ⟨List.take_left,List.drop_left⟩
theorem intsV_take (hs : List Nat) (i : Nat) : (intsV hs).take i = intsV (hs.take i) ∧ (intsV hs).drop i = intsV (hs.drop i) := ⟨by simp [intsV],by simp [intsV]⟩
set_option maxHeartbeats 16000000 in
theorem put_leafW {w : World} {s : TX} {c sz h deep : Nat} {hs : List Nat} {ps : List PairT} {p : PairT} (hb : Bundle w (s.L ++ [errA])) (h0 : s.Ok c) (T : Tree s 0 sz h hs ps) (h1 : 1 ≤ sz) (hp : PairOk p) (hd : deep ≤ 40) (z1 z2 : Int) (hz1 : (h : Int) = z1) (hz2 : (deep : Int) = z2) :
  Calls Tryz.prog 116 #[.pointer (some ⟨s.g,0,none⟩),.int .i64 z1,.agg (byteV p.b).toArray,.int .i64 z2] w (PutPost s c 0 sz h hs (ins p ps) w (ownL (s.L ++ [errA])) (rdL (s.L ++ [errA]))) := by
 subst hz1 hz2
 have H := hb.open_
 obtain ⟨O,hO⟩ : ∃ O,ownL (s.L ++ [errA]) = O := ⟨_,rfl⟩
 obtain ⟨R0,hR0⟩ : ∃ R,rdL (s.L ++ [errA]) = R := ⟨_,rfl⟩
 rw [hO,hR0] at H ⊢
 have HO := Lib.hid h0
 have HT := Lib.hid T
 obtain ⟨hhs,hv,hsz,h6,hpok⟩ := T.lies
 obtain ⟨n,hn⟩ : ∃ n,ps.length = n := ⟨_,rfl⟩
 have HN := Lib.hid hn
 have HV := Lib.hid hv
 have HPK := Lib.hid hpok
 have HP := Lib.hid hp
 have H1 := Lib.hid (show 1 ≤ n by omega)
 have H6 := Lib.hid (show n ≤ 6 by omega)
 have HH := Lib.hid (T.held.taken h (by rw [hhs];exact List.mem_singleton_self _))
 have HPB := Lib.hid (show (byteV p.b).length = 40 by rw [byteV_length];exact hp.len)
 have hd2 : ¬ (40 < (deep : Int)) := by omega
 have hd3 : 0 ≤ (deep : Int) := by omega
 have hn0 : 0 ≤ (n : Int) := by omega
 have hn6 : (n : Int) ≤ 6 := by omega
 obtain ⟨PP,hPP⟩ : ∃ PP,PutPost s c 0 sz h hs (ins p ps) w O R0 = PP := ⟨_,rfl⟩
 have HPP := Lib.hid hPP
 rw [hPP]
 clear hb h0 T hhs hv hsz h6 hpok hn hp h1 hd hO hR0 hPP
 go_enter Tryz.func116,Tryz.ntmps116
 go_upto_region 6 with (first
  | (refine wpList_box_st H rfl 80 _ rfl (.agg (byteV p.b).toArray) rfl ?_;clear H;intro W gp H;replace H : St O R0 w W (s.L ++ [errA,blk gp (.cells (byteV p.b).toArray 80 (0,0))]) := H)
  | (go_at_call 124;go_loud ((refine (load_leaf (s := s) (H.take 7).bundle HO.out _ h rfl HH.out.2.1 ps HV.out (by rw [HN.out];exact H1.out) (by rw [HN.out];exact H6.out) HPK.out).mono ?_);rintro e W ⟨g,pp,cp,rfl,hto⟩;replace H := BunTo.front2 (R := [errA,blk gp (.cells (byteV p.b).toArray 80 (0,0))]) hto H;clear hto;rw [HN.out] at H)))
 replace H : St O R0 w W (s.L ++ [errA,blk gp (.cells (byteV p.b).toArray 80 (0,0)),nodeA g h true (.slice pp n cp) (.slice none 0 0) (.slice none 0 0),ownS 80 40 pp n cp (pairV ps)]) := H
 have hf := row_cell (H.at 9 rfl) (nRow1 _ _ _ _ _)
 go_upto_region 8 with (first
  | (refine wpList_load_cells rfl 67 _ rfl ⟨gp,0,none⟩ rfl _ Tryz.underlying67 rfl (byteV p.k) (by rw [sizeK,byteV_length,HP.out.k]) (pair_cells (H.at 8 rfl) HP.out).1 ?_)
  | (go_at_call 150;go_loud ((refine (find_calls (H.at 9 rfl) (ownS_rd (H.at 10 rfl)) HN.out HPK.out HP.out.k HT.out.ris (by have := H6.out;omega)).mono ?_);rintro e W' ⟨i,is,rfl,hi,hF,hb⟩;replace H := H.stay (Fix.of_below hb _);clear hb hf)))
 have hi0 : 0 ≤ (i : Int) := by omega
 have hi7 : (i : Int) ≤ 6 := by have := H6.out;omega
 have HI := Lib.hid hi
 have HF := Lib.hid hF
 clear hi hF
 cases is with
 | true =>
  obtain ⟨q,hq⟩ : ∃ q,ps[i]? = some q := by
   obtain ⟨q,r,e,_⟩ := HF.out.eq rfl
   have h2 : (ps.drop i)[0]? = some q := by rw [e];rfl
   rw [List.getElem?_drop,Nat.add_zero] at h2
   exact ⟨q,h2⟩
  have HQ := Lib.hid hq
  have hin : i < n := by rw [← HN.out];exact (List.getElem?_eq_some_iff.1 hq).1
  have HIN := Lib.hid hin
  have hin2 : (i : Int) < (n : Int) := by omega
  obtain ⟨gq,cs,hpq,hnc,hcm,hcl,hxs,HB⟩ := H.ownBlk 10 rfl H1.out
  subst hpq
  clear H
  have H := HB
  clear HB
  have HCL := Lib.hid hcl
  have HCM := Lib.hid hcm
  have HNC := Lib.hid hnc
  have HXS := Lib.hid hxs
  clear hq hin hnc hcm hcl hxs
  go_upto_region 9 with fail
  replace H := H.drew
  refine wp_region_T (fun w' => w'.cell? ⟨g,2,none⟩ = some (.slice (some ⟨gq,0,none⟩) n cp) ∧ w'.heap[gp]? = some (.cells (byteV p.b).toArray 80 (0,0))) [7] (by kernel_rfl) ⟨row_cell (H.at 9 rfl) (nRow2 _ _ _ _ _),H.at 8 rfl⟩ (fun hHeld => ?_)
  (refine wpAnyT_take (i := 0) (f := 20) (v := ?_) rfl (by kernel_rfl) (by kernel_rfl) (by kernel_rfl) (by kernel_rfl) (by kernel_rfl) (fun _ _ _ h => h) (Or.inl ⟨by rfl,?_⟩) (by assumption) ?_;rotate_left;focus (intro w hSw;(try dsimp only at hSw);go_simp;all_goals (with_reducible rfl)));(try simp only [Act.put,rp1,rp2,rp3,rp4,rp5,rp6])
  (refine wpAnyT_take (i := 1) (f := 20) (v := ?_) rfl (by kernel_rfl) (by kernel_rfl) (by kernel_rfl) (by kernel_rfl) (by kernel_rfl) (fun _ _ _ h => h) (Or.inl ⟨by rfl,?_⟩) (by assumption) ?_;rotate_left;focus (intro w hSw;(try dsimp only at hSw);go_simp;all_goals (with_reducible rfl)));(try simp only [Act.put,rp1,rp2,rp3,rp4,rp5,rp6])
  (refine wpAnyT_take (i := 2) (f := 20) (v := ?_) rfl (by kernel_rfl) (by kernel_rfl) (by kernel_rfl) (by kernel_rfl) (by kernel_rfl) (fun _ _ _ h => h) (Or.inl ⟨by rfl,?_⟩) (by assumption) ?_;rotate_left;focus (intro w hSw;(try dsimp only at hSw);go_simp;all_goals (with_reducible rfl)));(try simp only [Act.put,rp1,rp2,rp3,rp4,rp5,rp6])
  (refine wpAnyT_take (i := 3) (f := 20) rfl (by kernel_rfl) (by kernel_rfl) (by kernel_rfl) (by kernel_rfl) (by kernel_rfl) (fun _ _ _ h => h) ((yieldsIf_load1 (by rfl) 76 _ rfl _ _ (by rfl) _ Tryz.underlying76 rfl _ (fun w h => h.1))) (by assumption) ?_);(try simp only [Act.put,rp1,rp2,rp3,rp4,rp5,rp6])
  (refine wpAnyT_take (i := 4) (f := 20) (v := ?_) rfl (by kernel_rfl) (by kernel_rfl) (by kernel_rfl) (by kernel_rfl) (by kernel_rfl) (fun _ _ _ h => h) (Or.inl ⟨by rfl,?_⟩) (by assumption) ?_;rotate_left;focus (intro w hSw;(try dsimp only at hSw);go_simp;all_goals (with_reducible rfl)));(try simp only [Act.put,rp1,rp2,rp3,rp4,rp5,rp6])
  (refine wpAnyT_take (i := 5) (f := 20) rfl (by kernel_rfl) (by kernel_rfl) (by kernel_rfl) (by kernel_rfl) (by kernel_rfl) (fun _ _ _ h => h) ((yieldsIf_loadrow (by rfl) 80 _ rfl _ (by rfl) _ _ _ _ Tryz.underlying80 rfl (size_pair _ HPB.out) (fun w h => h.2))) (by assumption) ?_);(try simp only [Act.put,rp1,rp2,rp3,rp4,rp5,rp6])
  (refine wpAnyT_take (i := 6) (f := 20) (v := ?_) rfl (by kernel_rfl) (by kernel_rfl) (by kernel_rfl) (by kernel_rfl) (by kernel_rfl) (fun _ _ _ h => h) (Or.inl ⟨by rfl,?_⟩) (by assumption) ?_;rotate_left;focus (intro w hSw;(try dsimp only at hSw);go_simp;all_goals (with_reducible rfl)));(try simp only [Act.put,rp1,rp2,rp3,rp4,rp5,rp6])
  (refine wpAnyT_one (i := 7) (by kernel_rfl) rfl (fun K hK => ?_));(rw [if_pos (by rfl)]);(refine wp_storemid_st H 10 80 _ _ rfl gq (i * 40) (byteV p.b) (by rfl) (by rfl) _ _ rfl (by rw [sizeP,HPB.out]) (by rw [HPB.out,HCL.out];have := HIN.out;have := HNC.out;omega) (byteV_one _) ?_;clear H;intro W H;refine hK.out _ _ (Or.inl ⟨7,by simp,by kernel_rfl⟩) ?_;clear hK K hHeld);(try simp only [Act.put,rp1,rp2,rp3,rp4,rp5,rp6])
  (refine wpAnyT_done (by kernel_rfl) ?_ _)
  replace H := H.blkOwn 10 40 n cp rfl HNC.out HCM.out (by
   simp only [List.length_append,List.length_take,List.length_drop,HCL.out,HPB.out]
   have := HIN.out;have := HNC.out;omega)
  have hcells : (cs.take (i * 40) ++ byteV p.b ++ cs.drop (i * 40 + (byteV p.b).length)).take (n * 40) = pairV (putL (ps.take i) (ps.drop i) p true) := by
   have hl : (pairV (ps.take i)).length = i * 40 := by rw [pairV_len (fun p h => HPK.out p (List.mem_of_mem_take h)),List.length_take,Nat.min_eq_left (by rw [HN.out];exact HI.out)]
   have e0 := split_at HQ.out
   have e1 : cs.take (n * 40) = pairV (ps.take i) ++ (byteV q.b ++ pairV (ps.drop (i + 1))) := by
    rw [HXS.out];conv => lhs;rw [e0]
    simp [pairV]
   rw [set_row hl (by rw [byteV_length];exact (HPK.out q (List.mem_of_getElem? HQ.out)).len) e1 HPB.out HIN.out]
   have e2 : (ps.drop i).tail = ps.drop (i + 1) := by rw [List.tail_drop]
   simp only [putL,if_true,e2]
   simp [pairV]
  rw [hcells] at H
  clear hcells
  obtain ⟨l,hl⟩ : ∃ l,putL (ps.take i) (ps.drop i) p true = l := ⟨_,rfl⟩
  have HLE := Lib.hid (show l.length = n by
   have h2 : i < ps.length := by rw [HN.out];exact HIN.out
   rw [← hl];simp only [putL,if_true,List.length_append,List.length_cons,List.length_take,List.length_tail,List.length_drop,HN.out];have := HIN.out;omega)
  have HLP := Lib.hid (show ∀ q ∈ l,PairOk q by
   intro q hq
   have : q ∈ ins p ps := by rw [← HF.out.ins,hl];exact hq
   rcases mem_ins this with rfl | h2
   ·exact HP.out
   ·exact HPK.out q h2)
  rw [hl] at H
  have HL := Lib.hid hl
  clear hl
  replace H : St O R0 w W (s.L ++ [errA,nodeA g h true (.slice (some ⟨gq,0,none⟩) n cp) (.slice none 0 0) (.slice none 0 0),ownS 80 40 (some ⟨gq,0,none⟩) n cp (pairV l),blk gp (.cells (byteV p.b).toArray 80 (0,0))]) := H.pull 8 rfl
  replace H := H.take 10
  go_wp2_with (first
   | (go_at_call 152;go_loud ((refine (halves_leaf1 (s := s) H.bundle HO.out HH.out.2.1 HLE.out H6.out HLP.out).mono ?_);rintro e W ⟨rfl,s',hs',hto⟩;have HS' := Lib.hid hs';clear hs';replace H := BunTo.front (R := []) hto (by rw [List.append_nil];exact H);rw [List.append_nil] at H;clear hto)))
  rw [← HPP.out]
  exact putPost_leaf1 HO.out HT.out HF.out HP.out (by rw [HL.out,HLE.out];exact H6.out) (by rw [HL.out];exact HS'.out) rfl H.bunTo
 | false =>
  go_upto_region 10 with fail
  replace H := H.drew
  refine wp_region_T (fun w' => w'.cell? ⟨g,2,none⟩ = some (.slice pp n cp) ∧ w'.heap[gp]? = some (.cells (byteV p.b).toArray 80 (0,0))) [8] (by kernel_rfl) ⟨row_cell (H.at 9 rfl) (nRow2 _ _ _ _ _),H.at 8 rfl⟩ (fun hHeld => ?_)
  (refine wpAnyT_pure (i := 0) (v := ?_) rfl (by kernel_rfl) (by kernel_rfl) (by kernel_rfl) (by kernel_rfl) (fun _ _ _ h => h) (Or.inl ⟨by rfl,?_⟩) (Or.inr (by assumption)) ?_;rotate_left;focus (intro w hSw;clear hSw;go_simp;all_goals (with_reducible rfl)));(try simp only [Act.put,rp1,rp2,rp3,rp4,rp5,rp6])
  (refine wpAnyT_take (i := 1) (f := 20) (v := ?_) rfl (by kernel_rfl) (by kernel_rfl) (by kernel_rfl) (by kernel_rfl) (by kernel_rfl) (fun _ _ _ h => h) (Or.inl ⟨by rfl,?_⟩) (by assumption) ?_;rotate_left;focus (intro w hSw;(try dsimp only at hSw);go_simp;all_goals (with_reducible rfl)));(try simp only [Act.put,rp1,rp2,rp3,rp4,rp5,rp6])
  (refine wpAnyT_take (i := 2) (f := 20) (v := ?_) rfl (by kernel_rfl) (by kernel_rfl) (by kernel_rfl) (by kernel_rfl) (by kernel_rfl) (fun _ _ _ h => h) (Or.inl ⟨by rfl,?_⟩) (by assumption) ?_;rotate_left;focus (intro w hSw;(try dsimp only at hSw);go_simp;all_goals (with_reducible rfl)));(try simp only [Act.put,rp1,rp2,rp3,rp4,rp5,rp6])
  (refine wpAnyT_take (i := 3) (f := 20) (v := ?_) rfl (by kernel_rfl) (by kernel_rfl) (by kernel_rfl) (by kernel_rfl) (by kernel_rfl) (fun _ _ _ h => h) (Or.inl ⟨by rfl,?_⟩) (by assumption) ?_;rotate_left;focus (intro w hSw;(try dsimp only at hSw);go_simp;all_goals (with_reducible rfl)));(try simp only [Act.put,rp1,rp2,rp3,rp4,rp5,rp6])
  (refine wpAnyT_take (i := 4) (f := 20) rfl (by kernel_rfl) (by kernel_rfl) (by kernel_rfl) (by kernel_rfl) (by kernel_rfl) (fun _ _ _ h => h) ((yieldsIf_load1 (by rfl) 76 _ rfl _ _ (by rfl) _ Tryz.underlying76 rfl _ (fun w h => h.1))) (by assumption) ?_);(try simp only [Act.put,rp1,rp2,rp3,rp4,rp5,rp6])
  (refine wpAnyT_take (i := 5) (f := 20) (v := ?_) rfl (by kernel_rfl) (by kernel_rfl) (by kernel_rfl) (by kernel_rfl) (by kernel_rfl) (fun _ _ _ h => h) (Or.inl ⟨by rfl,?_⟩) (by assumption) ?_;rotate_left;focus (intro w hSw;(try dsimp only at hSw);go_simp;all_goals (with_reducible rfl)));(try simp only [Act.put,rp1,rp2,rp3,rp4,rp5,rp6])
  (refine wpAnyT_take (i := 6) (f := 20) rfl (by kernel_rfl) (by kernel_rfl) (by kernel_rfl) (by kernel_rfl) (by kernel_rfl) (fun _ _ _ h => h) ((yieldsIf_loadrow (by rfl) 80 _ rfl _ (by rfl) _ _ _ _ Tryz.underlying80 rfl (size_pair _ HPB.out) (fun w h => h.2))) (by assumption) ?_);(try simp only [Act.put,rp1,rp2,rp3,rp4,rp5,rp6])
  (refine wpAnyT_one (i := 7) (by kernel_rfl) rfl (fun K hK => ?_));(rw [if_pos (by rfl)]);(refine wp_buildslice_st H 76 80 _ _ rfl Tryz.underlying76 40 sizeP _ zeroP (by decide) (by decide) [(0,.agg (byteV p.b).toArray)] (by simp [Act.eval]) _ (fill_one 40 (byteV p.b) _ (by simp) HPB.out) ?_;clear H;intro W gv H;have hHeld2 : W.cell? ⟨g,2,none⟩ = some (.slice pp n cp) ∧ W.heap[gp]? = some (.cells (byteV p.b).toArray 80 (0,0)) := ⟨row_cell (H.at 9 rfl) (nRow2 _ _ _ _ _),H.at 8 rfl⟩;refine hK.out _ _ (Or.inr hHeld2) ?_;clear hK K hHeld);(try simp only [Act.put,rp1,rp2,rp3,rp4,rp5,rp6])
  replace H : St O R0 w W (s.L ++ [errA,blk gp (.cells (byteV p.b).toArray 80 (0,0)),nodeA g h true (.slice pp n cp) (.slice none 0 0) (.slice none 0 0),ownS 80 40 pp n cp (pairV ps),blk gv (.cells (byteV p.b).toArray 80 (0,0))]) := H
  replace H : St O R0 w W ((s.L ++ [errA,blk gp (.cells (byteV p.b).toArray 80 (0,0)),nodeA g h true (.slice pp n cp) (.slice none 0 0) (.slice none 0 0)]) ++ [ownS 80 40 pp n cp (pairV ps),blk gv (.cells (byteV p.b).toArray 80 (0,0))]) := H
  (refine wpAnyT_one (i := 8) (by kernel_rfl) rfl (fun K hK => ?_));(rw [if_pos (by rfl)]);(go_simp;go_at_call 151;(refine (insertP H.lastB _ i rfl HI.out H1.out (by have := H6.out;omega) HPB.out (byteV_one _) (pairV_one _)).mono ?_);rintro e W ⟨gq,cq,rfl,hto⟩;replace H := BunTo.last hto H;clear hto;(try go_wp2_with fail);refine hK.out _ _ (Or.inl ⟨8,by simp,by kernel_rfl⟩) ?_;clear hK K hHeld2);(try simp only [Act.put,rp1,rp2,rp3,rp4,rp5,rp6])
  (refine wpAnyT_pure (i := 9) (v := ?_) rfl (by kernel_rfl) (by kernel_rfl) (by kernel_rfl) (by kernel_rfl) (fun _ _ _ h => h) (Or.inl ⟨by rfl,?_⟩) (Or.inl ⟨8,by simp,by kernel_rfl⟩) ?_;rotate_left;focus (intro w hSw;clear hSw;go_simp;all_goals (with_reducible rfl)));(try simp only [Act.put,rp1,rp2,rp3,rp4,rp5,rp6])
  (refine wpAnyT_pure (i := 10) (v := ?_) rfl (by kernel_rfl) (by kernel_rfl) (by kernel_rfl) (by kernel_rfl) (fun _ _ _ h => h) (Or.inl ⟨by rfl,?_⟩) (Or.inl ⟨8,by simp,by kernel_rfl⟩) ?_;rotate_left;focus (intro w hSw;clear hSw;go_simp;all_goals (with_reducible rfl)));(try simp only [Act.put,rp1,rp2,rp3,rp4,rp5,rp6])
  (refine wpAnyT_one (i := 11) (by kernel_rfl) rfl (fun K hK => ?_));(rw [if_pos (by rfl)]);(refine wp_store1_st H 9 76 _ _ rfl g 2 (.slice (some ⟨gq,0,none⟩) (n + 1) cq) (by rfl) (by rfl) rfl _ _ rfl size_slP (by simp [nRow]) ?_;clear H;intro W H;refine hK.out _ _ (Or.inl ⟨8,by simp,by kernel_rfl⟩) ?_;clear hK K);(try simp only [Act.put,rp1,rp2,rp3,rp4,rp5,rp6])
  (refine wpAnyT_done (by kernel_rfl) ?_ _)
  rw [(pairV_take HPK.out i (by rw [HN.out];exact HI.out)).1,(pairV_take HPK.out i (by rw [HN.out];exact HI.out)).2] at H
  obtain ⟨l,hl⟩ : ∃ l,putL (ps.take i) (ps.drop i) p false = l := ⟨_,rfl⟩
  have hcells : pairV (ps.take i) ++ (byteV p.b ++ pairV (ps.drop i)) = pairV l := by rw [← hl];simp [putL,pairV]
  rw [hcells] at H
  have HLE := Lib.hid (show l.length = n + 1 by
   rw [← hl];simp only [putL,Bool.false_eq_true,if_false,List.length_append,List.length_cons,List.length_take,List.length_drop,HN.out];have := HI.out;omega)
  have HLP := Lib.hid (show ∀ q ∈ l,PairOk q by
   intro q hq
   have : q ∈ ins p ps := by rw [← HF.out.ins,hl];exact hq
   rcases mem_ins this with rfl | h2
   ·exact HP.out
   ·exact HPK.out q h2)
  have HL := Lib.hid hl
  clear hl hcells
  replace H : St O R0 w W (s.L ++ [errA,nodeA g h true (.slice (some ⟨gq,0,none⟩) (n + 1) cq) (.slice none 0 0) (.slice none 0 0),ownS 80 40 (some ⟨gq,0,none⟩) (n + 1) cq (pairV l),blk gv (.cells (byteV p.b).toArray 80 (0,0)),blk gp (.cells (byteV p.b).toArray 80 (0,0))]) := H.pull 8 rfl
  replace H := H.take 10
  rcases (show n + 1 ≤ 6 ∨ n = 6 by have := H6.out;omega) with h5 | h5
  ·have H5 := Lib.hid h5
   clear h5
   go_wp2_with (first
    | (go_at_call 152;go_loud ((refine (halves_leaf1 (s := s) H.bundle HO.out HH.out.2.1 HLE.out H5.out HLP.out).mono ?_);rintro e W ⟨rfl,s',hs',hto⟩;have HS' := Lib.hid hs';clear hs';replace H := BunTo.front (R := []) hto (by rw [List.append_nil];exact H);rw [List.append_nil] at H;clear hto)))
   rw [← HPP.out]
   exact putPost_leaf1 HO.out HT.out HF.out HP.out (by rw [HL.out,HLE.out];exact H5.out) (by rw [HL.out];exact HS'.out) rfl H.bunTo
  ·subst h5
   rcases (show leftOf (s.v 1) s.n = 0 ∨ 0 < leftOf (s.v 1) s.n by omega) with h8 | h8
   ·have HL0 := Lib.hid h8
    clear h8
    go_wp2_with (first
     | (go_at_call 152;go_loud ((refine (halves_leaf0 (s := s) (H.take 9).bundle HO.out (none_left HL0.out)).mono ?_);rintro e W ⟨ge,rfl,hge,hto⟩;have HGE := Lib.hid hge;clear hge;replace H := BunTo.front (R := [_]) hto H;clear hto;unfold faultVR)))
    rw [← HPP.out]
    exact putPost_full (inner := .nilIface) rfl HGE.out (by have := HL0.out;omega) HO.out rfl rfl rfl (St.bunTo (H.take 8))
   ·obtain ⟨j,hj2,hjn,hjf,hjt⟩ := lowest h8
    have HJ := Lib.hid (And.intro hj2 (And.intro hjn (And.intro hjf hjt)))
    clear hj2 hjn hjf hjt h8
    obtain ⟨x,q,y,hlx,hx,hy⟩ : ∃ x q y,l = x ++ q :: y ∧ x.length = 4 ∧ y.length = 2 := by
     have h2 := HLE.out
     refine ⟨l.take 4,l[4]'(by omega),l.drop 5,?_,by rw [List.length_take];omega,by rw [List.length_drop];omega⟩
     rw [← List.drop_eq_getElem_cons,List.take_append_drop]
    subst hlx
    have HXY := Lib.hid (And.intro hx hy)
    clear hx hy
    go_wp2_with (first
     | (go_at_call 152;go_loud ((refine (halves_leaf2 (s := s) H.bundle HO.out HH.out.2.1 HXY.out.1 HXY.out.2 HLP.out HJ.out.1 HJ.out.2.1 HJ.out.2.2.1 HJ.out.2.2.2).mono ?_);rintro e W ⟨gs,rfl,s',hs',hto⟩;have HS' := Lib.hid hs';clear hs';replace H := BunTo.front (R := []) hto (by rw [List.append_nil];exact H);rw [List.append_nil] at H;clear hto)))
    rw [← HPP.out]
    exact putPost_leaf2 HO.out HT.out HP.out (HF.out.ins.symm.trans HL.out) HXY.out.1 HXY.out.2 HJ.out.1 HJ.out.2.1 HJ.out.2.2.1 HS'.out rfl H.bunTo
end Go.Proofs.YtlgciddnpinpbaaGreatDoor
namespace Go.Proofs.YtlgciddnpinpbaaGreatDoor
open Go.RowKit
structure Road (s : TX) (d sz h : Nat) (hs : List Nat) (ps : List PairT) (ks1 ks2 : List (List UInt8)) (a b : List Sub) (ch : Sub) (n : Nat) : Prop where
 tree : Tree s (d + 1) sz h hs ps
 inner : Inner s.v d (ks1 ++ ks2) (a ++ ch :: b)
 len : a.length = ks1.length
 esz : (ks1 ++ ks2).length = sz
 le6 : sz ≤ 6
 ev : s.v h = encInner (ks1 ++ ks2) ((a ++ ch :: b).map Sub.h)
 ehs : hs = h :: homesOf (a ++ ch :: b)
 eps : ps = pairsOf (a ++ ch :: b)
 way : Way ks1 ks2 n
theorem Road.child {s : TX} {d sz h : Nat} {hs : List Nat} {ps : List PairT} {ks1 ks2 : List (List UInt8)} {a b : List Sub} {ch : Sub} {n : Nat} (R : Road s d sz h hs ps ks1 ks2 a b ch n) : Tree s d ch.s ch.h ch.hs ch.ps :=
 tree_child R.tree R.inner R.ehs R.eps
theorem Road.child3 {s : TX} {d sz h : Nat} {hs : List Nat} {ps : List PairT} {ks1 ks2 : List (List UInt8)} {a b : List Sub} {ch : Sub} {n : Nat} (R : Road s d sz h hs ps ks1 ks2 a b ch n) : 3 ≤ ch.s := (R.inner.kids ch (by simp)).1
theorem road_of {s : TX} {d sz h j n : Nat} {hs : List Nat} {ps : List PairT} {ks : List (List UInt8)} {cs : List Sub} (T : Tree s (d + 1) sz h hs ps) (hi : Inner s.v d ks cs) (hv : s.v h = encInner ks (cs.map Sub.h)) (hks : ks.length = sz) (hcs : cs.length = sz + 1) (h6 : sz ≤ 6) (hhs : hs = h :: homesOf cs) (hps : ps = pairsOf cs) (hj : j ≤ sz) (hw : Way (ks.take j) (ks.drop j) n) :
  ∃ ch,cs[j]? = some ch ∧ Road s d sz h hs ps (ks.take j) (ks.drop j) (cs.take j) (cs.drop (j + 1)) ch n := by
 obtain ⟨ch,hch⟩ : ∃ ch,cs[j]? = some ch := ⟨_,List.getElem?_eq_getElem (by omega)⟩
 have e := split_at hch
 refine ⟨ch,hch,T,?_,?_,?_,h6,?_,?_,?_,hw⟩
 ·rw [List.take_append_drop,← e];exact hi
 ·rw [List.length_take,List.length_take,Nat.min_eq_left (by omega),Nat.min_eq_left (by omega)]
 ·rw [List.take_append_drop];exact hks
 ·rw [List.take_append_drop,← e];exact hv
 ·rw [← e];exact hhs
 ·rw [← e];exact hps
theorem putPost_inner1 {s s1 : TX} {c d sz h : Nat} {hs : List Nat} {ps : List PairT} {ks1 ks2 : List (List UInt8)} {a b : List Sub} {ch c' : Sub} {p : PairT} {ws : List Nat} {w w' : World} {own rd : Nat → Prop} {e : Ending} (R : Road s d sz h hs ps ks1 ks2 a b ch p.n)
  (hput : PutTo s1.v d ch.s ch.h (ins p ch.ps) none [c']) (m : Moves s s1 c ch.hs c'.hs ws) (hws : ws.length ≤ 3 * (d + 1)) (hlen : c'.hs.length ≤ ch.hs.length + d) (he : e = .returned (.tuple #[.pointer none,.nilIface])) (hto : BunTo w own rd (s1.L ++ [errA]) w') :
  PutPost s c (d + 1) sz h hs (ins p ps) w own rd e w' := by
 obtain ⟨T,hi,hl,hsz,h6,hv,rfl,rfl,hw⟩ := R
 obtain ⟨cm,hfa,hfb,hvh⟩ := child_moves T.held m
 have hp := put_inner hi hl hw hsz h6 hv hvh hfa hfb hput
 have hp2 := (homesOf_perm a b c' h).length_eq
 have hp1 := (homesOf_perm a b ch h).length_eq
 simp only [List.length_append] at hp1 hp2
 exact .inl ⟨_,s1,ws,he,hp,cm.perm (List.Perm.refl _) (homesOf_perm a b c' h).symm fun _ h => h,by omega,by show (h :: homesOf (a ++ c' :: b)).length ≤ _;omega,hto⟩
theorem part_moves {s s1 : TX} {c d sz h h2 : Nat} {hs : List Nat} {ps : List PairT} {ks1 ks2 : List (List UInt8)} {a b : List Sub} {ch c1 c2 : Sub} {k : List UInt8} {p : PairT} {ws : List Nat} (R : Road s d sz h hs ps ks1 ks2 a b ch p.n)
  (hput : PutTo s1.v d ch.s ch.h (ins p ch.ps) (some (k,h2)) [c1,c2]) (m : Moves s s1 c ch.hs (c1.hs ++ c2.hs) ws) (hlen : (c1.hs ++ c2.hs).length ≤ ch.hs.length + d + 1) :
  Inner s1.v d (ks1 ++ k :: ks2) (a ++ c1 :: c2 :: b) ∧ pairsOf (a ++ c1 :: c2 :: b) = ins p ps ∧ c1.h = ch.h ∧ c2.h = h2 ∧ Moves s s1 c hs (h :: homesOf (a ++ c1 :: c2 :: b)) ws ∧ (h :: homesOf (a ++ c1 :: c2 :: b)).length ≤ hs.length + d + 1 ∧ Held s1 (h :: homesOf (a ++ c1 :: c2 :: b)) := by
 obtain ⟨T,hi,hl,hsz,h6,hv,rfl,rfl,hw⟩ := R
 obtain ⟨cm,hfa,hfb,hvh⟩ := child_moves T.held m
 obtain ⟨g1,g2,g3,g4⟩ := put_part hi hl hw hfa hfb hput
 have hp2 := (homesOf_perm2 a b c1 c2 h).length_eq
 have hp1 := (homesOf_perm a b ch h).length_eq
 have hm := cm.perm (List.Perm.refl _) (homesOf_perm2 a b c1 c2 h).symm fun _ h => h
 simp only [List.length_append] at hp1 hp2 hlen
 exact ⟨g1,g2,g3,g4,hm,by omega,hm.held T.held⟩
theorem To.v_ne {s s' : TX} {c h x : Nat} {l : List UInt8} (k : s.To s' c (updV s.V h l)) (hx : x < s.n) (hne : x ≠ h) : s'.v x = s.v x := by
 rw [k.v x hx];unfold updV;rw [if_neg hne];rfl
theorem putPost_inner2 {s s1 s' : TX} {c d sz h h2 : Nat} {hs : List Nat} {ps : List PairT} {ks1 ks2 : List (List UInt8)} {a b : List Sub} {ch c1 c2 : Sub} {k : List UInt8} {p : PairT} {ws : List Nat} {w w' : World} {own rd : Nat → Prop} {e : Ending} (R : Road s d sz h hs ps ks1 ks2 a b ch p.n)
  (hput : PutTo s1.v d ch.s ch.h (ins p ch.ps) (some (k,h2)) [c1,c2]) (m : Moves s s1 c ch.hs (c1.hs ++ c2.hs) ws) (hws : ws.length ≤ 3 * (d + 1)) (hlen : (c1.hs ++ c2.hs).length ≤ ch.hs.length + d + 1) (h5 : sz + 1 ≤ 6)
  (kk : s1.To s' c (updV s1.V h (encInner (ks1 ++ k :: ks2) ((a ++ c1 :: c2 :: b).map Sub.h)))) (he : e = .returned (.tuple #[.pointer none,.nilIface])) (hto : BunTo w own rd (s'.L ++ [errA]) w') :
  PutPost s c (d + 1) sz h hs (ins p ps) w own rd e w' := by
 obtain ⟨g1,g2,g3,g4,hm,hln,hh⟩ := part_moves R hput m hlen
 obtain ⟨mw,hv⟩ := Moves.write hh (List.mem_cons_self ..) kk
 have hne : ∀ x ∈ homesOf (a ++ c1 :: c2 :: b),s'.v x = s1.v x := fun x hx => by
  have hnd := List.nodup_cons.1 hh.nodup
  exact To.v_ne kk (hh.taken x (List.mem_cons_of_mem _ hx)).2.1 fun e => hnd.1 (e ▸ hx)
 have hsz := R.esz
 have hl : (ks1 ++ k :: ks2).length = sz + 1 := by simp only [List.length_append,List.length_cons] at hsz ⊢;omega
 refine .inl ⟨⟨sz + 1,h,h :: homesOf (a ++ c1 :: c2 :: b),pairsOf (a ++ c1 :: c2 :: b)⟩,s',ws ++ [h],he,⟨Nat.le_succ _,rfl,(g1.frame hne).lies hv hl h5,g2⟩,hm.trans mw fun i hi => .inr hi,by simp;omega,hln,hto⟩
theorem putPost_inner3 {s s1 s' : TX} {c d sz h h2 i gs : Nat} {hs : List Nat} {ps : List PairT} {ks1 ks2 x y : List (List UInt8)} {a b X Y : List Sub} {ch c1 c2 : Sub} {k kk : List UInt8} {p : PairT} {ws : List Nat} {w w' : World} {own rd : Nat → Prop} {e : Ending} (R : Road s d sz h hs ps ks1 ks2 a b ch p.n)
  (hput : PutTo s1.v d ch.s ch.h (ins p ch.ps) (some (k,h2)) [c1,c2]) (m : Moves s s1 c ch.hs (c1.hs ++ c2.hs) ws) (hws : ws.length ≤ 3 * (d + 1)) (hlen : (c1.hs ++ c2.hs).length ≤ ch.hs.length + d + 1)
  (hks : ks1 ++ k :: ks2 = x ++ kk :: y) (hcs : a ++ c1 :: c2 :: b = X ++ Y) (hx : x.length = 3) (hy : y.length = 3) (hX : X.length = 4) (h2i : 2 ≤ i) (hin : i < s1.n) (hf : hasB (s1.v 1) i = false)
  (kt : s1.To s' c (updV (updV (updV s1.V 1 (turnB (s1.v 1) i)) h (encInner x (X.map Sub.h))) i (encInner y (Y.map Sub.h)))) (he : e = .returned (.tuple #[.pointer (some ⟨gs,0,none⟩),.nilIface])) (hto : BunTo w own rd (s'.L ++ [errA,splitA gs kk i]) w') :
  PutPost s c (d + 1) sz h hs (ins p ps) w own rd e w' := by
 obtain ⟨g1,g2,g3,g4,hm,hln,hh⟩ := part_moves R hput m hlen
 rw [hks,hcs] at g1
 rw [hcs] at g2 hm hln hh
 have hh1 : Held s1 (homesOf (X ++ Y) ++ [h]) := hh.perm (List.perm_append_comm (l₁ := [h]))
 obtain ⟨ms,hv1,hv2⟩ := Moves.split hm.ok hh1.right h2i hin hf kt
 have hne : ∀ z ∈ homesOf (X ++ Y),s'.v z = s1.v z := fun z hz => by
  have ht := hh1.left.taken z hz
  refine ms.v ht.2.1 (by omega) (hh1.apart z hz) fun h3 => ?_
  simp only [List.mem_cons,List.not_mem_nil,or_false] at h3
  rcases h3 with rfl | rfl
  ·exact hh1.apart z hz (List.mem_singleton_self _)
  ·rw [ht.2.2] at hf;cases hf
 have hb := ms.beside hh1
 have hperm : (homesOf (X ++ Y) ++ [h,i]).Perm ((h :: homesOf X) ++ (i :: homesOf Y)) := by
  have e1 : homesOf (X ++ Y) = homesOf X ++ homesOf Y := by simp [homesOf]
  rw [e1]
  have p1 : ((homesOf X ++ homesOf Y) ++ [h,i]).Perm ([h,i] ++ (homesOf X ++ homesOf Y)) := List.perm_append_comm
  refine p1.trans ?_
  show (h :: i :: (homesOf X ++ homesOf Y)).Perm (h :: (homesOf X ++ i :: homesOf Y))
  exact List.Perm.cons h List.perm_middle.symm
 have hb2 := hb.perm (List.perm_append_comm (l₂ := [h])) hperm (ws2 := [1,h,i]) fun _ h => h
 refine .inr (.inl ⟨_,_,kk,i,gs,s',ws ++ [1,h,i],he,put_split g1 hX hx hy g2 hne hv1 hv2,(hm.trans hb2 fun q hq => .inr (hperm.mem_iff.1 ?_)),by simp;omega,?_,hto⟩)
 ·have : q ∈ [h] ++ homesOf (X ++ Y) := hq
  simp only [List.mem_append,List.mem_cons,List.not_mem_nil,or_false] at this ⊢
  rcases this with h | h
  ·exact .inr (.inl h)
  ·exact .inl h
 ·have := hperm.length_eq
  simp only [List.length_append,List.length_cons,List.length_nil] at this hln ⊢
  omega
theorem inner3_full {s s1 : TX} {c d : Nat} {ch c1 c2 : Sub} {ws : List Nat} (m : Moves s s1 c ch.hs (c1.hs ++ c2.hs) ws) (hlen : (c1.hs ++ c2.hs).length ≤ ch.hs.length + d + 1) (h0 : leftOf (s1.v 1) s1.n = 0) : leftOf (s.v 1) s.n ≤ d + 1 := by
 have := m.left
 rw [m.n] at h0
 omega
end Go.Proofs.YtlgciddnpinpbaaGreatDoor
