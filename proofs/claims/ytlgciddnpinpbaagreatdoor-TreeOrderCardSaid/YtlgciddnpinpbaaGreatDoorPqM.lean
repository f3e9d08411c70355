/- Texts of this proof, packed. -/
import Derived.Test.YtlgciddnpinpbaaGreatDoorPkBase4
import Derived.Test.YtlgciddnpinpbaaGreatDoorPqA
import Derived.Test.YtlgciddnpinpbaaGreatDoorPqB
import Derived.Test.YtlgciddnpinpbaaGreatDoorPqC
import Derived.Test.YtlgciddnpinpbaaGreatDoorPqJ
import Derived.Test.YtlgciddnpinpbaaGreatDoorPqE
import Derived.Test.YtlgciddnpinpbaaGreatDoorPqD
import Derived.Test.YtlgciddnpinpbaaGreatDoorPqG
import Derived.Test.YtlgciddnpinpbaaGreatDoorPqH
set_option linter.unusedSimpArgs false
set_option linter.unusedVariables false
namespace Go.Proofs.YtlgciddnpinpbaaGreatDoor
open Go.RowKit
set_option maxRecDepth 40000
inductive NodeV
 | leaf (pp : Option Addr) (cp : Nat) (ps : List PairT)
 | inner (pk : Option Addr) (ck : Nat) (ks : List (List UInt8)) (pc : Option Addr) (cc : Nat) (c0 : Nat) (cs : List Nat)
structure NodeT where
 g : Nat
 home : Nat
 val : NodeV
def NodeT.Ls (N : NodeT) : List Asrt := match N.val with
 | .leaf pp cp ps => [nodeA N.g N.home true (.slice pp ps.length cp) (.slice none 0 0) (.slice none 0 0),rdA pp (pairV ps)]
 | .inner pk ck ks pc cc c0 cs => [nodeA N.g N.home false (.slice none 0 0) (.slice pk ks.length ck) (.slice pc (ks.length + 1) cc),rdA pk (keyV ks),rdA pc (intsV (c0 :: cs))]
def NodeT.A (N : NodeT) : Asrt := bun N.Ls
def NodeT.enc (N : NodeT) : List UInt8 := match N.val with
 | .leaf _ _ ps => encLeaf ps
 | .inner _ _ ks _ _ c0 cs => encInner ks (c0 :: cs)
def NodeT.Ok (N : NodeT) (n : Nat) : Prop := N.home < n ∧ match N.val with
 | .leaf _ _ ps => (∀ p ∈ ps,PairOk p) ∧ ps.length ≤ 6
 | .inner _ _ ks _ _ c0 cs => cs.length = ks.length ∧ (∀ k ∈ ks,k.length = 32) ∧ ks.length ≤ 6 ∧ c0 < 4294967296 ∧ ∀ x ∈ cs,x < 4294967296
theorem save_any {w : World} {s : TX} {c : Nat} (N : NodeT) (hb : Bundle w (s.L ++ [N.A])) (h : s.Ok c) (hN : N.Ok s.n) :
  Calls Tryz.prog 149 #[.pointer (some ⟨N.g,0,none⟩),.pointer (some ⟨s.g,0,none⟩)] w fun e w' => e = .returned .nilIface ∧ ∃ s',s.To s' c (updV s.V N.home N.enc) ∧
   BunTo w (ownL (s.L ++ [N.A])) (rdL (s.L ++ [N.A])) (s'.L ++ [N.A]) w' := by
 have H := hb.open_.unbun
 obtain ⟨g,home,val⟩ := N
 cases val with
 | leaf pp cp ps =>
  refine (save_leaf (s := s) H.bundle h hN.1 hN.2.1 hN.2.2).mono ?_
  rintro e W ⟨rfl,s',hs',hto⟩
  refine ⟨rfl,s',hs',?_⟩
  have H2 := BunTo.front (R := []) hto (by rw [List.append_nil];exact H)
  rw [List.append_nil] at H2
  exact (St.rebun (Ls := NodeT.Ls ⟨g,home,.leaf pp cp ps⟩) H2).bunTo
 | inner pk ck ks pc cc c0 cs =>
  refine (save_inner (s := s) H.bundle h hN.1 hN.2.1 hN.2.2.1 hN.2.2.2.1 hN.2.2.2.2.1 hN.2.2.2.2.2).mono ?_
  rintro e W ⟨rfl,s',hs',hto⟩
  refine ⟨rfl,s',hs',?_⟩
  have H2 := BunTo.front (R := []) hto (by rw [List.append_nil];exact H)
  rw [List.append_nil] at H2
  exact (St.rebun (Ls := NodeT.Ls ⟨g,home,.inner pk ck ks pc cc c0 cs⟩) H2).bunTo
def savesV (V : Nat → List UInt8 × Bool) (Ns : List NodeT) : Nat → List UInt8 × Bool := Ns.foldl (fun V N => updV V N.home N.enc) V
theorem savesV_snoc (V : Nat → List UInt8 × Bool) (Ns : List NodeT) (N : NodeT) : savesV V (Ns ++ [N]) = updV (savesV V Ns) N.home N.enc := by simp [savesV]
def ptrV (Ns : List NodeT) : List Value := Ns.map fun N => .pointer (some ⟨N.g,0,none⟩)
theorem TX.To.trans' {s s1 s2 : TX} {c : Nat} {v1 : Nat → List UInt8 × Bool} {i : Nat} {l : List UInt8} (h : s.To s1 c v1) (k : s1.To s2 c (updV s1.V i l)) : s.To s2 c (updV v1 i l) :=
 ⟨k.ok,k.t.trans h.t,k.g.trans h.g,k.gl.trans h.gl,fun j hj => by
  rw [k.V j (by rw [h.n];exact hj)]
  unfold updV
  rw [h.V j hj]⟩
set_option maxHeartbeats 4000000 in
theorem saves_calls {w : World} {s : TX} {c n cl : Nat} {Ns : List NodeT} {gl : Nat} (hb : Bundle w (s.L ++ (rdA (some ⟨gl,0,none⟩) (ptrV Ns) :: Ns.map NodeT.A))) (h : s.Ok c) (hnl : Ns.length = n) (h9 : n ≤ 9) (hN : ∀ N ∈ Ns,N.Ok s.n) :
  Calls Tryz.prog 115 #[.pointer (some ⟨s.g,0,none⟩),.slice (some ⟨gl,0,none⟩) n cl] w fun e w' => e = .returned .nilIface ∧ ∃ s',s.To s' c (savesV s.V Ns) ∧
   BunTo w (ownL (s.L ++ (rdA (some ⟨gl,0,none⟩) (ptrV Ns) :: Ns.map NodeT.A))) (rdL (s.L ++ (rdA (some ⟨gl,0,none⟩) (ptrV Ns) :: Ns.map NodeT.A))) (s'.L ++ (rdA (some ⟨gl,0,none⟩) (ptrV Ns) :: Ns.map NodeT.A)) w' := by
 have H := hb.open_
 obtain ⟨O,hO⟩ : ∃ O,ownL (s.L ++ (rdA (some ⟨gl,0,none⟩) (ptrV Ns) :: Ns.map NodeT.A)) = O := ⟨_,rfl⟩
 obtain ⟨R0,hR0⟩ : ∃ R,rdL (s.L ++ (rdA (some ⟨gl,0,none⟩) (ptrV Ns) :: Ns.map NodeT.A)) = R := ⟨_,rfl⟩
 rw [hO,hR0] at H ⊢
 have HO := Lib.hid h
 have HN := Lib.hid hN
 have HNL := Lib.hid hnl
 have hn0 : 0 ≤ (n : Int) := by omega
 have hn9 : (n : Int) ≤ 9 := by omega
 clear hb h hO hR0 hN hnl h9
 go_enter Tryz.func115,Tryz.ntmps115
 go_upto_region 2 with fail
 go_loopw [10] (fun u wr => ∃ (j : Nat) (s1 : TX),u = .int .i64 (j : Int) ∧ j ≤ n ∧ s1.g = s.g ∧ Hid (s.To s1 c (savesV s.V (Ns.take j))) ∧ St O R0 w wr (s1.L ++ (rdA (some ⟨gl,0,none⟩) (ptrV Ns) :: Ns.map NodeT.A))) (fun u _ => n - (intOf u).toNat)
 case atStart => exact ⟨0,s,rfl,Nat.zero_le _,rfl,Lib.hid (TX.To.refl HO.out),H⟩
 case round =>
  clear H
  obtain ⟨j,s1,rfl,hj,hsg,HS,H⟩ := hrel
  have hj0 : 0 ≤ (j : Int) := by omega
  rcases Nat.lt_or_ge j n with hlt | hge
  ·have hjj : (j : Int) < (n : Int) := by omega
   obtain ⟨N,hNj⟩ : ∃ N,Ns[j]? = some N := ⟨_,List.getElem?_eq_getElem (by rw [HNL.out];exact hlt)⟩
   have HJ := Lib.hid hlt
   have HNJ := Lib.hid hNj
   have HNO := Lib.hid (HN.out N (List.mem_of_getElem? hNj))
   have HR := Lib.hid (show (rdA (some ⟨gl,0,none⟩) (ptrV Ns) :: Ns.map NodeT.A)[j + 1]? = some N.A by simp [hNj])
   have hc := rdA_cell (H.at 7 rfl) (i := j) (x := .pointer (some ⟨N.g,0,none⟩)) (by simp [ptrV,hNj])
   rw [Nat.zero_add] at hc
   have HG := Lib.hid hsg
   rw [← hsg]
   clear hNj hsg
   go_wp2_with (first
    | (go_at_call 149;go_loud ((refine (save_any (s := s1) N (St.left (A := s1.L ++ [N.A]) (H.pickAt (A := s1.L) (j + 1) HR.out)).bundle HS.out.ok (by rw [HS.out.n];exact HNO.out)).mono ?_);rintro e W ⟨rfl,s2,hs2,hto⟩;replace H := BunTo.at (j + 1) hto H HR.out;rw [show (rdA (some ⟨gl,0,none⟩) (ptrV Ns) :: Ns.map NodeT.A).set (j + 1) N.A = (rdA (some ⟨gl,0,none⟩) (ptrV Ns) :: Ns.map NodeT.A) from list_set_same HR.out] at H;have HS2 := Lib.hid (HS.out.trans' hs2);have HG2 := Lib.hid (show s2.g = s1.g from hs2.g);clear hs2 hto hc)))
   go_roundw
   case rel =>
    refine ⟨j + 1,s2,congrArg _ (by omega),HJ.out,HG2.out,Lib.hid ?_,H⟩
    have e : Ns.take (j + 1) = Ns.take j ++ [N] := by rw [List.take_add_one,HNJ.out];rfl
    rw [e,savesV_snoc]
    exact HS2.out
   case measure => have := HJ.out;simp [intOf];omega
  ·obtain rfl : j = n := by omega
   have hjj : ¬ ((j : Int) < (j : Int)) := by omega
   go_wp2
   refine bodyPost_ret (results_tmp rfl _ _ _) rfl ?_
   rw [List.take_of_length_le (by rw [HNL.out];exact Nat.le_refl _)] at HS
   exact ⟨rfl,s1,HS.out,H.bunTo⟩
theorem fresh_ok {w : World} {s : TX} {c : Nat} (hb : Bundle w (s.L ++ [errA])) (h : s.Ok c) (lf : Bool) (i : Nat) (h2 : 2 ≤ i) (hi : i < s.n) (hfree : hasB (s.v 1) i = false) (htak : ∀ j,2 ≤ j → j < i → hasB (s.v 1) j = true) :
  Calls Tryz.prog 114 #[.pointer (some ⟨s.g,0,none⟩),.bool lf] w fun e w' => ∃ g,e = .returned (.tuple #[.pointer (some ⟨g,0,none⟩),.nilIface]) ∧ ∃ s',s.To s' c (updV s.V 1 (turnB (s.v 1) i)) ∧
   BunTo w (ownL (s.L ++ [errA])) (rdL (s.L ++ [errA])) (s'.L ++ [errA,nodeA g i lf (.slice none 0 0) (.slice none 0 0) (.slice none 0 0)]) w' := by
 have H := hb.open_
 have HT := Lib.hid (Take_ok (s := s) (H.take 7).bundle h i h2 hi hfree htak)
 obtain ⟨O,hO⟩ : ∃ O,ownL (s.L ++ [errA]) = O := ⟨_,rfl⟩
 obtain ⟨R0,hR0⟩ : ∃ R,rdL (s.L ++ [errA]) = R := ⟨_,rfl⟩
 rw [hO,hR0] at H ⊢
 clear hb h hfree htak hO hR0 h2 hi
 go_enter Tryz.func114,Tryz.ntmps114
 go_wp2_with (first
  | (go_at_call 110;go_loud ((refine HT.out.mono ?_);rintro e W ⟨rfl,s',hs',hto⟩;replace H := hto.front (R := [errA]) H;clear hto))
  | (refine wpList_box_st H rfl 149 _ rfl _ rfl ?_;clear H;intro W gn H))
 refine bodyPost_ret (results_tmp2 rfl _ _ _) rfl ?_
 exact ⟨gn,rfl,s',hs',St.bunTo (show St O R0 w W (s'.L ++ [errA,nodeA gn i lf (.slice none 0 0) (.slice none 0 0) (.slice none 0 0)]) from H)⟩
theorem fresh_full {w : World} {s : TX} {c : Nat} (hb : Bundle w (s.L ++ [errA])) (h : s.Ok c) (lf : Bool) (htak : ∀ j,2 ≤ j → j < s.n → hasB (s.v 1) j = true) :
  Calls Tryz.prog 114 #[.pointer (some ⟨s.g,0,none⟩),.bool lf] w fun e w' => ∃ ge,e = .returned (.tuple #[.pointer none,faultVR ge]) ∧ w'.heap[ge]? = some (faultOR 9 .nilIface) ∧
   BunTo w (ownL (s.L ++ [errA])) (rdL (s.L ++ [errA])) (s.L ++ [errA]) w' := by
 have H := hb.open_
 have HT := Lib.hid (Take_full (s := s) hb h htak)
 obtain ⟨O,hO⟩ : ∃ O,ownL (s.L ++ [errA]) = O := ⟨_,rfl⟩
 obtain ⟨R0,hR0⟩ : ∃ R,rdL (s.L ++ [errA]) = R := ⟨_,rfl⟩
 rw [hO,hR0] at H ⊢
 rw [hO,hR0] at HT
 clear hb h htak
 go_enter Tryz.func114,Tryz.ntmps114
 go_wp2_with (first
  | (go_at_call 110;go_loud ((refine HT.out.mono ?_);rintro e W ⟨rfl,hto⟩;subst hO hR0;replace H := BunTo.front (R := []) hto (by rw [List.append_nil];exact H);rw [List.append_nil] at H;clear hto))
  | (go_at_call 123;go_loud ((refine (bad_noR 9 rfl _).mono ?_);rintro e W ⟨ge,rfl,hge,hgo,hbl⟩;replace H := H.stay (Fix.of_below hbl _);clear hbl;unfold faultVR)))
 refine bodyPost_ret (results_tmp2 rfl _ _ _) rfl ?_
 exact ⟨ge,rfl,hgo,H.bunTo⟩
theorem size_ptrN : (Tryz.prog.info? 145).map (·.size) = some 1 := by kernel_rfl
theorem zero_ptrN : (Tryz.prog.info? 145).bind (·.zero) = some (.pointer none) := by kernel_rfl
theorem fill_ptr1 (a : Addr) : Instr.fill (fun i => some (i * 1,1)) ((Array.range (1 * 1)).map ((Value.pointer none).cells[· % (Value.pointer none).cells.size]!)) [(0,.pointer (some a))] = some #[.pointer (some a)] := by kernel_rfl
theorem fill_ptr2 (a b : Addr) : Instr.fill (fun i => some (i * 1,1)) ((Array.range (2 * 1)).map ((Value.pointer none).cells[· % (Value.pointer none).cells.size]!)) [(0,.pointer (some a)),(1,.pointer (some b))] = some #[.pointer (some a),.pointer (some b)] := by kernel_rfl
end Go.Proofs.YtlgciddnpinpbaaGreatDoor
namespace Go.Proofs.YtlgciddnpinpbaaGreatDoor
open Go.RowKit
set_option maxRecDepth 40000
def splitA (g : Nat) (k : List UInt8) (h : Nat) : Asrt := blk g (.cells (byteV k ++ [Value.int .i64 (h : Int)]).toArray 184 (0,0))
theorem zeroSplit : (Tryz.prog.info? 184).bind (·.zero) = some (.agg (List.replicate 32 (Value.int .u8 0) ++ [Value.int .i64 0]).toArray) := by kernel_rfl
theorem split_key (k : List UInt8) (hk : k.length = 32) (v : Value) : (List.replicate 32 (Value.int .u8 0) ++ [v]).take 0 ++ byteV k ++ (List.replicate 32 (Value.int .u8 0) ++ [v]).drop (0 + (byteV k).length) = byteV k ++ [v] := by
 rw [byteV_length,hk];rfl
set_option maxHeartbeats 4000000 in
theorem halves_leaf1 {w : World} {s : TX} {c g home cp n : Nat} {pp : Option Addr} {ps : List PairT} (hb : Bundle w (s.L ++ [errA,nodeA g home true (.slice pp n cp) (.slice none 0 0) (.slice none 0 0),ownS 80 40 pp n cp (pairV ps)])) (h : s.Ok c) (hn : home < s.n) (hl : ps.length = n) (h6 : n ≤ 6) (hp : ∀ p ∈ ps,PairOk p) :
  Calls Tryz.prog 152 #[.pointer (some ⟨g,0,none⟩),.pointer (some ⟨s.g,0,none⟩)] w fun e w' => e = .returned (.tuple #[.pointer none,.nilIface]) ∧ ∃ s',s.To s' c (updV s.V home (encLeaf ps)) ∧
   BunTo w (ownL (s.L ++ [errA,nodeA g home true (.slice pp n cp) (.slice none 0 0) (.slice none 0 0),ownS 80 40 pp n cp (pairV ps)])) (rdL (s.L ++ [errA,nodeA g home true (.slice pp n cp) (.slice none 0 0) (.slice none 0 0),ownS 80 40 pp n cp (pairV ps)])) (s'.L ++ [errA]) w' := by
 have H := hb.open_
 obtain ⟨O,hO⟩ : ∃ O,ownL (s.L ++ [errA,nodeA g home true (.slice pp n cp) (.slice none 0 0) (.slice none 0 0),ownS 80 40 pp n cp (pairV ps)]) = O := ⟨_,rfl⟩
 obtain ⟨R0,hR0⟩ : ∃ R,rdL (s.L ++ [errA,nodeA g home true (.slice pp n cp) (.slice none 0 0) (.slice none 0 0),ownS 80 40 pp n cp (pairV ps)]) = R := ⟨_,rfl⟩
 rw [hO,hR0] at H ⊢
 have HO := Lib.hid h
 have HN := Lib.hid (show NodeT.Ok ⟨g,home,.leaf pp cp ps⟩ s.n from ⟨hn,hp,by omega⟩)
 have HL := Lib.hid hl
 have hn0 : 0 ≤ (n : Int) := by omega
 have hn6 : (n : Int) ≤ 6 := by omega
 clear hb h hO hR0 hn hl h6 hp
 go_enter Tryz.func152,Tryz.ntmps152
 go_wp2_with (first
  | (go_at_call 169;go_loud ((refine (size_leaf (H.at 8 rfl)).mono ?_);rintro e W' ⟨rfl,rfl⟩))
  | ((refine wpList_buildslice_st H rfl 227 145 _ _ rfl Tryz.underlying227 _ size_ptrN _ zero_ptrN (by decide) (by decide) [(0,.pointer (some ⟨g,0,none⟩))] (by simp [Act.eval]) #[.pointer (some ⟨g,0,none⟩)] (fill_ptr1 _) ?_);go_loud (clear H;intro W gl H;replace H := H.recast 10 (A' := rdA (some ⟨gl,0,none⟩) (ptrV [⟨g,home,.leaf pp cp ps⟩])) rfl (fun h => rdB_of_row h) (fun k hk => hk.elim) (fun k ⟨_,ad,e,hk⟩ => by { cases e;exact .inl hk });replace H := H.rdOf 9 rfl;rw [← HL.out] at H;replace H : St O R0 w W ((s.L ++ [errA,rdA (some ⟨gl,0,none⟩) (ptrV [⟨g,home,.leaf pp cp ps⟩])]) ++ NodeT.Ls ⟨g,home,.leaf pp cp ps⟩) := (H.pull 8 rfl).pull 8 rfl;replace H := H.rebun;replace H : St O R0 w W ((s.L ++ (rdA (some ⟨gl,0,none⟩) (ptrV [⟨g,home,.leaf pp cp ps⟩]) :: [(⟨g,home,.leaf pp cp ps⟩ : NodeT)].map NodeT.A)) ++ [errA]) := H.pull 7 rfl))
  | (go_at_call 115;go_loud ((refine (saves_calls (s := s) (n := 1) (Ns := [⟨g,home,.leaf pp cp ps⟩]) H.left.bundle HO.out rfl (by omega) (fun N hN => by { rw [List.mem_singleton.1 hN];exact HN.out })).mono ?_);rintro e W ⟨rfl,s',hs',hto⟩;replace H := hto.front H;clear hto)))
 refine bodyPost_ret (results_tmp2 rfl _ _ _) rfl ?_
 exact ⟨rfl,s',hs',St.bunTo (((H.pull 7 rfl).pull 7 rfl).take 8)⟩
set_option maxHeartbeats 16000000 in
theorem halves_leaf2 {w : World} {s : TX} {c g home cp gp i : Nat} {x y : List PairT} {q : PairT} (hb : Bundle w (s.L ++ [errA,nodeA g home true (.slice (some ⟨gp,0,none⟩) 7 cp) (.slice none 0 0) (.slice none 0 0),ownS 80 40 (some ⟨gp,0,none⟩) 7 cp (pairV (x ++ q :: y))])) (h : s.Ok c) (hn : home < s.n) (hx : x.length = 4) (hy : y.length = 2) (hp : ∀ p ∈ x ++ q :: y,PairOk p)
  (h2 : 2 ≤ i) (hi : i < s.n) (hfree : hasB (s.v 1) i = false) (htak : ∀ j,2 ≤ j → j < i → hasB (s.v 1) j = true) :
  Calls Tryz.prog 152 #[.pointer (some ⟨g,0,none⟩),.pointer (some ⟨s.g,0,none⟩)] w fun e w' => ∃ gs,e = .returned (.tuple #[.pointer (some ⟨gs,0,none⟩),.nilIface]) ∧ ∃ s',s.To s' c (updV (updV (updV s.V 1 (turnB (s.v 1) i)) home (encLeaf x)) i (encLeaf (q :: y))) ∧
   BunTo w (ownL (s.L ++ [errA,nodeA g home true (.slice (some ⟨gp,0,none⟩) 7 cp) (.slice none 0 0) (.slice none 0 0),ownS 80 40 (some ⟨gp,0,none⟩) 7 cp (pairV (x ++ q :: y))])) (rdL (s.L ++ [errA,nodeA g home true (.slice (some ⟨gp,0,none⟩) 7 cp) (.slice none 0 0) (.slice none 0 0),ownS 80 40 (some ⟨gp,0,none⟩) 7 cp (pairV (x ++ q :: y))])) (s'.L ++ [errA,splitA gs q.k i]) w' := by
 have H := hb.open_
 obtain ⟨O,hO⟩ : ∃ O,ownL (s.L ++ [errA,nodeA g home true (.slice (some ⟨gp,0,none⟩) 7 cp) (.slice none 0 0) (.slice none 0 0),ownS 80 40 (some ⟨gp,0,none⟩) 7 cp (pairV (x ++ q :: y))]) = O := ⟨_,rfl⟩
 obtain ⟨R0,hR0⟩ : ∃ R,rdL (s.L ++ [errA,nodeA g home true (.slice (some ⟨gp,0,none⟩) 7 cp) (.slice none 0 0) (.slice none 0 0),ownS 80 40 (some ⟨gp,0,none⟩) 7 cp (pairV (x ++ q :: y))]) = R := ⟨_,rfl⟩
 rw [hO,hR0] at H ⊢
 have HO := Lib.hid h
 have HF := Lib.hid hfree
 have HTK := Lib.hid htak
 have HHN := Lib.hid hn
 have HI := Lib.hid hi
 have HI2 := Lib.hid h2
 have HX := Lib.hid hx
 have HY := Lib.hid hy
 have HP := Lib.hid hp
 have HVX := Lib.hid (show (pairV x).length = 160 by rw [pairV_len (fun p hpm => hp p (List.mem_append_left _ hpm)),hx])
 have HVQ := Lib.hid (show (pairV (q :: y)).length = 3 * 40 by rw [pairV_len (fun p hpm => hp p (List.mem_append_right _ hpm)),List.length_cons,hy])
 have HSP := Lib.hid (pairV_append x (q :: y))
 have HQ := Lib.hid (hp q (by simp))
 have HQV := Lib.hid (show ∀ j u,(byteV q.k)[j]? = some u → (pairV (q :: y))[j]? = some u by
  intro j u hu
  have e : pairV (q :: y) = byteV q.k ++ (byteV q.v ++ pairV y) := by simp [pairV,PairT.b,byteV]
  rw [e,List.getElem?_append_left (List.getElem?_eq_some_iff.1 hu).1];exact hu)
 have hcap : 7 ≤ cp := by
  rcases (H.at 9 rfl).2 with ⟨_,h0⟩ | ⟨_,_,_,e1,_,_,h3,_⟩
  ·omega
  ·cases e1;exact h3
 have hc1 : 7 ≤ (cp : Int) := by omega
 have hc2 : ¬ cp = 4 := by omega
 have hc3 : 4 ≤ (cp : Int) := by omega
 clear hb h hO hR0 hn hx hy hp hfree htak h2 hi hcap
 have hf := row_cell (H.at 8 rfl) (nRow1 _ _ _ _ _)
 go_enter Tryz.func152,Tryz.ntmps152
 go_upto_region 4 with (first
  | (go_at_call 169;go_loud ((refine (size_leaf (H.at 8 rfl)).mono ?_);rintro e W' ⟨rfl,rfl⟩))
  | (go_at_call 114;go_loud ((refine (fresh_ok (s := s) (H.take 8).bundle HO.out true i HI2.out HI.out HF.out HTK.out).mono ?_);rintro e W ⟨gm,rfl,s1,hs1,hto⟩;replace H := BunTo.front2 (Ls' := s1.L ++ [errA]) (E := [nodeA gm i true (.slice none 0 0) (.slice none 0 0) (.slice none 0 0)]) (R := [nodeA g home true (.slice (some ⟨gp,0,none⟩) 7 cp) (.slice none 0 0) (.slice none 0 0),ownS 80 40 (some ⟨gp,0,none⟩) 7 cp (pairV (x ++ q :: y))]) hto H;clear hto hf)))
 have hg1 : s1.g = s.g := hs1.g
 have HS1 := Lib.hid hs1
 rw [← hg1]
 clear hs1 hg1
 go_upto_region 7 with (first
  | (refine wpList_alloc_st H rfl 184 rfl _ zeroSplit ?_;clear H;intro W gs H))
 replace H : St O R0 w W (s1.L ++ [errA,nodeA g home true (.slice (some ⟨gp,0,none⟩) 7 cp) (.slice none 0 0) (.slice none 0 0),ownS 80 40 (some ⟨gp,0,none⟩) 7 cp (pairV (x ++ q :: y)),nodeA gm i true (.slice none 0 0) (.slice none 0 0) (.slice none 0 0),blk gs (.cells (List.replicate 32 (Value.int .u8 0) ++ [Value.int .i64 0]).toArray 184 (0,0))]) := H
 have hf := row_cell (H.at 10 rfl) (nRow0 _ _ _ _ _)
 go_upto_region 8 with (first
  | (refine wpList_store1_st H 11 rfl 3 _ _ rfl gs 32 (.int .i64 (i : Int)) (by rfl) (by rfl) rfl _ _ rfl size_int (by simp) ?_;clear H hf;intro W H))
 replace H : St O R0 w W (s1.L ++ [errA,nodeA g home true (.slice (some ⟨gp,0,none⟩) 7 cp) (.slice none 0 0) (.slice none 0 0),ownS 80 40 (some ⟨gp,0,none⟩) 7 cp (pairV (x ++ q :: y)),nodeA gm i true (.slice none 0 0) (.slice none 0 0) (.slice none 0 0),blk gs (.cells (List.replicate 32 (Value.int .u8 0) ++ [Value.int .i64 (i : Int)]).toArray 184 (0,0))]) := H
 have hf := row_cell (H.at 8 rfl) (nRow1 _ _ _ _ _)
 have hf2 := row_cell (H.at 8 rfl) (nRow2 _ _ _ _ _)
 go_upto_region 11 with (first
  | (go_at_call 181;go_loud ((refine (cloneP H 9 rfl ⟨gp,160,none⟩ 3 _ (pairV (q :: y)) (by omega) (by omega) HVQ.out (fun W hA j u hu => by { rw [Addr.add_lit];have h1 := rdB_mid (ownS_rd hA) 160 (pairV (q :: y)) (fun j v hv => by { rw [HSP.out,List.getElem?_append_right (by rw [HVX.out];omega),HVX.out,Nat.add_sub_cancel_left];exact hv }) j u hu;rw [Nat.zero_add] at h1;exact h1 }) (pairV_one _)).mono ?_);rintro e W ⟨gq,cq,rfl,H2⟩;clear H hf hf2;have H := H2;clear H2))
  | (refine wpList_store1_st H 10 rfl 76 _ _ rfl gm 2 (.slice (some ⟨gq,0,none⟩) 3 cq) (by rfl) (by rfl) rfl _ _ rfl size_slP (by simp [nRow]) ?_;clear H;intro W H))
 replace H : St O R0 w W (s1.L ++ [errA,nodeA g home true (.slice (some ⟨gp,0,none⟩) 7 cp) (.slice none 0 0) (.slice none 0 0),ownS 80 40 (some ⟨gp,0,none⟩) 7 cp (pairV (x ++ q :: y)),nodeA gm i true (.slice (some ⟨gq,0,none⟩) 3 cq) (.slice none 0 0) (.slice none 0 0),blk gs (.cells (List.replicate 32 (Value.int .u8 0) ++ [Value.int .i64 (i : Int)]).toArray 184 (0,0)),ownS 80 40 (some ⟨gq,0,none⟩) 3 cq (pairV (q :: y))]) := H
 have hf2 := row_cell (H.at 8 rfl) (nRow2 _ _ _ _ _)
 go_upto_region 12 with (first
  | (refine wpList_store1_st H 8 rfl 76 _ _ rfl g 2 (.slice (some ⟨gp,0,none⟩) 4 cp) (by rfl) (by rfl) rfl _ _ rfl size_slP (by simp [nRow]) ?_;clear H hf2;intro W H))
 replace H : St O R0 w W (s1.L ++ [errA,nodeA g home true (.slice (some ⟨gp,0,none⟩) 4 cp) (.slice none 0 0) (.slice none 0 0),ownS 80 40 (some ⟨gp,0,none⟩) 7 cp (pairV (x ++ q :: y)),nodeA gm i true (.slice (some ⟨gq,0,none⟩) 3 cq) (.slice none 0 0) (.slice none 0 0),blk gs (.cells (List.replicate 32 (Value.int .u8 0) ++ [Value.int .i64 (i : Int)]).toArray 184 (0,0)),ownS 80 40 (some ⟨gq,0,none⟩) 3 cq (pairV (q :: y))]) := H
 have hf2 := row_cell (H.at 10 rfl) (nRow2 _ _ _ _ _)
 go_upto_region 17 with (first
  | (refine wpList_load_cells rfl 67 _ rfl ⟨gq,0,none⟩ rfl _ Tryz.underlying67 rfl (byteV q.k) (by rw [sizeK,byteV_length,HQ.out.k]) (fun j u hu => by { rw [Addr.add_lit];exact rdA_cell (ownS_rd (H.at 12 rfl)) (HQV.out j u hu) }) ?_)
  | (refine wpList_storemid_st H 11 rfl 67 _ _ rfl gs 0 (byteV q.k) rfl rfl _ _ rfl (by rw [sizeK,byteV_length,HQ.out.k]) (by rw [byteV_length,HQ.out.k];simp) (byteV_one _) ?_;clear H hf2;intro W H))
 replace H : St O R0 w W (s1.L ++ [errA,nodeA g home true (.slice (some ⟨gp,0,none⟩) 4 cp) (.slice none 0 0) (.slice none 0 0),ownS 80 40 (some ⟨gp,0,none⟩) 7 cp (pairV (x ++ q :: y)),nodeA gm i true (.slice (some ⟨gq,0,none⟩) 3 cq) (.slice none 0 0) (.slice none 0 0),blk gs (.cells ((List.replicate 32 (Value.int .u8 0) ++ [Value.int .i64 (i : Int)]).take 0 ++ byteV q.k ++ (List.replicate 32 (Value.int .u8 0) ++ [Value.int .i64 (i : Int)]).drop (0 + (byteV q.k).length)).toArray 184 (0,0)),ownS 80 40 (some ⟨gq,0,none⟩) 3 cq (pairV (q :: y))]) := H
 rw [split_key q.k HQ.out.k] at H
 replace H := H.recast 8 (A' := nodeA g home true (.slice (some ⟨gp,0,none⟩) x.length cp) (.slice none 0 0) (.slice none 0 0)) rfl (fun h => by rw [HX.out];exact h) (fun k hk => hk) (fun k hk => hk.elim)
 replace H := H.recast 10 (A' := nodeA gm i true (.slice (some ⟨gq,0,none⟩) (q :: y).length cq) (.slice none 0 0) (.slice none 0 0)) rfl (fun h => by rw [List.length_cons,HY.out];exact h) (fun k hk => hk) (fun k hk => hk.elim)
 replace H := (H.rdOf 9 rfl).rdOf 12 rfl
 replace H := H.recast 9 (A' := rdA (some ⟨gp,0,none⟩) (pairV x)) rfl (fun h => rdB_pre (ys := pairV (q :: y)) (by rw [← HSP.out];exact h)) (fun k hk => hk.elim) (fun k ⟨_,hk⟩ => .inr ⟨fun e => by have h1 := congrArg List.length e;rw [HSP.out,List.length_append,HVX.out] at h1;simp at h1,hk⟩)
 replace H : St O R0 w W ((s1.L ++ [errA,nodeA gm i true (.slice (some ⟨gq,0,none⟩) (q :: y).length cq) (.slice none 0 0) (.slice none 0 0),splitA gs q.k i,rdA (some ⟨gq,0,none⟩) (pairV (q :: y))]) ++ NodeT.Ls ⟨g,home,.leaf (some ⟨gp,0,none⟩) cp x⟩) := (H.pull 8 rfl).pull 8 rfl
 replace H := H.rebun
 replace H : St O R0 w W ((s1.L ++ [errA,splitA gs q.k i,NodeT.A ⟨g,home,.leaf (some ⟨gp,0,none⟩) cp x⟩]) ++ NodeT.Ls ⟨gm,i,.leaf (some ⟨gq,0,none⟩) cq (q :: y)⟩) := (H.pull 8 rfl).pull 9 rfl
 replace H := H.rebun
 replace H : St O R0 w W (s1.L ++ [errA,splitA gs q.k i,NodeT.A ⟨g,home,.leaf (some ⟨gp,0,none⟩) cp x⟩,NodeT.A ⟨gm,i,.leaf (some ⟨gq,0,none⟩) cq (q :: y)⟩]) := H
 go_wp2_with (first
  | ((refine wpList_buildslice_st H rfl 227 145 _ _ rfl Tryz.underlying227 _ size_ptrN _ zero_ptrN (by decide) (by decide) [(0,.pointer (some ⟨g,0,none⟩)),(1,.pointer (some ⟨gm,0,none⟩))] (by simp [Act.eval]) #[.pointer (some ⟨g,0,none⟩),.pointer (some ⟨gm,0,none⟩)] (fill_ptr2 _ _) ?_);go_loud (clear H;intro W gl H;replace H := H.recast 11 (A' := rdA (some ⟨gl,0,none⟩) (ptrV [⟨g,home,.leaf (some ⟨gp,0,none⟩) cp x⟩,⟨gm,i,.leaf (some ⟨gq,0,none⟩) cq (q :: y)⟩])) rfl (fun h => rdB_of_row h) (fun k hk => hk.elim) (fun k ⟨_,ad,e,hk⟩ => by { cases e;exact .inl hk });replace H : St O R0 w W ((s1.L ++ (rdA (some ⟨gl,0,none⟩) (ptrV [⟨g,home,.leaf (some ⟨gp,0,none⟩) cp x⟩,⟨gm,i,.leaf (some ⟨gq,0,none⟩) cq (q :: y)⟩]) :: ([⟨g,home,.leaf (some ⟨gp,0,none⟩) cp x⟩,⟨gm,i,.leaf (some ⟨gq,0,none⟩) cq (q :: y)⟩] : List NodeT).map NodeT.A)) ++ [errA,splitA gs q.k i]) := (((H.pull 9 rfl).pull 9 rfl).pull 7 rfl).pull 7 rfl))
  | (go_at_call 115;go_loud ((refine (saves_calls (s := s1) (n := 2) (Ns := [⟨g,home,.leaf (some ⟨gp,0,none⟩) cp x⟩,⟨gm,i,.leaf (some ⟨gq,0,none⟩) cq (q :: y)⟩]) H.left.bundle HS1.out.ok rfl (by omega) (fun N hN => by { have hn1 := HS1.out.n;rcases List.mem_cons.1 hN with rfl | hN;exact ⟨by rw [hn1];exact HHN.out,fun p hpm => HP.out p (List.mem_append_left _ hpm),by rw [HX.out];omega⟩;rw [List.mem_singleton.1 hN];exact ⟨by rw [hn1];exact HI.out,fun p hpm => HP.out p (List.mem_append_right _ hpm),by rw [List.length_cons,HY.out];omega⟩ })).mono ?_);rintro e W ⟨rfl,s',hs',hto⟩;replace H := hto.front H;clear hto)))
 refine bodyPost_ret (results_tmp2 rfl _ _ _) rfl ?_
 refine ⟨gs,rfl,s',⟨hs'.ok,hs'.t.trans HS1.out.t,hs'.g.trans HS1.out.g,hs'.gl.trans HS1.out.gl,fun k hk => ?_⟩,St.bunTo ((((H.pull 7 rfl).pull 7 rfl).pull 7 rfl).take 9)⟩
 rw [hs'.V k (by rw [HS1.out.n];exact hk)]
 show updV (updV s1.V home (encLeaf x)) i (encLeaf (q :: y)) k = _
 unfold updV
 rw [HS1.out.V k hk]
 rfl
end Go.Proofs.YtlgciddnpinpbaaGreatDoor
