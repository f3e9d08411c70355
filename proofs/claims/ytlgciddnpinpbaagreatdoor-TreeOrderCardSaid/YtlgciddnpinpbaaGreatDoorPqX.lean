/- Texts of this proof, packed. -/
import Derived.Test.YtlgciddnpinpbaaGreatDoorPkBase4
import Derived.Test.YtlgciddnpinpbaaGreatDoorPqA
import Derived.Test.YtlgciddnpinpbaaGreatDoorPqB
import Derived.Test.YtlgciddnpinpbaaGreatDoorPqC
import Derived.Test.YtlgciddnpinpbaaGreatDoorPqI
import Derived.Test.YtlgciddnpinpbaaGreatDoorPqK
import Derived.Test.YtlgciddnpinpbaaGreatDoorPqQ
import Derived.Test.YtlgciddnpinpbaaGreatDoorPqS
import Derived.Test.YtlgciddnpinpbaaGreatDoorPqU
import Derived.Test.YtlgciddnpinpbaaGreatDoorPqW
set_option linter.unusedSimpArgs false
set_option linter.unusedVariables false
namespace Go.Proofs.YtlgciddnpinpbaaGreatDoor
open Go.RowKit
set_option maxRecDepth 40000
def keyN (n : Nat) : List UInt8 := UInt8.ofNat (n / 256) :: (List.replicate 30 0 ++ [UInt8.ofNat n])
theorem keyN_len (n : Nat) : (keyN n).length = 32 := by simp [keyN]
theorem kn_zeros : ∀ (k : Nat) (l : List UInt8),kn (List.replicate k 0 ++ l) = kn l
 | 0,l => by simp
 | k + 1,l => by
  rw [List.replicate_succ,List.cons_append,kn,kn_zeros k l]
  simp
theorem kn_keyN (n : Nat) (h : n < 65536) : kn (keyN n) = n / 256 * 256 ^ 31 + n % 256 := by
 rw [keyN,kn,kn_zeros]
 have h1 : (UInt8.ofNat (n / 256)).toNat = n / 256 := by rw [UInt8.toNat_ofNat'];omega
 have h2 : (UInt8.ofNat n).toNat = n % 256 := by rw [UInt8.toNat_ofNat']
 rw [h1]
 simp [kn,h2]
theorem keyN_lt {n m : Nat} (hn : n < 65536) (hm : m < 65536) : kn (keyN n) < kn (keyN m) ↔ n < m := by
 rw [kn_keyN n hn,kn_keyN m hm]
 have : (256 : Nat) ^ 31 = 256 ^ 30 * 256 := rfl
 obtain ⟨B,hB⟩ : ∃ B,(256 : Nat) ^ 31 = B := ⟨_,rfl⟩
 have hB2 : 256 ≤ B := by rw [← hB];decide
 rw [hB]
 constructor
 ·intro h
  rcases Nat.lt_or_ge n m with h1 | h1
  ·exact h1
  ·exfalso
   have h2 : m / 256 ≤ n / 256 := Nat.div_le_div_right h1
   rcases Nat.eq_or_lt_of_le h2 with h3 | h3
   ·rw [h3] at h;omega
   ·have := Nat.mul_le_mul_right B (show m / 256 + 1 ≤ n / 256 from h3)
    rw [Nat.succ_mul] at this
    have := Nat.mod_lt m (show 0 < 256 by omega)
    omega
 ·intro h
  have h2 : n / 256 ≤ m / 256 := Nat.div_le_div_right (Nat.le_of_lt h)
  rcases Nat.eq_or_lt_of_le h2 with h3 | h3
  ·rw [h3];omega
  ·have := Nat.mul_le_mul_right B (show n / 256 + 1 ≤ m / 256 from h3)
   rw [Nat.succ_mul] at this
   have := Nat.mod_lt n (show 0 < 256 by omega)
   omega
theorem keyN_eq {n m : Nat} (hn : n < 65536) (hm : m < 65536) : kn (keyN n) = kn (keyN m) ↔ n = m := by
 constructor
 ·intro h
  rcases Nat.lt_trichotomy n m with h1 | h1 | h1
  ·have := (keyN_lt hn hm).2 h1;omega
  ·exact h1
  ·have := (keyN_lt hm hn).2 h1;omega
 ·rintro rfl;rfl
def valN (n : Nat) : List UInt8 := [UInt8.ofNat n,UInt8.ofNat (n / 256),7,0,0,0,0,0]
theorem key_row (n : Nat) : ((List.replicate 32 (Value.int .u8 0)).toArray.setIfInBounds 0 (.int .u8 ((UInt8.ofNat (n / 256)).toNat : Int))).setIfInBounds 31 (.int .u8 ((UInt8.ofNat n).toNat : Int)) = (byteV (keyN n)).toArray := by
 have e : (List.replicate 32 (Value.int .u8 0)) = byteV (List.replicate 32 0) := by simp [byteV]
 rw [e,byteV_set,byteV_set]
 rfl
set_option maxHeartbeats 4000000 in
theorem key21_calls (n : Nat) (hn : n < 65536) (z : Int) (hz : (n : Int) = z) (w : World) : Calls Tryz.prog 41 #[.int .u16 z] w fun e w' => e = .returned (arrV (keyN n)) ∧ Below w.heap.size w w' := by
 subst hz
 have H := St.nil NoBlk NoBlk w
 have HN := Lib.hid hn
 have hn0 : 0 ≤ (n : Int) := by omega
 have hn9 : (n : Int) ≤ 65535 := by omega
 have h1 : IntKind.u8.wrap ((n : Int) / 256) = ((UInt8.ofNat (n / 256)).toNat : Int) := by rw [IntKind.wrap_u8,UInt8.toNat_ofNat'];omega
 have h2 : IntKind.u8.wrap (n : Int) = ((UInt8.ofNat n).toNat : Int) := by rw [IntKind.wrap_u8,UInt8.toNat_ofNat'];omega
 have tok1 : True := trivial
 have tok2 : True := trivial
 clear hn
 go_enter Tryz.func41,Tryz.ntmps41
 go_upto_region 3 with (first
  | (have _t := tok1;clear _t;refine wpList_alloc_st H rfl 67 rfl _ zeroK ?_;clear H tok1;intro W g1 H)
  | (have _t := tok2;clear _t;refine wpList_alloc_st H rfl 67 rfl _ zeroK ?_;clear H tok2;intro W g2 H)
  | (refine wpList_store1_st H 1 rfl 5 _ _ rfl g2 0 (.int .u8 ((UInt8.ofNat (n / 256)).toNat : Int)) (by rfl) (by rfl) rfl _ _ rfl size_u8 (by first | (simp;done) | (show 0 < 32;omega) | (show 31 < 32;omega)) ?_;clear H;intro W H)
  | (refine wpList_store1_st H 1 rfl 5 _ _ rfl g2 31 (.int .u8 ((UInt8.ofNat n).toNat : Int)) (by rfl) (by rfl) rfl _ _ rfl size_u8 (by first | (simp;done) | (show 0 < 32;omega) | (show 31 < 32;omega)) ?_;clear H;intro W H))
 replace H : St NoBlk NoBlk w W [blk g1 (.cells (List.replicate 32 (Value.int .u8 0)).toArray 67 (0,0)),blk g2 (.cells (((List.replicate 32 (Value.int .u8 0)).toArray.setIfInBounds 0 (.int .u8 ((UInt8.ofNat (n / 256)).toNat : Int))).setIfInBounds 31 (.int .u8 ((UInt8.ofNat n).toNat : Int))) 67 (0,0))] := H
 rw [key_row] at H
 go_wp2_with (first
  | (refine wpList_loadrow_st rfl 67 _ rfl g2 rfl _ _ _ (H.at 1 rfl) _ Tryz.underlying67 rfl (size_key32 _ (keyN_len n)) ?_)
  | (refine wpList_storerow_st H 0 rfl 67 _ _ rfl g1 (byteV (keyN n)).toArray rfl rfl _ _ rfl (size_key32 _ (keyN_len n)) (by simp [byteV_length,keyN_len]) (byteV_all _) ?_;clear H;intro W H))
 refine bodyPost_ret (results_cell_row rfl _ _ g1 _ _ _ _ rfl (H.at 0 rfl) Tryz.underlying67 rfl (size_key32 _ (keyN_len n))) rfl ?_
 exact ⟨rfl,H.fix.below⟩
theorem wpList_buildvs {P : Program} {ops : Array Oper} {Q : Exit → Act → World → Prop} {rest : List Oper} {o : Oper} {a : Act} {W : World} (hwt : Region.wanted o (yielded ops a.tmps) = true) (T : TypeId) (parts : Array (Nat × Operand)) (ho : o.op = .build T parts)
  (vs : List (Nat × Value)) (hv : (parts.map fun (i,x) => (i,a.eval x)).toList = vs) (cs : Array Value) (hb : P.built T vs = some cs)
  (h : wpList P ops Q rest (a.put o.dst (.agg cs)) W) : wpList P ops Q (o :: rest) a W := by
 subst hv
 refine wpList_want hwt fun K hK => ?_
 exact wp_build (P := P) (o := o) (a := a) (w := W) (K := K) (Q := Q) T parts ho (by rw [hb];rfl) (by rw [hb];exact hK _ _ h)
theorem built_val (x y : UInt8) : Tryz.prog.built 69 [(0,.int .u8 (x.toNat : Int)),(1,.int .u8 (y.toNat : Int)),(2,.int .u8 7)] = some (byteV [x,y,7,0,0,0,0,0]).toArray := by kernel_rfl
theorem zeroV : (Tryz.prog.info? 69).bind (·.zero) = some (.agg (List.replicate 8 (Value.int .u8 0)).toArray) := by kernel_rfl
theorem valN_len (n : Nat) : (valN n).length = 8 := rfl
set_option maxHeartbeats 4000000 in
theorem val21_calls (n : Nat) (hn : n < 65536) (z : Int) (hz : (n : Int) = z) (w : World) : Calls Tryz.prog 42 #[.int .i64 z] w fun e w' => e = .returned (arrV (valN n)) ∧ Below w.heap.size w w' := by
 subst hz
 have H := St.nil NoBlk NoBlk w
 have HN := Lib.hid hn
 have hn0 : 0 ≤ (n : Int) := by omega
 have hn9 : (n : Int) ≤ 65535 := by omega
 have h1 : IntKind.u8.wrap ((n : Int) / 256) = ((UInt8.ofNat (n / 256)).toNat : Int) := by rw [IntKind.wrap_u8,UInt8.toNat_ofNat'];omega
 have h2 : IntKind.u8.wrap (n : Int) = ((UInt8.ofNat n).toNat : Int) := by rw [IntKind.wrap_u8,UInt8.toNat_ofNat'];omega
 clear hn
 go_enter Tryz.func42,Tryz.ntmps42
 go_wp2_with (first
  | (refine wpList_alloc_st H rfl 69 rfl _ zeroV ?_;clear H;intro W g1 H)
  | (refine wpList_buildvs rfl 69 _ rfl [(0,.int .u8 ((UInt8.ofNat n).toNat : Int)),(1,.int .u8 ((UInt8.ofNat (n / 256)).toNat : Int)),(2,.int .u8 7)] (by simp [Act.eval]) _ (built_val _ _) ?_)
  | (refine wpList_storerow_st H 0 rfl 69 _ _ rfl g1 (byteV (valN n)).toArray rfl rfl _ _ rfl (size_val8 _ (valN_len n)) (by rfl) (byteV_all _) ?_;clear H;intro W H))
 refine bodyPost_ret (results_cell_row rfl _ _ g1 _ _ _ _ rfl (H.at 0 rfl) Tryz.underlying69 rfl (size_val8 _ (valN_len n))) rfl ?_
 exact ⟨rfl,H.fix.below⟩
end Go.Proofs.YtlgciddnpinpbaaGreatDoor
namespace Go.Proofs.YtlgciddnpinpbaaGreatDoor
open Go.RowKit
set_option maxRecDepth 40000
theorem Root.count {s : TX} {r : Nat} {hs : List Nat} {ps : List PairT} (R : Root s r hs ps) : hs.length ≤ ps.length := by
 rcases R.is with ⟨_,rfl,rfl⟩ | ⟨d,sz,h1,T⟩
 ·exact Nat.le_refl _
 ·exact T.lies.count1 h1
structure Grove (s : TX) (n r : Nat) (hs : List Nat) (ps : List PairT) : Prop where
 ok : s.Ok 0
 cnt : s.n = n
 R : Root s r hs ps
 left : leftOf (s.v 1) n + hs.length + 2 = n
theorem Grove.start {s : TX} {n : Nat} (h : NewSpace s n) (h2 : 2 ≤ n) : Grove s n 0 [] [] :=
 ⟨h.ok,h.cnt,⟨.inl ⟨rfl,rfl,rfl⟩⟩,by rw [h.v1,leftOf_new n h2];simp;omega⟩
theorem put_grove {w : World} {s : TX} {n r : Nat} {hs : List Nat} {ps : List PairT} {k v : List UInt8} (hb : Bundle w (s.L ++ [errA])) (G : Grove s n r hs ps) (hk : k.length = 32) (hv : v.length = 8) (hroom : ps.length + 9 < n) (z : Int) (hz : (r : Int) = z) :
  Calls Tryz.prog 40 #[.pointer (some ⟨s.g,0,none⟩),.int .u32 z,arrV k,arrV v] w fun e w' => ∃ (r' : Nat) (hs' : List Nat) (s' : TX) (ws : List Nat),e = .returned (.tuple #[.int .u32 (r' : Int),.int .i64 0]) ∧ Grove s' n r' hs' (ins ⟨k,v⟩ ps) ∧ r' ≠ 0 ∧ Moves s s' 0 hs hs' ws ∧ ws.length ≤ 23 ∧ BunTo w (ownL (s.L ++ [errA])) (rdL (s.L ++ [errA])) (s'.L ++ [errA]) w' := by
 refine (Put_calls (c := 0) hb G.ok G.R hk hv z hz).mono fun e w' h => ?_
 rcases h with ⟨r',hs',s',ws,rfl,R',h0,m,hl,hto⟩ | ⟨s',rfl,hl,_⟩
 ·have hn := G.cnt
  refine ⟨r',hs',s',ws,rfl,⟨m.ok,by rw [m.n,hn],R',?_⟩,h0,m,hl,hto⟩
  have h1 := m.left
  have h2 := G.left
  rw [hn] at h1
  omega
 ·exfalso
  have h1 := G.left
  have h2 := G.R.count
  rw [G.cnt] at hl
  omega
theorem ins_last {p : PairT} {l : List PairT} (h : ∀ q ∈ l,q.n < p.n) : ins p l = l ++ [p] := by
 have e1 : l.filter (fun q => decide (q.n < p.n)) = l := List.filter_eq_self.2 fun q hq => decide_eq_true (h q hq)
 have e2 : l.filter (fun q => decide (p.n < q.n)) = [] := List.filter_eq_nil_iff.2 fun q hq => by have := h q hq;simp only [decide_eq_true_eq];omega
 rw [ins,e1,e2]
def pairN (n i : Nat) : PairT := ⟨keyN n,valN i⟩
theorem pairN_n (n i : Nat) : (pairN n i).n = kn (keyN n) := rfl
def laid (k : Nat) : List PairT := (List.range k).map fun i => pairN i i
theorem laid_len (k : Nat) : (laid k).length = k := by simp [laid]
theorem laid_ins (k : Nat) (h : k < 65535) : ins ⟨keyN k,valN k⟩ (laid k) = laid (k + 1) := by
 have e : ins (pairN k k) (laid k) = laid (k + 1) := by
  rw [ins_last,laid,laid,List.range_succ,List.map_append];· rfl
  intro q hq
  obtain ⟨i,hi,rfl⟩ := List.mem_map.1 hq
  have hi := List.mem_range.1 hi
  rw [pairN_n,pairN_n]
  exact (keyN_lt (by omega) (by omega)).2 hi
 exact e
theorem depth_seven {s : TX} {r : Nat} {hs : List Nat} {ps : List PairT} {D : Nat} (h : DepthIs s r hs ps D) (h7 : ps.length = 7) : D = 2 := by
 rcases h with ⟨_,_,rfl,_⟩ | ⟨d,sz,h1,T,rfl⟩
 ·simp at h7
 ·obtain ⟨f,f1,f2,f3,f4,_⟩ := T.lies.floors1 d h1
  match d,T,f1,f2,f3,f4 with
  | 0,T,_,_,_,_ => obtain ⟨_,_,h1,h2,_⟩ := T.lies;omega
  | 1,_,_,_,_,_ => rfl
  | d + 2,_,f1,f2,f3,f4 =>
   have a : 3 * f 0 ≤ ps.length := f3 (by omega)
   have b : 4 * f 1 ≤ f 0 := f4 0 (by omega)
   have c : 2 ≤ f 1 := f2 1 (by omega)
   omega
set_option maxHeartbeats 4000000 in
theorem begun21_calls (w : World) (hg : errA.prop w) : Calls Tryz.prog 39 #[] w fun e w' => e = .returned (.bool true) ∧ Below w.heap.size w w' := by
 have H := St.err hg
 clear hg
 go_enter Tryz.func39,Tryz.ntmps39
 go_upto_region 6 with (first
  | (go_at_call 29;go_loud ((refine (new21_calls H _ 100 74 rfl rfl (by omega) (by omega)).mono ?_);clear H;rintro e W ⟨s,rfl,hnew,H⟩;have HS := Lib.hid (Grove.start hnew (by omega));clear hnew)))
 obtain ⟨g0,hg0⟩ : ∃ g,s.g = g := ⟨_,rfl⟩
 rw [hg0]
 go_loopw [2,3] (fun rt u wr => ∃ (i r : Nat) (hs : List Nat) (s : TX),rt = .int .u32 (r : Int) ∧ u = .int .i64 (i : Int) ∧ i ≤ 7 ∧ Hid (Grove s 74 r hs (laid i)) ∧ s.g = g0 ∧ St NoBlk (fun _ => True) w wr (s.L ++ [errA])) (fun _ u _ => 7 - (intOf u).toNat)
 case atStart => exact ⟨0,0,[],s,rfl,rfl,by omega,HS,hg0,H⟩
 case round =>
  clear H HS hg0
  obtain ⟨i,r,hs,s1,rfl,rfl,hi,HG,hg1,H⟩ := hrel
  clear s
  have hi0 : 0 ≤ (i : Int) := by omega
  subst hg1
  rcases Nat.lt_or_ge i 7 with hlt | hge
  ·have hii : (i : Int) < 7 := by omega
   have HI := Lib.hid hlt
   clear hi hlt
   go_wp2_with (first
    | (go_at_call 41;go_loud ((refine (key21_calls i (by have := HI.out;omega) _ (by first | rfl | omega) _).mono ?_);rintro e W ⟨rfl,hb⟩;replace H := H.stay (Fix.of_below hb _);clear hb))
    | (go_at_call 42;go_loud ((refine (val21_calls i (by have := HI.out;omega) _ (by first | rfl | omega) _).mono ?_);rintro e W ⟨rfl,hb⟩;replace H := H.stay (Fix.of_below hb _);clear hb))
    | (go_at_call 40;go_loud ((refine (put_grove H.bundle HG.out (keyN_len i) (valN_len i) (by rw [laid_len];have := HI.out;omega) _ rfl).mono ?_);rintro e W ⟨r',hs',s',ws,rfl,hgr,h0,hm,hws,hto⟩;rw [laid_ins i (by have := HI.out;omega)] at hgr;replace H := hto.front (R := []) (by rw [List.append_nil];exact H);rw [List.append_nil] at H;have HG' := Lib.hid hgr;have HM := Lib.hid hm;clear hto hgr h0 hm hws)))
   go_roundw
   case rel => exact ⟨i + 1,r',hs',s',rfl,congrArg _ (by omega),HI.out,HG',HM.out.g,H⟩
   case measure => have := HI.out;simp [intOf];omega
  ·obtain rfl : i = 7 := by omega
   clear hi hge hi0
   go_wp2_with (first
    | (go_at_call 55;go_loud ((refine (Len_calls (c := 0) (H.take 7).bundle HG.out.ok HG.out.R _ rfl).mono ?_);rintro e W ⟨rfl,hto⟩;rw [laid_len];replace H := hto.front (R := [errA]) H;clear hto))
    | (go_at_call 43;go_loud ((refine (Depth_calls (c := 0) (H.take 7).bundle HG.out.ok HG.out.R _ rfl).mono ?_);rintro e W ⟨D,hD,rfl,hto⟩;obtain rfl := depth_seven hD (laid_len 7);replace H := hto.front (R := [errA]) H;clear hto hD)))
   go_ret
   exact ⟨rfl,H.fix.below⟩
end Go.Proofs.YtlgciddnpinpbaaGreatDoor
