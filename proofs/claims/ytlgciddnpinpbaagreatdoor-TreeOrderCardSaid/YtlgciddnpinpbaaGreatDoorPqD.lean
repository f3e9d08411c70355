/- Texts of this proof, packed. -/
import Derived.Test.YtlgciddnpinpbaaGreatDoorPkBase4
import Derived.Test.YtlgciddnpinpbaaGreatDoorPqA
import Derived.Test.YtlgciddnpinpbaaGreatDoorPqR
import Derived.Test.YtlgciddnpinpbaaGreatDoorPqB
import Derived.Test.YtlgciddnpinpbaaGreatDoorPqC
set_option linter.unusedSimpArgs false
set_option linter.unusedVariables false
namespace Go.Proofs.YtlgciddnpinpbaaGreatDoor
open Go.RowKit
set_option maxRecDepth 40000
theorem tnum_calls (g off n cap : Nat) (l : List UInt8) (z : Int) (at_ : Nat) (hz : (at_ : Int) = z) (w : World) (hb : BytesAt w g off l) (hn : l.length = n) (hl : at_ + 4 ≤ n) (hc : n ≤ cap) (hm : n ≤ 1048576) :
  Calls Tryz.prog 126 #[.slice (some ⟨g,off,none⟩) n cap,.int .i64 z] w fun e w' => e = .returned (.int .i64 (le l at_ 4 : Int)) ∧ w = w' := by
 subst hz
 have HT := Lib.hid (take4 g off cap l at_ w hb (by omega) (by omega) (by omega))
 have hv : Lib.leNat ((l.drop at_).take 4) < 4294967296 := by
  have := leNat_lt' ((l.drop at_).take 4)
  rw [List.length_take,List.length_drop,show min 4 (l.length - at_) = 4 by omega] at this
  simpa using this
 obtain ⟨v,hv'⟩ : ∃ v,Lib.leNat ((l.drop at_).take 4) = v := ⟨_,rfl⟩
 have HV := Lib.hid hv'
 rw [hv'] at hv
 have hvi : (v : Int) < 4294967296 := by omega
 have hv0 : 0 ≤ (v : Int) := by omega
 have HL := Lib.hid hn
 clear hb hv' hv hl hc hm
 go_enter Tryz.func126,Tryz.ntmps126
 go_wp2_with (first
  | (go_at_call 109;go_loud ((rw [← HL.out];refine HT.out.mono ?_);rintro e W' ⟨rfl,rfl⟩;rw [HV.out])))
 go_ret
 exact ⟨by rw [show le l at_ 4 = v from HV.out];rfl,rfl⟩
def pairV (ps : List PairT) : List Value := ps.flatMap fun p => byteV p.b
def keyV (ks : List (List UInt8)) : List Value := ks.flatMap byteV
theorem pairV_one (ps : List PairT) : ∀ u ∈ pairV ps,u.oneCell' = true := fun u hu => by
 obtain ⟨p,_,h⟩ := List.mem_flatMap.1 hu
 exact byteV_one _ u h
theorem keyV_one (ks : List (List UInt8)) : ∀ u ∈ keyV ks,u.oneCell' = true := fun u hu => by
 obtain ⟨p,_,h⟩ := List.mem_flatMap.1 hu
 exact byteV_one _ u h
theorem intsV_one (hs : List Nat) : ∀ u ∈ intsV hs,u.oneCell' = true := fun u hu => by
 obtain ⟨p,_,rfl⟩ := List.mem_map.1 hu
 rfl
theorem PairOk.len {p : PairT} (h : PairOk p) : p.b.length = 40 := by simp [PairT.b,h.k,h.v]
theorem pairV_len : ∀ {ps : List PairT},(∀ p ∈ ps,PairOk p) → (pairV ps).length = ps.length * 40
 | [],_ => rfl
 | p :: ps,h => by
  have ih := pairV_len (fun q hq => h q (List.mem_cons_of_mem _ hq))
  have h1 := (h p (List.mem_cons_self ..)).len
  simp only [pairV,List.flatMap_cons,List.length_append,byteV_length,List.length_cons] at ih ⊢
  omega
theorem keyV_len : ∀ {ks : List (List UInt8)},(∀ k ∈ ks,k.length = 32) → (keyV ks).length = ks.length * 32
 | [],_ => rfl
 | p :: ps,h => by
  have ih := keyV_len (fun q hq => h q (List.mem_cons_of_mem _ hq))
  have h1 := h p (List.mem_cons_self ..)
  simp only [keyV,List.flatMap_cons,List.length_append,byteV_length,List.length_cons] at ih ⊢
  omega
theorem pairV_append (a b : List PairT) : pairV (a ++ b) = pairV a ++ pairV b := by simp [pairV]
theorem keyV_append (a b : List (List UInt8)) : keyV (a ++ b) = keyV a ++ keyV b := by simp [keyV]
theorem intsV_append (a b : List Nat) : intsV (a ++ b) = intsV a ++ intsV b := by simp [intsV]
def nRow (home : Nat) (leaf : Bool) (a b c : Value) : List Value := [.int .i64 (home : Int),.bool leaf,a,b,c]
theorem nRow0 (h : Nat) (l : Bool) (a b c : Value) : (nRow h l a b c).toArray[0]? = some (.int .i64 (h : Int)) := rfl
theorem nRow1 (h : Nat) (l : Bool) (a b c : Value) : (nRow h l a b c).toArray[1]? = some (.bool l) := rfl
theorem nRow2 (h : Nat) (l : Bool) (a b c : Value) : (nRow h l a b c).toArray[2]? = some a := rfl
theorem nRow3 (h : Nat) (l : Bool) (a b c : Value) : (nRow h l a b c).toArray[3]? = some b := rfl
theorem nRow4 (h : Nat) (l : Bool) (a b c : Value) : (nRow h l a b c).toArray[4]? = some c := rfl
theorem nSet2 (h : Nat) (l : Bool) (a b c v : Value) : (nRow h l a b c).toArray.setIfInBounds 2 v = (nRow h l v b c).toArray := rfl
theorem nSet3 (h : Nat) (l : Bool) (a b c v : Value) : (nRow h l a b c).toArray.setIfInBounds 3 v = (nRow h l a v c).toArray := rfl
theorem nSet4 (h : Nat) (l : Bool) (a b c v : Value) : (nRow h l a b c).toArray.setIfInBounds 4 v = (nRow h l a b v).toArray := rfl
def nodeA (g home : Nat) (leaf : Bool) (a b c : Value) : Asrt := blk g (.cells (nRow home leaf a b c).toArray 149 (0,0))
theorem size_slP : (Tryz.prog.info? 76).map (·.size) = some 1 := by kernel_rfl
theorem size_slK : (Tryz.prog.info? 147).map (·.size) = some 1 := by kernel_rfl
theorem size_slI : (Tryz.prog.info? 72).map (·.size) = some 1 := by kernel_rfl
theorem size_leaf {w : World} {g home n cap : Nat} {p : Option Addr} {b c : Value} (h : (nodeA g home true (.slice p n cap) b c).prop w) :
  Calls Tryz.prog 169 #[.pointer (some ⟨g,0,none⟩)] w fun e w' => e = .returned (.int .i64 (n : Int)) ∧ w = w' := by
 have h1 := row_cell h (nRow1 _ _ _ _ _)
 have h2 := row_cell h (nRow2 _ _ _ _ _)
 clear h
 go_enter Tryz.func169,Tryz.ntmps169
 go_wp2
 go_ret
 exact ⟨rfl,rfl⟩
theorem size_inner {w : World} {g home n cap : Nat} {p : Option Addr} {a c : Value} (h : (nodeA g home false a (.slice p n cap) c).prop w) :
  Calls Tryz.prog 169 #[.pointer (some ⟨g,0,none⟩)] w fun e w' => e = .returned (.int .i64 (n : Int)) ∧ w = w' := by
 have h1 := row_cell h (nRow1 _ _ _ _ _)
 have h2 := row_cell h (nRow3 _ _ _ _ _)
 clear h
 go_enter Tryz.func169,Tryz.ntmps169
 go_wp2
 go_ret
 exact ⟨rfl,rfl⟩
theorem foldl_lay {α : Type} : ∀ (l : List α) (s : Nat) (base : List α),s + l.length ≤ base.length → (l.zipIdx s).foldl (fun (acc : Array α) p => acc.setIfInBounds p.2 p.1) base.toArray = (base.take s ++ l ++ base.drop (s + l.length)).toArray
 | [],s,base,h => by simp
 | x :: l,s,base,h => by
  rw [List.zipIdx_cons,List.foldl_cons,List.setIfInBounds_toArray,foldl_lay l (s + 1) (base.set s x) (by simp at h ⊢;omega)]
  congr 1
  simp at h
  have h1 : (base.set s x).take (s + 1) = base.take s ++ [x] := by
   rw [List.take_add_one,List.getElem?_set_self (by omega),List.take_set_of_le (Nat.le_refl _)];rfl
  have h2 : (base.set s x).drop (s + 1 + l.length) = base.drop (s + (l.length + 1)) := by
   rw [List.drop_set_of_lt (by omega)];congr 1;omega
  rw [h1,h2];simp
theorem fill_one (k : Nat) (l : List Value) (base : Array Value) (hb : base.size = 1 * k) (hl : l.length = k) : Instr.fill (fun i => some (i * k,k)) base [(0,.agg l.toArray)] = some l.toArray := by
 subst hl
 have h0 : (Value.agg l.toArray).cells = l.toArray := rfl
 have h1 := foldl_lay l 0 base.toList (by have := Array.length_toList (xs := base);omega)
 simp only [Array.toArray_toList,List.take_zero,List.nil_append,Nat.zero_add] at h1
 rw [List.drop_eq_nil_of_le (by have := Array.length_toList (xs := base);omega),List.append_nil] at h1
 unfold Instr.fill
 simp only [h0,Instr.fill,Nat.zero_mul,Nat.zero_add]
 have hsz : l.toArray.size = l.length := by simp
 rw [if_neg (by rw [hsz];simp only [ne_eq,not_true_eq_false,decide_false,Bool.false_or,decide_eq_true_eq];omega)]
 congr 1
 rw [← Array.foldl_toList,Array.toList_zipIdx,List.toList_toArray]
 exact h1
end Go.Proofs.YtlgciddnpinpbaaGreatDoor
namespace Go.Proofs.YtlgciddnpinpbaaGreatDoor
open Go.RowKit
set_option maxRecDepth 100000
theorem encLeaf_len (ps : List PairT) (h : ∀ p ∈ ps,PairOk p) (h6 : ps.length ≤ 6) : (encLeaf ps).length = 248 := by
 have h1 := pairV_len h
 have h2 : (ps.flatMap PairT.b).length = ps.length * 40 := by
  have : pairV ps = byteV (ps.flatMap PairT.b) := by simp [pairV,byteV,List.map_flatMap]
  rw [this,byteV_length] at h1
  exact h1
 simp only [encLeaf,List.length_append,h2,List.length_replicate,List.length_cons,List.length_nil]
 omega
theorem flat_pairs (ps : List PairT) (h : ∀ p ∈ ps,PairOk p) : (ps.flatMap PairT.b).length = ps.length * 40 := by
 have h1 := pairV_len h
 have : pairV ps = byteV (ps.flatMap PairT.b) := by simp [pairV,byteV,List.map_flatMap]
 rw [this,byteV_length] at h1
 exact h1
theorem encLeaf_at (ps : List PairT) (h : ∀ p ∈ ps,PairOk p) (j : Nat) (p : PairT) (hp : ps[j]? = some p) : ((encLeaf ps).drop (8 + j * 40)).take 40 = p.b := by
 have hj : j < ps.length := (List.getElem?_eq_some_iff.1 hp).1
 have e : ps = ps.take j ++ p :: ps.drop (j + 1) := by
  obtain ⟨h1,h2⟩ := List.getElem?_eq_some_iff.1 hp
  rw [← h2,← List.drop_eq_getElem_cons h1,List.take_append_drop]
 have hl : ((ps.take j).flatMap PairT.b).length = j * 40 := by
  rw [flat_pairs _ (fun q hq => h q (List.mem_of_mem_take hq)),List.length_take,Nat.min_eq_left (by omega)]
 have e2 : ps.flatMap PairT.b = (ps.take j).flatMap PairT.b ++ (p.b ++ (ps.drop (j + 1)).flatMap PairT.b) := by
  conv => lhs;rw [e]
  rw [List.flatMap_append,List.flatMap_cons]
 have e3 : encLeaf ps = ([1,UInt8.ofNat ps.length] ++ List.replicate 6 0 ++ (ps.take j).flatMap PairT.b) ++ (p.b ++ ((ps.drop (j + 1)).flatMap PairT.b ++ List.replicate (240 - 40 * ps.length) 0)) := by
  unfold encLeaf
  rw [e2]
  simp only [List.append_assoc]
 have e4 : ([1,UInt8.ofNat ps.length] ++ List.replicate 6 0 ++ (ps.take j).flatMap PairT.b).length = 8 + j * 40 := by
  simp only [List.length_append,List.length_replicate,List.length_cons,List.length_nil,hl]
 rw [e3,← e4,List.drop_left]
 have hb := (h p (List.mem_of_getElem? hp)).len
 rw [← hb,List.take_left]
theorem cut_pair {x k v : List UInt8} (h : x.take 40 = k ++ v) (hk : k.length = 32) (hv : v.length = 8) : x.take 32 = k ∧ (x.drop 32).take 8 = v := by
 refine ⟨?_,?_⟩
 ·have h1 := congrArg (fun y => y.take 32) h
  simp only [List.take_take] at h1
  rw [List.take_append_of_le_length (by omega),List.take_of_length_le (l := k) (by omega)] at h1
  exact h1
 ·have h1 := congrArg (fun y => y.drop 32) h
  simp only [List.drop_take] at h1
  rw [show (k ++ v).drop 32 = v by rw [← hk];exact List.drop_left] at h1
  exact h1
theorem pair_c1 (p : PairT) (h : PairOk p) : (List.replicate 40 (Value.int .u8 0)).take 0 ++ byteV p.k ++ (List.replicate 40 (Value.int .u8 0)).drop (0 + (byteV p.k).length) = byteV p.k ++ List.replicate 8 (Value.int .u8 0) := by
 rw [byteV_length,h.k];rfl
theorem pair_c2 (p : PairT) (h : PairOk p) : (byteV p.k ++ List.replicate 8 (Value.int .u8 0)).take 32 ++ byteV p.v ++ (byteV p.k ++ List.replicate 8 (Value.int .u8 0)).drop (32 + (byteV p.v).length) = byteV p.b := by
 have hk : (byteV p.k).length = 32 := by rw [byteV_length,h.k]
 rw [List.take_append_of_le_length (by omega),List.take_of_length_le (by omega),List.drop_eq_nil_of_le (by simp only [List.length_append,byteV_length,h.k,h.v,List.length_replicate];omega),List.append_nil]
 simp [PairT.b,byteV]
theorem size_pair (l : List Value) (h : l.length = 40) : (Tryz.prog.info? 80).map (·.size) = some l.toArray.size := by
 rw [sizeP];simp [h]
theorem bytes_cells {W : World} {g off : Nat} {l : List UInt8} (h : BytesAt W g off l) (at_ n : Nat) {m : List UInt8} (hm : ((l.drop at_).take n) = m) : ∀ j u,(byteV m)[j]? = some u → W.cell? ((⟨g,off + at_,none⟩ : Addr).add j) = some u := by
 subst hm
 intro j u hu
 rw [Addr.add_lit]
 exact drop_cell h at_ n hu
set_option maxHeartbeats 16000000 in
theorem load_leaf {w : World} {s : TX} {c : Nat} (hb : Bundle w s.L) (h : s.Ok c) (z : Int) (home : Nat) (hz : (home : Int) = z) (hn : home < s.n) (ps : List PairT) (hv : s.v home = encLeaf ps) (h1 : 1 ≤ ps.length) (h6 : ps.length ≤ 6) (hp : ∀ p ∈ ps,PairOk p) :
  Calls Tryz.prog 124 #[.pointer (some ⟨s.g,0,none⟩),.int .i64 z] w fun e w' => ∃ g pp cp,e = .returned (.tuple #[.pointer (some ⟨g,0,none⟩),.nilIface]) ∧
   BunTo w (ownL s.L) (rdL s.L) (s.L ++ [nodeA g home true (.slice pp ps.length cp) (.slice none 0 0) (.slice none 0 0),ownS 80 40 pp ps.length cp (pairV ps)]) w' := by
 subst hz
 have H := hb.open_
 obtain ⟨O,hO⟩ : ∃ O,ownL s.L = O := ⟨_,rfl⟩
 obtain ⟨R0,hR0⟩ : ∃ R,rdL s.L = R := ⟨_,rfl⟩
 rw [hO,hR0] at H ⊢
 have HO := Lib.hid h
 have HN := Lib.hid hn
 have HP := Lib.hid hp
 obtain ⟨n,hnl⟩ : ∃ n,ps.length = n := ⟨_,rfl⟩
 have HPL := Lib.hid hnl
 rw [hnl] at h1 h6 ⊢
 have hn1 : ¬ ((n : Int) < 1) := by omega
 have hn6 : ¬ (6 < (n : Int)) := by omega
 have hn0 : 0 ≤ (n : Int) := by omega
 have hn7 : (n : Int) ≤ 6 := by omega
 have hu : ((UInt8.ofNat n).toNat : Int) = (n : Int) := by rw [UInt8.toNat_ofNat'];omega
 obtain ⟨l,hl⟩ : ∃ l,encLeaf ps = l := ⟨_,rfl⟩
 have HL := Lib.hid (show s.v home = l by rw [hv,hl])
 have HLL := Lib.hid (show l.length = 248 by rw [← hl];exact encLeaf_len ps hp (by omega))
 have HL0 := Lib.hid (show l[0]? = some 1 by rw [← hl];rfl)
 have HL1 := Lib.hid (show l[1]? = some (UInt8.ofNat n) by rw [← hl,← hnl];rfl)
 have HLA := Lib.hid (show ∀ j p,ps[j]? = some p → (l.drop (8 + j * 40)).take 40 = p.b from fun j p hj => by rw [← hl];exact encLeaf_at ps hp j p hj)
 have HU := Lib.hid hu
 have H7 := Lib.hid h6
 clear hb h hO hR0 hn hp hnl hv hl hu h1 h6
 go_enter Tryz.func124,Tryz.ntmps124
 go_upto_region 4 with (first
  | (go_at_call 19;go_loud ((refine (rd_TX (s := s) H.bundle HO.out _ home rfl HN.out).mono ?_);rintro e W ⟨gc,off,cap,rfl,_,hcap,hgc,hto⟩;replace H := hto.front2 (R := []) (by rw [List.append_nil];exact H);clear hto;rw [HL.out] at H)))
 replace H : St O R0 w W (s.L ++ [ownB gc off l]) := by rw [List.append_nil] at H;exact H
 have hc0 := (ownB_bytes (H.at 7 rfl)).cellv HL0.out
 rw [Nat.add_zero,show (((1 : UInt8).toNat : Nat) : Int) = 1 from rfl] at hc0
 go_upto_region 5 with (first
  | (refine wpList_box_st H rfl 149 _ rfl _ rfl ?_;clear H hc0;intro W gn H))
 replace H : St O R0 w W (s.L ++ [ownB gc off l,nodeA gn home true (.slice none 0 0) (.slice none 0 0) (.slice none 0 0)]) := H
 have hc0 := (ownB_bytes (H.at 7 rfl)).cellv HL0.out
 rw [Nat.add_zero,show (((1 : UInt8).toNat : Nat) : Int) = 1 from rfl] at hc0
 have hc1 := (ownB_bytes (H.at 7 rfl)).cellv HL1.out
 rw [HU.out] at hc1
 have hf := row_cell (H.at 8 rfl) (nRow1 _ _ _ _ _)
 go_upto_region 12 with fail
 clear hc0 hc1 hf
 replace H := H.addNil 80 40
 replace H : St O R0 w W (s.L ++ [ownB gc off l,nodeA gn home true (.slice none 0 0) (.slice none 0 0) (.slice none 0 0),ownS 80 40 none 0 0 []]) := H
 go_loopw [59] (fun u wr => ∃ (j : Nat) (pp : Option Addr) (cp : Nat),u = .int .i64 (j : Int) ∧ j ≤ n ∧ St O R0 w wr (s.L ++ [ownB gc off l,nodeA gn home true (.slice pp j cp) (.slice none 0 0) (.slice none 0 0),ownS 80 40 pp j cp (pairV (ps.take j))])) (fun u _ => n - (intOf u).toNat)
 case atStart => exact ⟨0,none,0,rfl,Nat.zero_le _,H⟩
 case round =>
  clear H
  obtain ⟨j,pp,cp,rfl,hj,H⟩ := hrel
  have hj0 : 0 ≤ (j : Int) := by omega
  rcases Nat.lt_or_ge j n with hlt | hge
  ·have hjj : (j : Int) < (n : Int) := by omega
   obtain ⟨p,hp⟩ : ∃ p,ps[j]? = some p := ⟨_,List.getElem?_eq_getElem (by rw [HPL.out];exact hlt)⟩
   have hpg := HP.out p (List.mem_of_getElem? hp)
   obtain ⟨at_,hat⟩ : ∃ a,8 + j * 40 = a := ⟨_,rfl⟩
   have hat2 : (8 : Int) + (j : Int) * 40 = (at_ : Int) := by omega
   have hat3 : at_ ≤ 208 := by have := H7.out;omega
   have hpb : (l.drop at_).take 40 = p.k ++ p.v := by rw [← hat];exact HLA.out j p hp
   have hcp := cut_pair hpb hpg.k hpg.v
   rw [List.drop_drop] at hcp
   have HK1 := Lib.hid hcp.1
   have HK2 := Lib.hid hcp.2
   clear hcp
   have HKL := Lib.hid hpg
   have HPJ := Lib.hid hp
   have HJ := Lib.hid hlt
   have HAT := Lib.hid hat3
   have hs0 : 0 ≤ (at_ : Int) := by omega
   have hs1 : (at_ : Int) ≤ 248 := by omega
   have hs2 : ¬ cap = at_ := by omega
   have hs3 : (at_ : Int) ≤ 208 := by omega
   clear hp hpg hat hpb hat3
   go_upto_region 16 with (first
    | (refine wpList_alloc_st H rfl 80 rfl _ zeroP ?_;clear H;intro W gp H))
   replace H : St O R0 w W (s.L ++ [ownB gc off l,nodeA gn home true (.slice pp j cp) (.slice none 0 0) (.slice none 0 0),ownS 80 40 pp j cp (pairV (ps.take j)),blk gp (.cells (List.replicate 40 (Value.int .u8 0)).toArray 80 (0,0))]) := H
   clear hat2
   replace H := H.drew
   go_still_tail 5,(by kernel_rfl)
   change wpList _ _ _ _ _ W.drew
   generalize W.drew = W2 at H ⊢
   go_upto_region 17 with (first
    | (refine wpList_copy_row H 10 rfl _ _ 22 22 rfl _ Tryz.underlying22 1 size_u8 _ _ _ _ rfl ⟨gc,off + at_,none⟩ _ _ rfl 32 (by have := HAT.out;omega) (byteV p.k) (by rw [byteV_length,HKL.out.k]) (bytes_cells (ownB_bytes (H.at 7 rfl)) at_ 32 HK1.out) (byteV_one _) (List.replicate 40 (.int .u8 0)) _ rfl (by rw [byteV_length,HKL.out.k,List.length_replicate];omega) ?_;clear H;intro W3 H))
   replace H : St O R0 w W3 (s.L ++ [ownB gc off l,nodeA gn home true (.slice pp j cp) (.slice none 0 0) (.slice none 0 0),ownS 80 40 pp j cp (pairV (ps.take j)),blk gp (.cells ((List.replicate 40 (Value.int .u8 0)).take 0 ++ byteV p.k ++ (List.replicate 40 (Value.int .u8 0)).drop (0 + (byteV p.k).length)).toArray 80 (0,0))]) := H
   rw [pair_c1 p HKL.out] at H
   have hw1 : IntKind.i64.wrap ((at_ : Int) + 32) = (at_ : Int) + 32 := by rw [IntKind.wrap_i64];omega
   have hs4 : 0 ≤ (at_ : Int) + 32 := by omega
   have hs5 : (at_ : Int) + 32 ≤ 248 := by omega
   have hs6 : ((at_ : Int) + 32).toNat = at_ + 32 := by omega
   have hs7 : ¬ cap = at_ + 32 := by omega
   replace H := H.drew
   go_still_tail 6,(by kernel_rfl)
   clear hw1
   change wpList _ _ _ _ _ W3.drew
   generalize W3.drew = W4 at H ⊢
   go_upto_region 18 with (first
    | (refine wpList_copy_row H 10 rfl _ _ 22 22 rfl _ Tryz.underlying22 1 size_u8 gp 32 _ _ rfl ⟨gc,off + (at_ + 32),none⟩ _ _ rfl 8 (by have := HAT.out;omega) (byteV p.v) (by rw [byteV_length,HKL.out.v]) (bytes_cells (ownB_bytes (H.at 7 rfl)) (at_ + 32) 8 HK2.out) (byteV_one _) (byteV p.k ++ List.replicate 8 (.int .u8 0)) _ rfl (by simp only [List.length_append,byteV_length,HKL.out.k,HKL.out.v,List.length_replicate];omega) ?_;clear H;intro W5 H))
   replace H : St O R0 w W5 (s.L ++ [ownB gc off l,nodeA gn home true (.slice pp j cp) (.slice none 0 0) (.slice none 0 0),ownS 80 40 pp j cp (pairV (ps.take j)),blk gp (.cells ((byteV p.k ++ List.replicate 8 (Value.int .u8 0)).take 32 ++ byteV p.v ++ (byteV p.k ++ List.replicate 8 (Value.int .u8 0)).drop (32 + (byteV p.v).length)).toArray 80 (0,0))]) := H
   rw [pair_c2 p HKL.out] at H
   clear hs0 hs1 hs2 hs3 hs4 hs5 hs6 hs7
   have HPB := Lib.hid (show (byteV p.b).length = 40 by rw [byteV_length];exact HKL.out.len)
   replace H := H.drew
   refine wp_region_T (fun w' => w'.cell? ⟨gn,2,none⟩ = some (.slice pp j cp) ∧ w'.heap[gp]? = some (.cells (byteV p.b).toArray 80 (0,0))) [10] (by kernel_rfl) ⟨row_cell (H.at 8 rfl) (nRow2 _ _ _ _ _),H.at 10 rfl⟩ (fun hHeld => ?_)
   (refine wpAnyT_take (i := 0) (f := 20) (v := ?_) rfl (by kernel_rfl) (by kernel_rfl) (by kernel_rfl) (by kernel_rfl) (by kernel_rfl) (fun _ _ _ h => h) (Or.inl ⟨by rfl,?_⟩) (by assumption) ?_;rotate_left;focus (intro w hSw;(try dsimp only at hSw);go_simp;all_goals (with_reducible rfl)));(try simp only [Act.put,rp1,rp2,rp3,rp4,rp5,rp6])
   (refine wpAnyT_take (i := 1) (f := 20) (v := ?_) rfl (by kernel_rfl) (by kernel_rfl) (by kernel_rfl) (by kernel_rfl) (by kernel_rfl) (fun _ _ _ h => h) (Or.inl ⟨by rfl,?_⟩) (by assumption) ?_;rotate_left;focus (intro w hSw;(try dsimp only at hSw);go_simp;all_goals (with_reducible rfl)));(try simp only [Act.put,rp1,rp2,rp3,rp4,rp5,rp6])
   (refine wpAnyT_take (i := 2) (f := 20) (v := ?_) rfl (by kernel_rfl) (by kernel_rfl) (by kernel_rfl) (by kernel_rfl) (by kernel_rfl) (fun _ _ _ h => h) (Or.inl ⟨by rfl,?_⟩) (by assumption) ?_;rotate_left;focus (intro w hSw;(try dsimp only at hSw);go_simp;all_goals (with_reducible rfl)));(try simp only [Act.put,rp1,rp2,rp3,rp4,rp5,rp6])
   (refine wpAnyT_take (i := 3) (f := 20) (v := ?_) rfl (by kernel_rfl) (by kernel_rfl) (by kernel_rfl) (by kernel_rfl) (by kernel_rfl) (fun _ _ _ h => h) (Or.inl ⟨by rfl,?_⟩) (by assumption) ?_;rotate_left;focus (intro w hSw;(try dsimp only at hSw);go_simp;all_goals (with_reducible rfl)));(try simp only [Act.put,rp1,rp2,rp3,rp4,rp5,rp6])
   (refine wpAnyT_take (i := 4) (f := 20) rfl (by kernel_rfl) (by kernel_rfl) (by kernel_rfl) (by kernel_rfl) (by kernel_rfl) (fun _ _ _ h => h) ((yieldsIf_load1 (by rfl) 76 _ rfl _ _ (by rfl) _ Tryz.underlying76 rfl _ (fun w h => h.1))) (by assumption) ?_);(try simp only [Act.put,rp1,rp2,rp3,rp4,rp5,rp6])
   (refine wpAnyT_take (i := 5) (f := 20) rfl (by kernel_rfl) (by kernel_rfl) (by kernel_rfl) (by kernel_rfl) (by kernel_rfl) (fun _ _ _ h => h) ((yieldsIf_loadrow (by rfl) 80 _ rfl _ (by rfl) _ _ _ _ Tryz.underlying80 rfl (size_pair _ HPB.out) (fun w h => h.2))) (by assumption) ?_);(try simp only [Act.put,rp1,rp2,rp3,rp4,rp5,rp6])
   (refine wpAnyT_one (i := 6) (by kernel_rfl) rfl (fun K hK => ?_));(rw [if_pos (by rfl)]);(refine wp_buildslice_st H 76 80 _ _ rfl Tryz.underlying76 40 sizeP _ zeroP (by decide) (by decide) [(0,.agg (byteV p.b).toArray)] (by simp [Act.eval]) _ (fill_one 40 (byteV p.b) _ (by simp) HPB.out) ?_;clear H;intro W6 gs H;have hHeld2 : W6.cell? ⟨gn,2,none⟩ = some (.slice pp j cp) ∧ W6.heap[gp]? = some (.cells (byteV p.b).toArray 80 (0,0)) := ⟨row_cell (H.at 8 rfl) (nRow2 _ _ _ _ _),H.at 10 rfl⟩;refine hK.out _ _ (Or.inr hHeld2) ?_;clear hK K hHeld);(try simp only [Act.put,rp1,rp2,rp3,rp4,rp5,rp6])
   (refine wpAnyT_one (i := 7) (by kernel_rfl) rfl (fun K hK => ?_));(rw [if_pos (by rfl)]);(refine wp_append_ownS H 9 _ _ 76 rfl _ Tryz.underlying76 _ 40 40 infoP rfl (by omega) pp j cp (by rfl) _ rfl ⟨gs,0,none⟩ 1 _ (by rfl) (byteV p.b) (by rw [HPB.out]) (fun i u hu => World.news_of_block (H.at 11 rfl) i u hu) (byteV_one _) (by omega) (by have := HJ.out;have := H7.out;simp only [maxLen];omega) (by have := HJ.out;have := H7.out;omega) ?_;clear H;intro W7 gq cq H;have hHeld3 : W7.cell? ⟨gn,2,none⟩ = some (.slice pp j cp) ∧ W7.heap[gp]? = some (.cells (byteV p.b).toArray 80 (0,0)) := ⟨row_cell (H.at 8 rfl) (nRow2 _ _ _ _ _),H.at 10 rfl⟩;refine hK.out _ _ (Or.inr hHeld3) ?_;clear hK K hHeld2);(try simp only [Act.put,rp1,rp2,rp3,rp4,rp5,rp6])
   (refine wpAnyT_take (i := 8) (f := 20) (v := ?_) rfl (by kernel_rfl) (by kernel_rfl) (by kernel_rfl) (by kernel_rfl) (by kernel_rfl) (fun _ _ _ h => h) (Or.inl ⟨by rfl,?_⟩) (by assumption) ?_;rotate_left;focus (intro w hSw;(try dsimp only at hSw);go_simp;all_goals (with_reducible rfl)));(try simp only [Act.put,rp1,rp2,rp3,rp4,rp5,rp6])
   (refine wpAnyT_take (i := 9) (f := 20) (v := ?_) rfl (by kernel_rfl) (by kernel_rfl) (by kernel_rfl) (by kernel_rfl) (by kernel_rfl) (fun _ _ _ h => h) (Or.inl ⟨by rfl,?_⟩) (by assumption) ?_;rotate_left;focus (intro w hSw;(try dsimp only at hSw);go_simp;all_goals (with_reducible rfl)));(try simp only [Act.put,rp1,rp2,rp3,rp4,rp5,rp6])
   (refine wpAnyT_one (i := 10) (by kernel_rfl) rfl (fun K hK => ?_));(rw [if_pos (by rfl)]);(refine wp_store1_st H 8 76 _ _ rfl gn 2 (.slice (some ⟨gq,0,none⟩) (j + 1) cq) (by rfl) (by rfl) rfl _ _ rfl size_slP (by simp [nRow]) ?_;clear H;intro W8 H;refine hK.out _ _ (Or.inl ⟨10,by simp,by kernel_rfl⟩) ?_;clear hK K hHeld3);(try simp only [Act.put,rp1,rp2,rp3,rp4,rp5,rp6])
   (refine wpAnyT_done (by kernel_rfl) ?_ _)
   rw [nSet2] at H
   go_wp2
   go_roundw
   case rel =>
    refine ⟨j + 1,some ⟨gq,0,none⟩,cq,congrArg _ (by omega),HJ.out,?_⟩
    have e : pairV (ps.take (j + 1)) = pairV (ps.take j) ++ byteV p.b := by
     rw [List.take_add_one,HPJ.out,pairV_append];simp [pairV]
    rw [e]
    exact (show St O R0 w W8 (s.L ++ [ownB gc off l,nodeA gn home true (.slice (some ⟨gq,0,none⟩) (j + 1) cq) (.slice none 0 0) (.slice none 0 0),ownS 80 40 (some ⟨gq,0,none⟩) (j + 1) cq (pairV (ps.take j) ++ byteV p.b)] ++ [_,_]) from H).take 10
   case measure => have := HJ.out;simp [intOf];omega
  ·obtain rfl : j = n := by omega
   go_wp2
   refine bodyPost_ret (results_tmp2 rfl _ _ _) rfl ?_
   rw [List.take_of_length_le (by rw [HPL.out];exact Nat.le_refl _)] at H
   refine ⟨gn,pp,cp,rfl,St.bunTo ?_⟩
   exact (St.swap (A := s.L) (E := [ownB gc off l]) (R := [nodeA gn home true (.slice pp j cp) (.slice none 0 0) (.slice none 0 0),ownS 80 40 pp j cp (pairV ps)]) H).take 9
end Go.Proofs.YtlgciddnpinpbaaGreatDoor
