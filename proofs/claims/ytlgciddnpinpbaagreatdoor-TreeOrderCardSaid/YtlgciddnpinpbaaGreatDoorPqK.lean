/- Texts of this proof, packed. -/
import Derived.Test.YtlgciddnpinpbaaGreatDoorPkBase4
import Derived.Test.YtlgciddnpinpbaaGreatDoorPqR
import Derived.Test.YtlgciddnpinpbaaGreatDoorPqB
import Derived.Test.YtlgciddnpinpbaaGreatDoorPqC
import Derived.Test.YtlgciddnpinpbaaGreatDoorPqD
import Derived.Test.YtlgciddnpinpbaaGreatDoorPqF
import Derived.Test.YtlgciddnpinpbaaGreatDoorPqG
import Derived.Test.YtlgciddnpinpbaaGreatDoorPqH
import Derived.Lib.Bytealg
set_option linter.unusedSimpArgs false
set_option linter.unusedVariables false
namespace Go.Proofs.YtlgciddnpinpbaaGreatDoor
open Go.RowKit
set_option maxRecDepth 100000
theorem cmp_lt : ∀ a b : List UInt8,a.length = b.length → (Lib.compareBytes a b < 0 ↔ kn a < kn b)
 | [],[],_ => by simp [Lib.compareBytes,kn]
 | x :: a,y :: b,h => by
  have h' : a.length = b.length := by simpa using h
  have ih := cmp_lt a b h'
  simp only [Lib.compareBytes]
  by_cases h1 : x < y
  ·rw [if_pos h1]
   exact ⟨fun _ => kn_cons_lt h' (UInt8.lt_iff_toNat_lt.1 h1),fun _ => by omega⟩
  ·rw [if_neg h1]
   by_cases h2 : y < x
   ·rw [if_pos h2]
    have := kn_cons_lt (l := b) (m := a) h'.symm (UInt8.lt_iff_toNat_lt.1 h2)
    exact ⟨fun h => by omega,fun h => by omega⟩
   ·rw [if_neg h2,ih]
    have e : x = y := UInt8.toNat_inj.1 (by rw [UInt8.lt_iff_toNat_lt] at h1 h2;omega)
    subst e
    rw [kn,kn,h'];omega
theorem cmp_eq : ∀ a b : List UInt8,a.length = b.length → (Lib.compareBytes a b = 0 ↔ kn a = kn b)
 | [],[],_ => by simp [Lib.compareBytes,kn]
 | x :: a,y :: b,h => by
  have h' : a.length = b.length := by simpa using h
  have ih := cmp_eq a b h'
  simp only [Lib.compareBytes]
  by_cases h1 : x < y
  ·rw [if_pos h1]
   have := kn_cons_lt h' (UInt8.lt_iff_toNat_lt.1 h1)
   exact ⟨fun h => by omega,fun h => by omega⟩
  ·rw [if_neg h1]
   by_cases h2 : y < x
   ·rw [if_pos h2]
    have := kn_cons_lt (l := b) (m := a) h'.symm (UInt8.lt_iff_toNat_lt.1 h2)
    exact ⟨fun h => by omega,fun h => by omega⟩
   ·rw [if_neg h2,ih]
    have e : x = y := UInt8.toNat_inj.1 (by rw [UInt8.lt_iff_toNat_lt] at h1 h2;omega)
    subst e
    rw [kn,kn,h'];omega
theorem run_loadB {P : Program} (w : World) : ∀ (l : List UInt8) (a : Addr) (acc : ByteArray),(∀ j x,l[j]? = some x → w.cell? (a.add j) = some (.int .u8 x.toNat)) →
  (Extern.Bytes.loadBytes a l.length acc).run P w = .ok ⟨acc.data ++ l.toArray⟩ w
 | [],a,acc,_ => by simp [Extern.Bytes.loadBytes]
 | x :: l,a,acc,h => by
  have h0 : w.cell? a = some (.int .u8 x.toNat) := by
   have := h 0 x rfl
   simpa [Addr.add] using this
  have ih := run_loadB (P := P) w l (a.add 1) (acc.push x) (fun j y hy => by
   have := h (j + 1) y (by simpa using hy)
   have e : (a.add 1).add j = a.add (j + 1) := by
    unfold Addr.add
    by_cases hj : j = 0
    ·subst hj;simp
    ·simp [hj];omega
   rw [e];exact this)
  have hx : ((x.toNat : Int).toNat).toUInt8 = x := by simp
  simp only [List.length_cons,Extern.Bytes.loadBytes,Sem.run_bind,run_load,h0,Result.andThen,hx]
  rw [ih]
  congr 1
  apply ByteArray.ext
  simp [ByteArray.push]
theorem run_compareRows {P : Program} (w : World) (a b : Addr) (l m : List UInt8) (n1 n2 c1 c2 : Nat) (h1 : l.length = n1) (h2 : m.length = n2) (ha : ∀ j x,l[j]? = some x → w.cell? (a.add j) = some (.int .u8 x.toNat)) (hb : ∀ j x,m[j]? = some x → w.cell? (b.add j) = some (.int .u8 x.toNat)) :
  (Extern.BytealgCompare.compare #[.slice (some a) n1 c1,.slice (some b) n2 c2]).run P w = .ok (.int .i64 (Lib.compareBytes l m)) w := by
 subst h1 h2
 change Sem.run P (do pure (goInt (Extern.BytealgCompare.cmp (← Extern.Bytes.bytesOf (.slice (some a) l.length c1)) (← Extern.Bytes.bytesOf (.slice (some b) m.length c2))))) w = _
 simp only [Extern.Bytes.bytesOf,Sem.run_bind,Sem.run_pure,run_loadB w l a .empty ha,run_loadB w m b .empty hb,Result.andThen]
 rw [Lib.cmp_eq]
 simp [goInt]
theorem bcmp_calls (ga oa gb ob n1 n2 c1 c2 : Nat) (l m : List UInt8) (h1 : l.length = n1) (h2 : m.length = n2) (w : World) (ha : BytesAt w ga oa l) (hb : BytesAt w gb ob m) :
  Calls Tryz.prog 122 #[.slice (some ⟨ga,oa,none⟩) n1 c1,.slice (some ⟨gb,ob,none⟩) n2 c2] w fun e w' => e = .returned (.int .i64 (Lib.compareBytes l m)) ∧ w = w' := by
 have hr := run_compareRows (P := Tryz.prog) w ⟨ga,oa,none⟩ ⟨gb,ob,none⟩ l m n1 n2 c1 c2 h1 h2 (fun j x hj => by rw [Addr.add_lit];exact ha.cellv hj) (fun j x hj => by rw [Addr.add_lit];exact hb.cellv hj)
 clear ha hb
 go_enter Tryz.func122,Tryz.ntmps122
 go_wp2
 rw [run_callFunc_extern Tryz.func167 (by kernel_rfl) (by kernel_rfl) (by kernel_rfl) (e := Extern.BytealgCompare.compare) (by kernel_rfl),hr]
 simp only [Result.andThen]
 rw [Oper.upon_value]
 go_wp2
 go_ret
 exact ⟨rfl,rfl⟩
theorem order_calls (a b : List UInt8) (ha : a.length = 32) (hb : b.length = 32) (w : World) :
  Calls Tryz.prog 86 #[arrV a,arrV b] w fun e w' => e = .returned (.int .i64 (Lib.compareBytes a b)) ∧ Below w.heap.size w w' := by
 have H := St.nil NoBlk NoBlk w
 have HA := Lib.hid ha
 have HB := Lib.hid hb
 clear ha hb
 have tok1 : True := trivial
 have tok2 : True := trivial
 go_enter Tryz.func86,Tryz.ntmps86
 go_upto_region 1 with (first
  | (have _t := tok1;clear _t;refine wpList_box_st H rfl 67 _ rfl (arrV _) rfl ?_;clear H tok1;intro W g1 H;(try simp only [cells_arrV,List.nil_append,List.cons_append,List.set_cons_zero,List.set_cons_succ] at H))
  | (have _t := tok2;clear _t;refine wpList_box_st H rfl 67 _ rfl (arrV _) rfl ?_;clear H tok2;intro W g2 H;(try simp only [cells_arrV,List.nil_append,List.cons_append,List.set_cons_zero,List.set_cons_succ] at H)))
 replace H := H.drew
 refine wp_region_T (fun _ => True) [] (by kernel_rfl) trivial (fun hHeld => ?_)
 (refine wpAnyT_pure (i := 0) (v := ?_) rfl (by kernel_rfl) (by kernel_rfl) (by kernel_rfl) (by kernel_rfl) (fun _ _ _ h => h) (Or.inl ⟨by rfl,?_⟩) (Or.inr (by assumption)) ?_;rotate_left;focus (intro w hSw;clear hSw;go_simp;all_goals (with_reducible rfl)));(try simp only [Act.put,rp1,rp2,rp3,rp4,rp5,rp6])
 (refine wpAnyT_pure (i := 1) (v := ?_) rfl (by kernel_rfl) (by kernel_rfl) (by kernel_rfl) (by kernel_rfl) (fun _ _ _ h => h) (Or.inl ⟨by rfl,?_⟩) (Or.inr (by assumption)) ?_;rotate_left;focus (intro w hSw;clear hSw;go_simp;all_goals (with_reducible rfl)));(try simp only [Act.put,rp1,rp2,rp3,rp4,rp5,rp6])
 (refine wpAnyT_one (i := 2) (by kernel_rfl) rfl (fun K hK => ?_));(rw [if_pos (by rfl)]);(go_simp;go_at_call 122;(refine (bcmp_calls g1 0 g2 0 32 32 _ _ a b HA.out HB.out _ (BytesAt.whole (H.at 0 rfl)) (BytesAt.whole (H.at 1 rfl))).mono ?_);rintro e W' ⟨rfl,rfl⟩;(try go_wp2_with fail);refine hK.out _ _ (Or.inr trivial) ?_;clear hK K);(try simp only [Act.put,rp1,rp2,rp3,rp4,rp5,rp6])
 (refine wpAnyT_pure (i := 3) (v := ?_) rfl (by kernel_rfl) (by kernel_rfl) (by kernel_rfl) (by kernel_rfl) (fun _ _ _ h => h) (Or.inl ⟨by rfl,?_⟩) (Or.inr (by assumption)) ?_;rotate_left;focus (intro w hSw;clear hSw;go_simp;all_goals (with_reducible rfl)));(try simp only [Act.put,rp1,rp2,rp3,rp4,rp5,rp6])
 (refine wpAnyT_done (by kernel_rfl) ?_ _)
 go_wp2
 go_ret
 exact ⟨rfl,H.fix.below⟩
theorem size_key32 (k : List UInt8) (h : k.length = 32) : (Tryz.prog.info? 67).map (·.size) = some (byteV k).toArray.size := size_key _ (by rw [byteV_length,h])
section
variable {P : Program} {ops : Array Oper} {rest : List Oper} {o : Oper} {a : Act} {Q : Exit → Act → World → Prop} {S : World → Prop}
theorem yieldsIf_load_cells (hw : Region.wanted o (yielded ops a.tmps) = true) (ty : TypeId) (x : Operand) (ho : o.op = .load ty x) (ad : Addr) (hx : a.eval x = .pointer (some ad))
  (d : TypeDesc) (hu : P.underlying ty = some d) (hd : (match d with | .struct _ | .array _ _ => true | _ => false) = true) (xs : List Value) (hi : (P.info? ty).map (·.size) = some xs.length)
  (hc : ∀ w,S w → ∀ j u,xs[j]? = some u → w.cell? (ad.add j) = some u) : YieldsIf P ops S o (.agg xs.toArray) a := by
 refine Or.inl ⟨hw,fun w h => ?_⟩
 have hl := run_loadCells_list (P := P) w ad xs (hc w h)
 have hagg : (isAgg ty).run P w = .ok true w := by
  cases d <;> simp at hd <;> simp [isAgg,run_underlying hu]
 cases hq : P.info? ty with
 | none => simp [hq] at hi
 | some i =>
  have hi' : i.size = xs.length := by simpa [hq] using hi
  unfold execOp
  simp only [ho,hx,Instr.loadAt,Instr.sureAddr,Sem.run_bind,Sem.run_pure,Result.andThen_ok]
  simp [loadVar,hagg,sizeOf,typeInfo,hq,hi',hl]
end
theorem find1_calls (p : PairT) (k : List UInt8) (hp : PairOk p) (hk : k.length = 32) (w : World) :
  Calls Tryz.prog 178 #[.agg (byteV p.b).toArray,arrV k] w fun e w' => e = .returned (.int .i64 (Lib.compareBytes p.k k)) ∧ Below w.heap.size w w' := by
 have H := St.nil NoBlk NoBlk w
 have HP := Lib.hid hp
 have HK := Lib.hid hk
 have hpb : (byteV p.b).length = 40 := by rw [byteV_length];exact hp.len
 have HPB := Lib.hid hpb
 clear hp hk hpb
 go_enter Tryz.func178,Tryz.ntmps178
 go_wp2_with (first
  | (refine wpList_box_st H rfl 80 _ rfl (.agg (byteV p.b).toArray) rfl ?_;clear H;intro W g1 H;replace H : St NoBlk NoBlk w W [blk g1 (.cells (byteV p.b).toArray 80 (0,0))] := H)
  | (refine wpList_box_st H rfl 67 _ rfl (arrV k) rfl ?_;clear H;intro W g2 H;replace H : St NoBlk NoBlk w W [blk g1 (.cells (byteV p.b).toArray 80 (0,0)),blk g2 (.cells (byteV k).toArray 67 (0,0))] := H)
  | (refine wpList_load_cells rfl 67 _ rfl ⟨g1,0,none⟩ rfl _ Tryz.underlying67 rfl (byteV p.k) (by rw [sizeK,byteV_length,HP.out.k]) (pair_cells (H.at 0 rfl) HP.out).1 ?_)
  | (refine wpList_loadrow_st rfl 67 _ rfl g2 rfl _ _ _ (H.at 1 rfl) _ Tryz.underlying67 rfl (size_key32 k HK.out) ?_)
  | (go_at_call 86;go_loud ((refine (order_calls p.k k HP.out.k HK.out _).mono ?_);rintro e W' ⟨rfl,hb⟩;replace H := H.stay (Fix.of_below hb _);clear hb)))
 go_ret
 exact ⟨rfl,H.fix.below⟩
theorem ris_mono {ps : List PairT} (h : Ris ps) : ∀ (i j : Nat) (p q : PairT),i < j → ps[i]? = some p → ps[j]? = some q → p.n < q.n := fun i j p q hij hp hq => by
 obtain ⟨h1,rfl⟩ := List.getElem?_eq_some_iff.1 hp
 obtain ⟨h2,rfl⟩ := List.getElem?_eq_some_iff.1 hq
 exact List.pairwise_iff_getElem.1 h i j h1 h2 hij
theorem keys_mono {ks : List (List UInt8)} (h : (ks.map kn).Pairwise (· < ·)) : ∀ (i j : Nat) (p q : List UInt8),i < j → ks[i]? = some p → ks[j]? = some q → kn p < kn q := fun i j p q hij hp hq => by
 obtain ⟨h1,rfl⟩ := List.getElem?_eq_some_iff.1 hp
 obtain ⟨h2,rfl⟩ := List.getElem?_eq_some_iff.1 hq
 have := List.pairwise_iff_getElem.1 h i j (by simpa using h1) (by simpa using h2) hij
 simpa using this
set_option maxHeartbeats 8000000 in
theorem bsP_calls {w : World} {pp : Option Addr} {n cp : Nat} {ps : List PairT} {k : List UInt8} (hrow : (rdA pp (pairV ps)).prop w) (hnl : ps.length = n) (hp : ∀ p ∈ ps,PairOk p) (hk : k.length = 32) (hr : Ris ps) (h6 : n ≤ 100) :
  Calls Tryz.prog 177 #[.slice pp n cp,arrV k,.func (.func 178) #[] #[]] w fun e w' => ∃ (i : Nat) (is : Bool),e = .returned (.tuple #[.int .i64 (i : Int),.bool is]) ∧ i ≤ n ∧
   (∀ (t : Nat) (p : PairT),t < i → ps[t]? = some p → p.n < kn k) ∧ (∀ (t : Nat) (p : PairT),i ≤ t → ps[t]? = some p → kn k ≤ p.n) ∧ (is = true ↔ ∃ p : PairT,ps[i]? = some p ∧ p.n = kn k) ∧ Below w.heap.size w w' := by
 have H := St.reads_only (w := w) [rdA pp (pairV ps)] (by intro B hB;obtain rfl := List.mem_singleton.1 hB;exact ⟨hrow,fun _ h => h⟩)
 have HP := Lib.hid hp
 have HK := Lib.hid hk
 have HR := Lib.hid hr
 have HNL := Lib.hid hnl
 have H6 := Lib.hid h6
 have hn0 : 0 ≤ (n : Int) := by omega
 have hn9 : (n : Int) ≤ 100 := by omega
 clear hrow hp hk hr hnl h6
 have tok1 : True := trivial
 go_enter Tryz.func177,Tryz.ntmps177
 go_upto_region 3 with (first
  | (have _t := tok1;clear _t;refine wpList_box_st H rfl 67 _ rfl (arrV _) rfl ?_;clear H tok1;intro W gk H;(try simp only [cells_arrV,List.nil_append,List.cons_append,List.set_cons_zero,List.set_cons_succ] at H)))
 go_loopw [9,10] (fun u v wr => ∃ lo hi : Nat,u = .int .i64 (lo : Int) ∧ v = .int .i64 (hi : Int) ∧ lo ≤ hi ∧ hi ≤ n ∧ Hid (∀ (t : Nat) (p : PairT),t < lo → ps[t]? = some p → p.n < kn k) ∧ Hid (∀ (t : Nat) (p : PairT),hi ≤ t → ps[t]? = some p → kn k ≤ p.n) ∧
   St NoBlk (fun _ => True) w wr [rdA pp (pairV ps),blk gk (.cells (byteV k).toArray 67 (0,0))]) (fun u v _ => ((intOf v) - (intOf u)).toNat)
 case atStart => exact ⟨0,n,rfl,rfl,Nat.zero_le _,Nat.le_refl _,Lib.hid (fun t p h _ => absurd h (Nat.not_lt_zero _)),Lib.hid (fun t p h he => absurd (List.getElem?_eq_some_iff.1 he).1 (by rw [HNL.out];omega)),H⟩
 case round =>
  clear H
  obtain ⟨lo,hi,rfl,rfl,hlh,hin,HLO,HHI,H⟩ := hrel
  have hl0 : 0 ≤ (lo : Int) := by omega
  have hh0 : 0 ≤ (hi : Int) := by omega
  have hh9 : (hi : Int) ≤ 100 := by omega
  rcases Nat.lt_or_ge lo hi with hlt | hge
  ·have hll : (lo : Int) < (hi : Int) := by omega
   obtain ⟨m,hm⟩ : ∃ m,(lo + hi) / 2 = m := ⟨_,rfl⟩
   have hm1 : ((lo : Int) + (hi : Int)) / 2 = (m : Int) := by omega
   have hml : lo ≤ m := by omega
   have hmh : m < hi := by omega
   obtain ⟨p,hpm⟩ : ∃ p,ps[m]? = some p := ⟨_,List.getElem?_eq_getElem (by rw [HNL.out];omega)⟩
   have hpk := HP.out p (List.mem_of_getElem? hpm)
   obtain ⟨gq,oq,hpq,hcells⟩ := pairV_at (H.at 0 rfl) HP.out m p hpm
   subst hpq
   obtain ⟨z,hz⟩ : ∃ z,Lib.compareBytes p.k k = z := ⟨_,rfl⟩
   have HZ := Lib.hid hz
   have HLT := Lib.hid (show z < 0 ↔ p.n < kn k by rw [← hz];exact cmp_lt _ _ (by rw [hpk.k,HK.out]))
   have HM := Lib.hid hpm
   have HPK := Lib.hid hpk
   have HML := Lib.hid hml
   have HMH := Lib.hid hmh
   have HLH := Lib.hid hlt
   have HIN := Lib.hid hin
   clear hm hpm hpk hz
   go_upto_region 5 with fail
   try rw [hm1]
   have hm0 : 0 ≤ (m : Int) := by omega
   have hm9 : (m : Int) < (n : Int) := by omega
   have hm8 : (m : Int) ≤ 100 := by omega
   clear hlh hin hml hmh hlt hm1 hll hh9 hh0 hl0
   replace H := H.drew
   refine wp_region_T (fun w' => (∀ i u,(byteV p.b)[i]? = some u → w'.cell? ((⟨gq,oq + m * 40,none⟩ : Addr).add i) = some u) ∧ w'.heap[gk]? = some (.cells (byteV k).toArray 67 (0,0))) [6] (by kernel_rfl) ⟨hcells,H.at 1 rfl⟩ (fun hHeld => ?_)
   (refine wpAnyT_take (i := 0) (f := 20) (v := ?_) rfl (by kernel_rfl) (by kernel_rfl) (by kernel_rfl) (by kernel_rfl) (by kernel_rfl) (fun _ _ _ h => h) (Or.inl ⟨by rfl,?_⟩) (by assumption) ?_;rotate_left;focus (intro w hSw;(try dsimp only at hSw);go_simp;all_goals (with_reducible rfl)));(try simp only [Act.put,rp1,rp2,rp3,rp4,rp5,rp6])
   (refine wpAnyT_take (i := 1) (f := 20) (v := ?_) rfl (by kernel_rfl) (by kernel_rfl) (by kernel_rfl) (by kernel_rfl) (by kernel_rfl) (fun _ _ _ h => h) (Or.inl ⟨by rfl,?_⟩) (by assumption) ?_;rotate_left;focus (intro w hSw;(try dsimp only at hSw);go_simp;all_goals (with_reducible rfl)));(try simp only [Act.put,rp1,rp2,rp3,rp4,rp5,rp6])
   (refine wpAnyT_take (i := 2) (f := 20) (v := ?_) rfl (by kernel_rfl) (by kernel_rfl) (by kernel_rfl) (by kernel_rfl) (by kernel_rfl) (fun _ _ _ h => h) (Or.inl ⟨by rfl,?_⟩) (by assumption) ?_;rotate_left;focus (intro w hSw;(try dsimp only at hSw);go_simp;all_goals (with_reducible rfl)));(try simp only [Act.put,rp1,rp2,rp3,rp4,rp5,rp6])
   (refine wpAnyT_take (i := 3) (f := 20) (v := ?_) rfl (by kernel_rfl) (by kernel_rfl) (by kernel_rfl) (by kernel_rfl) (by kernel_rfl) (fun _ _ _ h => h) (Or.inl ⟨by rfl,?_⟩) (by assumption) ?_;rotate_left;focus (intro w hSw;(try dsimp only at hSw);go_simp;all_goals (with_reducible rfl)));(try simp only [Act.put,rp1,rp2,rp3,rp4,rp5,rp6])
   (refine wpAnyT_take (i := 4) (f := 20) rfl (by kernel_rfl) (by kernel_rfl) (by kernel_rfl) (by kernel_rfl) (by kernel_rfl) (fun _ _ _ h => h) ((yieldsIf_load_cells (by rfl) 80 _ rfl ⟨gq,oq + m * 40,none⟩ (by rfl) _ Tryz.underlying80 rfl (byteV p.b) (by rw [sizeP,byteV_length,HPK.out.len]) (fun w h => h.1))) (by assumption) ?_);(try simp only [Act.put,rp1,rp2,rp3,rp4,rp5,rp6])
   (refine wpAnyT_take (i := 5) (f := 20) rfl (by kernel_rfl) (by kernel_rfl) (by kernel_rfl) (by kernel_rfl) (by kernel_rfl) (fun _ _ _ h => h) ((yieldsIf_loadrow (by rfl) 67 _ rfl _ (by rfl) _ _ _ _ Tryz.underlying67 rfl (size_key32 k HK.out) (fun w h => h.2))) (by assumption) ?_);(try simp only [Act.put,rp1,rp2,rp3,rp4,rp5,rp6])
   (refine wpAnyT_one (i := 6) (by kernel_rfl) rfl (fun K hK => ?_));(rw [if_pos (by rfl)]);(go_simp;go_at_call 178;(refine (find1_calls p k HPK.out HK.out _).mono ?_);rintro e W' ⟨rfl,hb⟩;rw [HZ.out];replace H := H.stay (Fix.of_below hb _);clear hb;(try go_wp2_with fail);refine hK.out _ _ (Or.inl ⟨6,by simp,by kernel_rfl⟩) ?_;clear hK K hHeld);(try simp only [Act.put,rp1,rp2,rp3,rp4,rp5,rp6])
   (refine wpAnyT_pure (i := 7) (v := ?_) rfl (by kernel_rfl) (by kernel_rfl) (by kernel_rfl) (by kernel_rfl) (fun _ _ _ h => h) (Or.inl ⟨by rfl,?_⟩) (Or.inl ⟨6,by simp,by kernel_rfl⟩) ?_;rotate_left;focus (intro w hSw;clear hSw;go_simp;all_goals (with_reducible rfl)));(try simp only [Act.put,rp1,rp2,rp3,rp4,rp5,rp6])
   (refine wpAnyT_done (by kernel_rfl) ?_ _)
   clear hcells
   by_cases hz0 : z < 0
   ·go_wp2
    go_roundw
    case rel =>
     refine ⟨m + 1,hi,congrArg _ (by omega),rfl,HMH.out,HIN.out,Lib.hid (fun t q ht hq => ?_),HHI,H⟩
     have h1 := HLT.out.1 hz0
     rcases Nat.lt_or_ge t m with h2 | h2
     ·have := ris_mono HR.out t m q p h2 hq HM.out;omega
     ·obtain rfl : t = m := by omega
      rw [HM.out] at hq;cases hq;exact h1
    case measure => have := HML.out;have := HMH.out;simp [intOf];omega
   ·go_wp2
    go_roundw
    case rel =>
     refine ⟨lo,m,rfl,rfl,HML.out,by have := HMH.out;have := HIN.out;omega,HLO,Lib.hid (fun t q ht hq => ?_),H⟩
     have h1 : ¬ (p.n < kn k) := fun h => hz0 (HLT.out.2 h)
     rcases Nat.lt_or_ge m t with h2 | h2
     ·have := ris_mono HR.out m t p q h2 HM.out hq;omega
     ·obtain rfl : t = m := by omega
      rw [HM.out] at hq;cases hq;omega
    case measure => have := HML.out;have := HMH.out;simp [intOf];omega
  ·obtain rfl : lo = hi := by omega
   have hll : ¬ ((lo : Int) < (lo : Int)) := by omega
   rcases Nat.lt_or_ge lo n with hln | hln
   ·have hln2 : (lo : Int) < (n : Int) := by omega
    obtain ⟨p,hpm⟩ : ∃ p,ps[lo]? = some p := ⟨_,List.getElem?_eq_getElem (by rw [HNL.out];omega)⟩
    have hpk := HP.out p (List.mem_of_getElem? hpm)
    obtain ⟨gq,oq,hpq,hcells⟩ := pairV_at (H.at 0 rfl) HP.out lo p hpm
    subst hpq
    obtain ⟨z,hz⟩ : ∃ z,Lib.compareBytes p.k k = z := ⟨_,rfl⟩
    have HZ := Lib.hid hz
    have HEQ := Lib.hid (show z = 0 ↔ p.n = kn k by rw [← hz];exact cmp_eq _ _ (by rw [hpk.k,HK.out]))
    have HM := Lib.hid hpm
    have HPK := Lib.hid hpk
    have HIN := Lib.hid hin
    clear hpm hpk hz
    go_upto_region 8 with fail
    clear hlh hin hln hge hll
    replace H := H.drew
    refine wp_region_T (fun w' => (∀ i u,(byteV p.b)[i]? = some u → w'.cell? ((⟨gq,oq + lo * 40,none⟩ : Addr).add i) = some u) ∧ w'.heap[gk]? = some (.cells (byteV k).toArray 67 (0,0))) [11] (by kernel_rfl) ⟨hcells,H.at 1 rfl⟩ (fun hHeld => ?_)
    (refine wpAnyT_pure (i := 0) (v := ?_) rfl (by kernel_rfl) (by kernel_rfl) (by kernel_rfl) (by kernel_rfl) (fun _ _ _ h => h) (Or.inl ⟨by rfl,?_⟩) (Or.inr (by assumption)) ?_;rotate_left;focus (intro w hSw;clear hSw;go_simp;all_goals (with_reducible rfl)));(try simp only [Act.put,rp1,rp2,rp3,rp4,rp5,rp6])
    (refine wpAnyT_take (i := 1) (f := 20) (v := ?_) rfl (by kernel_rfl) (by kernel_rfl) (by kernel_rfl) (by kernel_rfl) (by kernel_rfl) (fun _ _ _ h => h) (Or.inl ⟨by rfl,?_⟩) (by assumption) ?_;rotate_left;focus (intro w hSw;(try dsimp only at hSw);go_simp;all_goals (with_reducible rfl)));(try simp only [Act.put,rp1,rp2,rp3,rp4,rp5,rp6])
    (refine wpAnyT_take (i := 2) (f := 20) (v := ?_) rfl (by kernel_rfl) (by kernel_rfl) (by kernel_rfl) (by kernel_rfl) (by kernel_rfl) (fun _ _ _ h => h) (Or.inl ⟨by rfl,?_⟩) (by assumption) ?_;rotate_left;focus (intro w hSw;(try dsimp only at hSw);go_simp;all_goals (with_reducible rfl)));(try simp only [Act.put,rp1,rp2,rp3,rp4,rp5,rp6])
    (refine wpAnyT_take (i := 3) (f := 20) (v := ?_) rfl (by kernel_rfl) (by kernel_rfl) (by kernel_rfl) (by kernel_rfl) (by kernel_rfl) (fun _ _ _ h => h) (Or.inl ⟨by rfl,?_⟩) (by assumption) ?_;rotate_left;focus (intro w hSw;(try dsimp only at hSw);go_simp;all_goals (with_reducible rfl)));(try simp only [Act.put,rp1,rp2,rp3,rp4,rp5,rp6])
    (refine wpAnyT_take (i := 4) (f := 20) (v := ?_) rfl (by kernel_rfl) (by kernel_rfl) (by kernel_rfl) (by kernel_rfl) (by kernel_rfl) (fun _ _ _ h => h) (Or.inl ⟨by rfl,?_⟩) (by assumption) ?_;rotate_left;focus (intro w hSw;(try dsimp only at hSw);go_simp;all_goals (with_reducible rfl)));(try simp only [Act.put,rp1,rp2,rp3,rp4,rp5,rp6])
    (refine wpAnyT_take (i := 5) (f := 20) (v := ?_) rfl (by kernel_rfl) (by kernel_rfl) (by kernel_rfl) (by kernel_rfl) (by kernel_rfl) (fun _ _ _ h => h) (Or.inl ⟨by rfl,?_⟩) (by assumption) ?_;rotate_left;focus (intro w hSw;(try dsimp only at hSw);go_simp;all_goals (with_reducible rfl)));(try simp only [Act.put,rp1,rp2,rp3,rp4,rp5,rp6])
    (refine wpAnyT_take (i := 6) (f := 20) (v := ?_) rfl (by kernel_rfl) (by kernel_rfl) (by kernel_rfl) (by kernel_rfl) (by kernel_rfl) (fun _ _ _ h => h) (Or.inl ⟨by rfl,?_⟩) (by assumption) ?_;rotate_left;focus (intro w hSw;(try dsimp only at hSw);go_simp;all_goals (with_reducible rfl)));(try simp only [Act.put,rp1,rp2,rp3,rp4,rp5,rp6])
    (refine wpAnyT_take (i := 7) (f := 20) (v := ?_) rfl (by kernel_rfl) (by kernel_rfl) (by kernel_rfl) (by kernel_rfl) (by kernel_rfl) (fun _ _ _ h => h) (Or.inl ⟨by rfl,?_⟩) (by assumption) ?_;rotate_left;focus (intro w hSw;(try dsimp only at hSw);go_simp;all_goals (with_reducible rfl)));(try simp only [Act.put,rp1,rp2,rp3,rp4,rp5,rp6])
    (refine wpAnyT_take (i := 8) (f := 20) (v := ?_) rfl (by kernel_rfl) (by kernel_rfl) (by kernel_rfl) (by kernel_rfl) (by kernel_rfl) (fun _ _ _ h => h) (Or.inl ⟨by rfl,?_⟩) (by assumption) ?_;rotate_left;focus (intro w hSw;(try dsimp only at hSw);go_simp;all_goals (with_reducible rfl)));(try simp only [Act.put,rp1,rp2,rp3,rp4,rp5,rp6])
    (refine wpAnyT_take (i := 9) (f := 20) rfl (by kernel_rfl) (by kernel_rfl) (by kernel_rfl) (by kernel_rfl) (by kernel_rfl) (fun _ _ _ h => h) ((yieldsIf_load_cells (by rfl) 80 _ rfl ⟨gq,oq + lo * 40,none⟩ (by rfl) _ Tryz.underlying80 rfl (byteV p.b) (by rw [sizeP,byteV_length,HPK.out.len]) (fun w h => h.1))) (by assumption) ?_);(try simp only [Act.put,rp1,rp2,rp3,rp4,rp5,rp6])
    (refine wpAnyT_take (i := 10) (f := 20) rfl (by kernel_rfl) (by kernel_rfl) (by kernel_rfl) (by kernel_rfl) (by kernel_rfl) (fun _ _ _ h => h) ((yieldsIf_loadrow (by rfl) 67 _ rfl _ (by rfl) _ _ _ _ Tryz.underlying67 rfl (size_key32 k HK.out) (fun w h => h.2))) (by assumption) ?_);(try simp only [Act.put,rp1,rp2,rp3,rp4,rp5,rp6])
    (refine wpAnyT_one (i := 11) (by kernel_rfl) rfl (fun K hK => ?_));(rw [if_pos (by rfl)]);(go_simp;go_at_call 178;(refine (find1_calls p k HPK.out HK.out _).mono ?_);rintro e W' ⟨rfl,hb⟩;rw [HZ.out];replace H := H.stay (Fix.of_below hb _);clear hb;(try go_wp2_with fail);refine hK.out _ _ (Or.inl ⟨11,by simp,by kernel_rfl⟩) ?_;clear hK K hHeld);(try simp only [Act.put,rp1,rp2,rp3,rp4,rp5,rp6])
    (refine wpAnyT_pure (i := 12) (v := ?_) rfl (by kernel_rfl) (by kernel_rfl) (by kernel_rfl) (by kernel_rfl) (fun _ _ _ h => h) (Or.inl ⟨by rfl,?_⟩) (Or.inl ⟨11,by simp,by kernel_rfl⟩) ?_;rotate_left;focus (intro w hSw;clear hSw;go_simp;all_goals (with_reducible rfl)));(try simp only [Act.put,rp1,rp2,rp3,rp4,rp5,rp6])
    (refine wpAnyT_pure (i := 13) (v := ?_) rfl (by kernel_rfl) (by kernel_rfl) (by kernel_rfl) (by kernel_rfl) (fun _ _ _ h => h) (Or.inl ⟨by rfl,?_⟩) (Or.inl ⟨11,by simp,by kernel_rfl⟩) ?_;rotate_left;focus (intro w hSw;clear hSw;go_simp;all_goals (with_reducible rfl)));(try simp only [Act.put,rp1,rp2,rp3,rp4,rp5,rp6])
    (refine wpAnyT_pure (i := 14) (v := ?_) rfl (by kernel_rfl) (by kernel_rfl) (by kernel_rfl) (by kernel_rfl) (fun _ _ _ h => h) (Or.inl ⟨by rfl,?_⟩) (Or.inl ⟨11,by simp,by kernel_rfl⟩) ?_;rotate_left;focus (intro w hSw;clear hSw;go_simp;all_goals (with_reducible rfl)));(try simp only [Act.put,rp1,rp2,rp3,rp4,rp5,rp6])
    (refine wpAnyT_pure (i := 15) (v := ?_) rfl (by kernel_rfl) (by kernel_rfl) (by kernel_rfl) (by kernel_rfl) (fun _ _ _ h => h) (Or.inl ⟨by rfl,?_⟩) (Or.inl ⟨11,by simp,by kernel_rfl⟩) ?_;rotate_left;focus (intro w hSw;clear hSw;go_simp;all_goals (with_reducible rfl)));(try simp only [Act.put,rp1,rp2,rp3,rp4,rp5,rp6])
    (refine wpAnyT_done (by kernel_rfl) ?_ _)
    go_wp2
    refine bodyPost_ret (results_tmp2 rfl _ _ _) rfl ?_
    refine ⟨lo,_,rfl,HIN.out,HLO.out,HHI.out,?_,H.fix.below⟩
    have h1 : (z == 0) = true ↔ ∃ p : PairT,ps[lo]? = some p ∧ p.n = kn k := by
     rw [beq_iff_eq,HEQ.out]
     exact ⟨fun h => ⟨p,HM.out,h⟩,fun ⟨q,hq,h⟩ => by rw [HM.out] at hq;cases hq;exact h⟩
    exact h1
   ·have hln2 : ¬ ((lo : Int) < (n : Int)) := by omega
    have hle : lo = n := by omega
    have HLE := Lib.hid hle
    clear hle hlh hin hln hge hll
    go_upto_region 8 with fail
    replace H := H.drew
    refine wp_region_T (fun _ => True) [] (by kernel_rfl) trivial (fun hHeld => ?_)
    (refine wpAnyT_pure (i := 0) (v := ?_) rfl (by kernel_rfl) (by kernel_rfl) (by kernel_rfl) (by kernel_rfl) (fun _ _ _ h => h) (Or.inl ⟨by rfl,?_⟩) (Or.inr (by assumption)) ?_;rotate_left;focus (intro w hSw;clear hSw;go_simp;all_goals (with_reducible rfl)));(try simp only [Act.put,rp1,rp2,rp3,rp4,rp5,rp6])
    (refine wpAnyT_pure (i := 1) (v := ?_) rfl (by kernel_rfl) (by kernel_rfl) (by kernel_rfl) (by kernel_rfl) (fun _ _ _ h => h) (Or.inl ⟨by rfl,?_⟩) (Or.inr (by assumption)) ?_;rotate_left;focus (intro w hSw;clear hSw;go_simp;all_goals (with_reducible rfl)));(try simp only [Act.put,rp1,rp2,rp3,rp4,rp5,rp6])
    (refine wpAnyT_pure (i := 2) (v := ?_) rfl (by kernel_rfl) (by kernel_rfl) (by kernel_rfl) (by kernel_rfl) (fun _ _ _ h => h) (Or.inl ⟨by rfl,?_⟩) (Or.inr (by assumption)) ?_;rotate_left;focus (intro w hSw;clear hSw;go_simp;all_goals (with_reducible rfl)));(try simp only [Act.put,rp1,rp2,rp3,rp4,rp5,rp6])
    (refine wpAnyT_pure (i := 3) (v := ?_) rfl (by kernel_rfl) (by kernel_rfl) (by kernel_rfl) (by kernel_rfl) (fun _ _ _ h => h) (Or.inl ⟨by rfl,?_⟩) (Or.inr (by assumption)) ?_;rotate_left;focus (intro w hSw;clear hSw;go_simp;all_goals (with_reducible rfl)));(try simp only [Act.put,rp1,rp2,rp3,rp4,rp5,rp6])
    (refine wpAnyT_pure (i := 4) (v := ?_) rfl (by kernel_rfl) (by kernel_rfl) (by kernel_rfl) (by kernel_rfl) (fun _ _ _ h => h) (Or.inl ⟨by rfl,?_⟩) (Or.inr (by assumption)) ?_;rotate_left;focus (intro w hSw;clear hSw;go_simp;all_goals (with_reducible rfl)));(try simp only [Act.put,rp1,rp2,rp3,rp4,rp5,rp6])
    (refine wpAnyT_pure (i := 5) (v := undef) rfl (by kernel_rfl) (by kernel_rfl) (by kernel_rfl) (by kernel_rfl) (fun _ _ _ h => h) (Or.inr ⟨by rfl,rfl⟩) (Or.inr (by assumption)) ?_);(try simp only [Act.put,rp1,rp2,rp3,rp4,rp5,rp6])
    (refine wpAnyT_pure (i := 6) (v := undef) rfl (by kernel_rfl) (by kernel_rfl) (by kernel_rfl) (by kernel_rfl) (fun _ _ _ h => h) (Or.inr ⟨by rfl,rfl⟩) (Or.inr (by assumption)) ?_);(try simp only [Act.put,rp1,rp2,rp3,rp4,rp5,rp6])
    (refine wpAnyT_pure (i := 7) (v := undef) rfl (by kernel_rfl) (by kernel_rfl) (by kernel_rfl) (by kernel_rfl) (fun _ _ _ h => h) (Or.inr ⟨by rfl,rfl⟩) (Or.inr (by assumption)) ?_);(try simp only [Act.put,rp1,rp2,rp3,rp4,rp5,rp6])
    (refine wpAnyT_pure (i := 8) (v := undef) rfl (by kernel_rfl) (by kernel_rfl) (by kernel_rfl) (by kernel_rfl) (fun _ _ _ h => h) (Or.inr ⟨by rfl,rfl⟩) (Or.inr (by assumption)) ?_);(try simp only [Act.put,rp1,rp2,rp3,rp4,rp5,rp6])
    (refine wpAnyT_pure (i := 9) (v := undef) rfl (by kernel_rfl) (by kernel_rfl) (by kernel_rfl) (by kernel_rfl) (fun _ _ _ h => h) (Or.inr ⟨by rfl,rfl⟩) (Or.inr (by assumption)) ?_);(try simp only [Act.put,rp1,rp2,rp3,rp4,rp5,rp6])
    (refine wpAnyT_pure (i := 10) (v := undef) rfl (by kernel_rfl) (by kernel_rfl) (by kernel_rfl) (by kernel_rfl) (fun _ _ _ h => h) (Or.inr ⟨by rfl,rfl⟩) (Or.inr (by assumption)) ?_);(try simp only [Act.put,rp1,rp2,rp3,rp4,rp5,rp6])
    (refine wpAnyT_pure (i := 11) (v := undef) rfl (by kernel_rfl) (by kernel_rfl) (by kernel_rfl) (by kernel_rfl) (fun _ _ _ h => h) (Or.inr ⟨by rfl,rfl⟩) (Or.inr (by assumption)) ?_);(try simp only [Act.put,rp1,rp2,rp3,rp4,rp5,rp6])
    (refine wpAnyT_pure (i := 12) (v := undef) rfl (by kernel_rfl) (by kernel_rfl) (by kernel_rfl) (by kernel_rfl) (fun _ _ _ h => h) (Or.inr ⟨by rfl,rfl⟩) (Or.inr (by assumption)) ?_);(try simp only [Act.put,rp1,rp2,rp3,rp4,rp5,rp6])
    (refine wpAnyT_pure (i := 13) (v := ?_) rfl (by kernel_rfl) (by kernel_rfl) (by kernel_rfl) (by kernel_rfl) (fun _ _ _ h => h) (Or.inl ⟨by rfl,?_⟩) (Or.inr (by assumption)) ?_;rotate_left;focus (intro w hSw;clear hSw;go_simp;all_goals (with_reducible rfl)));(try simp only [Act.put,rp1,rp2,rp3,rp4,rp5,rp6])
    (refine wpAnyT_pure (i := 14) (v := ?_) rfl (by kernel_rfl) (by kernel_rfl) (by kernel_rfl) (by kernel_rfl) (fun _ _ _ h => h) (Or.inl ⟨by rfl,?_⟩) (Or.inr (by assumption)) ?_;rotate_left;focus (intro w hSw;clear hSw;go_simp;all_goals (with_reducible rfl)));(try simp only [Act.put,rp1,rp2,rp3,rp4,rp5,rp6])
    (refine wpAnyT_pure (i := 15) (v := ?_) rfl (by kernel_rfl) (by kernel_rfl) (by kernel_rfl) (by kernel_rfl) (fun _ _ _ h => h) (Or.inl ⟨by rfl,?_⟩) (Or.inr (by assumption)) ?_;rotate_left;focus (intro w hSw;clear hSw;go_simp;all_goals (with_reducible rfl)));(try simp only [Act.put,rp1,rp2,rp3,rp4,rp5,rp6])
    (refine wpAnyT_done (by kernel_rfl) ?_ _)
    go_wp2
    refine bodyPost_ret (results_tmp2 rfl _ _ _) rfl ?_
    have hle := HLE.out
    refine ⟨lo,Or.inl ⟨rfl,by omega,HLO.out,HHI.out,fun p hp _ => ?_,H.fix.below⟩⟩
    have := (List.getElem?_eq_some_iff.1 hp).1
    rw [HNL.out] at this
    omega
set_option maxHeartbeats 8000000 in
theorem bsK_calls {w : World} {pp : Option Addr} {n cp : Nat} {ps : List (List UInt8)} {k : List UInt8} (hrow : (rdA pp (keyV ps)).prop w) (hnl : ps.length = n) (hp : ∀ p ∈ ps,p.length = 32) (hk : k.length = 32) (hr : (ps.map kn).Pairwise (· < ·)) (h6 : n ≤ 100) :
  Calls Tryz.prog 184 #[.slice pp n cp,arrV k,.func (.func 86) #[] #[]] w fun e w' => ∃ (i : Nat) (is : Bool),e = .returned (.tuple #[.int .i64 (i : Int),.bool is]) ∧ i ≤ n ∧
   (∀ (t : Nat) (p : (List UInt8)),t < i → ps[t]? = some p → kn p < kn k) ∧ (∀ (t : Nat) (p : (List UInt8)),i ≤ t → ps[t]? = some p → kn k ≤ kn p) ∧ (is = true ↔ ∃ p : (List UInt8),ps[i]? = some p ∧ kn p = kn k) ∧ Below w.heap.size w w' := by
 have H := St.reads_only (w := w) [rdA pp (keyV ps)] (by intro B hB;obtain rfl := List.mem_singleton.1 hB;exact ⟨hrow,fun _ h => h⟩)
 have HP := Lib.hid hp
 have HK := Lib.hid hk
 have HR := Lib.hid hr
 have HNL := Lib.hid hnl
 have H6 := Lib.hid h6
 have hn0 : 0 ≤ (n : Int) := by omega
 have hn9 : (n : Int) ≤ 100 := by omega
 clear hrow hp hk hr hnl h6
 have tok1 : True := trivial
 go_enter Tryz.func184,Tryz.ntmps184
 go_upto_region 3 with (first
  | (have _t := tok1;clear _t;refine wpList_box_st H rfl 67 _ rfl (arrV _) rfl ?_;clear H tok1;intro W gk H;(try simp only [cells_arrV,List.nil_append,List.cons_append,List.set_cons_zero,List.set_cons_succ] at H)))
 go_loopw [9,10] (fun u v wr => ∃ lo hi : Nat,u = .int .i64 (lo : Int) ∧ v = .int .i64 (hi : Int) ∧ lo ≤ hi ∧ hi ≤ n ∧ Hid (∀ (t : Nat) (p : (List UInt8)),t < lo → ps[t]? = some p → kn p < kn k) ∧ Hid (∀ (t : Nat) (p : (List UInt8)),hi ≤ t → ps[t]? = some p → kn k ≤ kn p) ∧
   St NoBlk (fun _ => True) w wr [rdA pp (keyV ps),blk gk (.cells (byteV k).toArray 67 (0,0))]) (fun u v _ => ((intOf v) - (intOf u)).toNat)
 case atStart => exact ⟨0,n,rfl,rfl,Nat.zero_le _,Nat.le_refl _,Lib.hid (fun t p h _ => absurd h (Nat.not_lt_zero _)),Lib.hid (fun t p h he => absurd (List.getElem?_eq_some_iff.1 he).1 (by rw [HNL.out];omega)),H⟩
 case round =>
  clear H
  obtain ⟨lo,hi,rfl,rfl,hlh,hin,HLO,HHI,H⟩ := hrel
  have hl0 : 0 ≤ (lo : Int) := by omega
  have hh0 : 0 ≤ (hi : Int) := by omega
  have hh9 : (hi : Int) ≤ 100 := by omega
  rcases Nat.lt_or_ge lo hi with hlt | hge
  ·have hll : (lo : Int) < (hi : Int) := by omega
   obtain ⟨m,hm⟩ : ∃ m,(lo + hi) / 2 = m := ⟨_,rfl⟩
   have hm1 : ((lo : Int) + (hi : Int)) / 2 = (m : Int) := by omega
   have hml : lo ≤ m := by omega
   have hmh : m < hi := by omega
   obtain ⟨p,hpm⟩ : ∃ p,ps[m]? = some p := ⟨_,List.getElem?_eq_getElem (by rw [HNL.out];omega)⟩
   have hpk := HP.out p (List.mem_of_getElem? hpm)
   obtain ⟨gq,oq,hpq,hcells⟩ := keyV_at (H.at 0 rfl) HP.out m p hpm
   subst hpq
   obtain ⟨z,hz⟩ : ∃ z,Lib.compareBytes p k = z := ⟨_,rfl⟩
   have HZ := Lib.hid hz
   have HLT := Lib.hid (show z < 0 ↔ kn p < kn k by rw [← hz];exact cmp_lt _ _ (by rw [hpk,HK.out]))
   have HM := Lib.hid hpm
   have HPK := Lib.hid hpk
   have HML := Lib.hid hml
   have HMH := Lib.hid hmh
   have HLH := Lib.hid hlt
   have HIN := Lib.hid hin
   clear hm hpm hpk hz
   go_upto_region 5 with fail
   try rw [hm1]
   have hm0 : 0 ≤ (m : Int) := by omega
   have hm9 : (m : Int) < (n : Int) := by omega
   have hm8 : (m : Int) ≤ 100 := by omega
   clear hlh hin hml hmh hlt hm1 hll hh9 hh0 hl0
   replace H := H.drew
   refine wp_region_T (fun w' => (∀ i u,(byteV p)[i]? = some u → w'.cell? ((⟨gq,oq + m * 32,none⟩ : Addr).add i) = some u) ∧ w'.heap[gk]? = some (.cells (byteV k).toArray 67 (0,0))) [6] (by kernel_rfl) ⟨hcells,H.at 1 rfl⟩ (fun hHeld => ?_)
   (refine wpAnyT_take (i := 0) (f := 20) (v := ?_) rfl (by kernel_rfl) (by kernel_rfl) (by kernel_rfl) (by kernel_rfl) (by kernel_rfl) (fun _ _ _ h => h) (Or.inl ⟨by rfl,?_⟩) (by assumption) ?_;rotate_left;focus (intro w hSw;(try dsimp only at hSw);go_simp;all_goals (with_reducible rfl)));(try simp only [Act.put,rp1,rp2,rp3,rp4,rp5,rp6])
   (refine wpAnyT_take (i := 1) (f := 20) (v := ?_) rfl (by kernel_rfl) (by kernel_rfl) (by kernel_rfl) (by kernel_rfl) (by kernel_rfl) (fun _ _ _ h => h) (Or.inl ⟨by rfl,?_⟩) (by assumption) ?_;rotate_left;focus (intro w hSw;(try dsimp only at hSw);go_simp;all_goals (with_reducible rfl)));(try simp only [Act.put,rp1,rp2,rp3,rp4,rp5,rp6])
   (refine wpAnyT_take (i := 2) (f := 20) (v := ?_) rfl (by kernel_rfl) (by kernel_rfl) (by kernel_rfl) (by kernel_rfl) (by kernel_rfl) (fun _ _ _ h => h) (Or.inl ⟨by rfl,?_⟩) (by assumption) ?_;rotate_left;focus (intro w hSw;(try dsimp only at hSw);go_simp;all_goals (with_reducible rfl)));(try simp only [Act.put,rp1,rp2,rp3,rp4,rp5,rp6])
   (refine wpAnyT_take (i := 3) (f := 20) (v := ?_) rfl (by kernel_rfl) (by kernel_rfl) (by kernel_rfl) (by kernel_rfl) (by kernel_rfl) (fun _ _ _ h => h) (Or.inl ⟨by rfl,?_⟩) (by assumption) ?_;rotate_left;focus (intro w hSw;(try dsimp only at hSw);go_simp;all_goals (with_reducible rfl)));(try simp only [Act.put,rp1,rp2,rp3,rp4,rp5,rp6])
   (refine wpAnyT_take (i := 4) (f := 20) rfl (by kernel_rfl) (by kernel_rfl) (by kernel_rfl) (by kernel_rfl) (by kernel_rfl) (fun _ _ _ h => h) ((yieldsIf_load_cells (by rfl) 67 _ rfl ⟨gq,oq + m * 32,none⟩ (by rfl) _ Tryz.underlying67 rfl (byteV p) (by rw [sizeK,byteV_length,HPK.out]) (fun w h => h.1))) (by assumption) ?_);(try simp only [Act.put,rp1,rp2,rp3,rp4,rp5,rp6])
   (refine wpAnyT_take (i := 5) (f := 20) rfl (by kernel_rfl) (by kernel_rfl) (by kernel_rfl) (by kernel_rfl) (by kernel_rfl) (fun _ _ _ h => h) ((yieldsIf_loadrow (by rfl) 67 _ rfl _ (by rfl) _ _ _ _ Tryz.underlying67 rfl (size_key32 k HK.out) (fun w h => h.2))) (by assumption) ?_);(try simp only [Act.put,rp1,rp2,rp3,rp4,rp5,rp6])
   (refine wpAnyT_one (i := 6) (by kernel_rfl) rfl (fun K hK => ?_));(rw [if_pos (by rfl)]);(go_simp;go_at_call 86;(refine (order_calls p k HPK.out HK.out _).mono ?_);rintro e W' ⟨rfl,hb⟩;rw [HZ.out];replace H := H.stay (Fix.of_below hb _);clear hb;(try go_wp2_with fail);refine hK.out _ _ (Or.inl ⟨6,by simp,by kernel_rfl⟩) ?_;clear hK K hHeld);(try simp only [Act.put,rp1,rp2,rp3,rp4,rp5,rp6])
   (refine wpAnyT_pure (i := 7) (v := ?_) rfl (by kernel_rfl) (by kernel_rfl) (by kernel_rfl) (by kernel_rfl) (fun _ _ _ h => h) (Or.inl ⟨by rfl,?_⟩) (Or.inl ⟨6,by simp,by kernel_rfl⟩) ?_;rotate_left;focus (intro w hSw;clear hSw;go_simp;all_goals (with_reducible rfl)));(try simp only [Act.put,rp1,rp2,rp3,rp4,rp5,rp6])
   (refine wpAnyT_done (by kernel_rfl) ?_ _)
   clear hcells
   by_cases hz0 : z < 0
   ·go_wp2
    go_roundw
    case rel =>
     refine ⟨m + 1,hi,congrArg _ (by omega),rfl,HMH.out,HIN.out,Lib.hid (fun t q ht hq => ?_),HHI,H⟩
     have h1 := HLT.out.1 hz0
     rcases Nat.lt_or_ge t m with h2 | h2
     ·have := keys_mono HR.out t m q p h2 hq HM.out;omega
     ·obtain rfl : t = m := by omega
      rw [HM.out] at hq;cases hq;exact h1
    case measure => have := HML.out;have := HMH.out;simp [intOf];omega
   ·go_wp2
    go_roundw
    case rel =>
     refine ⟨lo,m,rfl,rfl,HML.out,by have := HMH.out;have := HIN.out;omega,HLO,Lib.hid (fun t q ht hq => ?_),H⟩
     have h1 : ¬ (kn p < kn k) := fun h => hz0 (HLT.out.2 h)
     rcases Nat.lt_or_ge m t with h2 | h2
     ·have := keys_mono HR.out m t p q h2 HM.out hq;omega
     ·obtain rfl : t = m := by omega
      rw [HM.out] at hq;cases hq;omega
    case measure => have := HML.out;have := HMH.out;simp [intOf];omega
  ·obtain rfl : lo = hi := by omega
   have hll : ¬ ((lo : Int) < (lo : Int)) := by omega
   rcases Nat.lt_or_ge lo n with hln | hln
   ·have hln2 : (lo : Int) < (n : Int) := by omega
    obtain ⟨p,hpm⟩ : ∃ p,ps[lo]? = some p := ⟨_,List.getElem?_eq_getElem (by rw [HNL.out];omega)⟩
    have hpk := HP.out p (List.mem_of_getElem? hpm)
    obtain ⟨gq,oq,hpq,hcells⟩ := keyV_at (H.at 0 rfl) HP.out lo p hpm
    subst hpq
    obtain ⟨z,hz⟩ : ∃ z,Lib.compareBytes p k = z := ⟨_,rfl⟩
    have HZ := Lib.hid hz
    have HEQ := Lib.hid (show z = 0 ↔ kn p = kn k by rw [← hz];exact cmp_eq _ _ (by rw [hpk,HK.out]))
    have HM := Lib.hid hpm
    have HPK := Lib.hid hpk
    have HIN := Lib.hid hin
    clear hpm hpk hz
    go_upto_region 8 with fail
    clear hlh hin hln hge hll
    replace H := H.drew
    refine wp_region_T (fun w' => (∀ i u,(byteV p)[i]? = some u → w'.cell? ((⟨gq,oq + lo * 32,none⟩ : Addr).add i) = some u) ∧ w'.heap[gk]? = some (.cells (byteV k).toArray 67 (0,0))) [11] (by kernel_rfl) ⟨hcells,H.at 1 rfl⟩ (fun hHeld => ?_)
    (refine wpAnyT_pure (i := 0) (v := ?_) rfl (by kernel_rfl) (by kernel_rfl) (by kernel_rfl) (by kernel_rfl) (fun _ _ _ h => h) (Or.inl ⟨by rfl,?_⟩) (Or.inr (by assumption)) ?_;rotate_left;focus (intro w hSw;clear hSw;go_simp;all_goals (with_reducible rfl)));(try simp only [Act.put,rp1,rp2,rp3,rp4,rp5,rp6])
    (refine wpAnyT_take (i := 1) (f := 20) (v := ?_) rfl (by kernel_rfl) (by kernel_rfl) (by kernel_rfl) (by kernel_rfl) (by kernel_rfl) (fun _ _ _ h => h) (Or.inl ⟨by rfl,?_⟩) (by assumption) ?_;rotate_left;focus (intro w hSw;(try dsimp only at hSw);go_simp;all_goals (with_reducible rfl)));(try simp only [Act.put,rp1,rp2,rp3,rp4,rp5,rp6])
    (refine wpAnyT_take (i := 2) (f := 20) (v := ?_) rfl (by kernel_rfl) (by kernel_rfl) (by kernel_rfl) (by kernel_rfl) (by kernel_rfl) (fun _ _ _ h => h) (Or.inl ⟨by rfl,?_⟩) (by assumption) ?_;rotate_left;focus (intro w hSw;(try dsimp only at hSw);go_simp;all_goals (with_reducible rfl)));(try simp only [Act.put,rp1,rp2,rp3,rp4,rp5,rp6])
    (refine wpAnyT_take (i := 3) (f := 20) (v := ?_) rfl (by kernel_rfl) (by kernel_rfl) (by kernel_rfl) (by kernel_rfl) (by kernel_rfl) (fun _ _ _ h => h) (Or.inl ⟨by rfl,?_⟩) (by assumption) ?_;rotate_left;focus (intro w hSw;(try dsimp only at hSw);go_simp;all_goals (with_reducible rfl)));(try simp only [Act.put,rp1,rp2,rp3,rp4,rp5,rp6])
    (refine wpAnyT_take (i := 4) (f := 20) (v := ?_) rfl (by kernel_rfl) (by kernel_rfl) (by kernel_rfl) (by kernel_rfl) (by kernel_rfl) (fun _ _ _ h => h) (Or.inl ⟨by rfl,?_⟩) (by assumption) ?_;rotate_left;focus (intro w hSw;(try dsimp only at hSw);go_simp;all_goals (with_reducible rfl)));(try simp only [Act.put,rp1,rp2,rp3,rp4,rp5,rp6])
    (refine wpAnyT_take (i := 5) (f := 20) (v := ?_) rfl (by kernel_rfl) (by kernel_rfl) (by kernel_rfl) (by kernel_rfl) (by kernel_rfl) (fun _ _ _ h => h) (Or.inl ⟨by rfl,?_⟩) (by assumption) ?_;rotate_left;focus (intro w hSw;(try dsimp only at hSw);go_simp;all_goals (with_reducible rfl)));(try simp only [Act.put,rp1,rp2,rp3,rp4,rp5,rp6])
    (refine wpAnyT_take (i := 6) (f := 20) (v := ?_) rfl (by kernel_rfl) (by kernel_rfl) (by kernel_rfl) (by kernel_rfl) (by kernel_rfl) (fun _ _ _ h => h) (Or.inl ⟨by rfl,?_⟩) (by assumption) ?_;rotate_left;focus (intro w hSw;(try dsimp only at hSw);go_simp;all_goals (with_reducible rfl)));(try simp only [Act.put,rp1,rp2,rp3,rp4,rp5,rp6])
    (refine wpAnyT_take (i := 7) (f := 20) (v := ?_) rfl (by kernel_rfl) (by kernel_rfl) (by kernel_rfl) (by kernel_rfl) (by kernel_rfl) (fun _ _ _ h => h) (Or.inl ⟨by rfl,?_⟩) (by assumption) ?_;rotate_left;focus (intro w hSw;(try dsimp only at hSw);go_simp;all_goals (with_reducible rfl)));(try simp only [Act.put,rp1,rp2,rp3,rp4,rp5,rp6])
    (refine wpAnyT_take (i := 8) (f := 20) (v := ?_) rfl (by kernel_rfl) (by kernel_rfl) (by kernel_rfl) (by kernel_rfl) (by kernel_rfl) (fun _ _ _ h => h) (Or.inl ⟨by rfl,?_⟩) (by assumption) ?_;rotate_left;focus (intro w hSw;(try dsimp only at hSw);go_simp;all_goals (with_reducible rfl)));(try simp only [Act.put,rp1,rp2,rp3,rp4,rp5,rp6])
    (refine wpAnyT_take (i := 9) (f := 20) rfl (by kernel_rfl) (by kernel_rfl) (by kernel_rfl) (by kernel_rfl) (by kernel_rfl) (fun _ _ _ h => h) ((yieldsIf_load_cells (by rfl) 67 _ rfl ⟨gq,oq + lo * 32,none⟩ (by rfl) _ Tryz.underlying67 rfl (byteV p) (by rw [sizeK,byteV_length,HPK.out]) (fun w h => h.1))) (by assumption) ?_);(try simp only [Act.put,rp1,rp2,rp3,rp4,rp5,rp6])
    (refine wpAnyT_take (i := 10) (f := 20) rfl (by kernel_rfl) (by kernel_rfl) (by kernel_rfl) (by kernel_rfl) (by kernel_rfl) (fun _ _ _ h => h) ((yieldsIf_loadrow (by rfl) 67 _ rfl _ (by rfl) _ _ _ _ Tryz.underlying67 rfl (size_key32 k HK.out) (fun w h => h.2))) (by assumption) ?_);(try simp only [Act.put,rp1,rp2,rp3,rp4,rp5,rp6])
    (refine wpAnyT_one (i := 11) (by kernel_rfl) rfl (fun K hK => ?_));(rw [if_pos (by rfl)]);(go_simp;go_at_call 86;(refine (order_calls p k HPK.out HK.out _).mono ?_);rintro e W' ⟨rfl,hb⟩;rw [HZ.out];replace H := H.stay (Fix.of_below hb _);clear hb;(try go_wp2_with fail);refine hK.out _ _ (Or.inl ⟨11,by simp,by kernel_rfl⟩) ?_;clear hK K hHeld);(try simp only [Act.put,rp1,rp2,rp3,rp4,rp5,rp6])
    (refine wpAnyT_pure (i := 12) (v := ?_) rfl (by kernel_rfl) (by kernel_rfl) (by kernel_rfl) (by kernel_rfl) (fun _ _ _ h => h) (Or.inl ⟨by rfl,?_⟩) (Or.inl ⟨11,by simp,by kernel_rfl⟩) ?_;rotate_left;focus (intro w hSw;clear hSw;go_simp;all_goals (with_reducible rfl)));(try simp only [Act.put,rp1,rp2,rp3,rp4,rp5,rp6])
    (refine wpAnyT_pure (i := 13) (v := ?_) rfl (by kernel_rfl) (by kernel_rfl) (by kernel_rfl) (by kernel_rfl) (fun _ _ _ h => h) (Or.inl ⟨by rfl,?_⟩) (Or.inl ⟨11,by simp,by kernel_rfl⟩) ?_;rotate_left;focus (intro w hSw;clear hSw;go_simp;all_goals (with_reducible rfl)));(try simp only [Act.put,rp1,rp2,rp3,rp4,rp5,rp6])
    (refine wpAnyT_pure (i := 14) (v := ?_) rfl (by kernel_rfl) (by kernel_rfl) (by kernel_rfl) (by kernel_rfl) (fun _ _ _ h => h) (Or.inl ⟨by rfl,?_⟩) (Or.inl ⟨11,by simp,by kernel_rfl⟩) ?_;rotate_left;focus (intro w hSw;clear hSw;go_simp;all_goals (with_reducible rfl)));(try simp only [Act.put,rp1,rp2,rp3,rp4,rp5,rp6])
    (refine wpAnyT_pure (i := 15) (v := ?_) rfl (by kernel_rfl) (by kernel_rfl) (by kernel_rfl) (by kernel_rfl) (fun _ _ _ h => h) (Or.inl ⟨by rfl,?_⟩) (Or.inl ⟨11,by simp,by kernel_rfl⟩) ?_;rotate_left;focus (intro w hSw;clear hSw;go_simp;all_goals (with_reducible rfl)));(try simp only [Act.put,rp1,rp2,rp3,rp4,rp5,rp6])
    (refine wpAnyT_done (by kernel_rfl) ?_ _)
    go_wp2
    refine bodyPost_ret (results_tmp2 rfl _ _ _) rfl ?_
    refine ⟨lo,_,rfl,HIN.out,HLO.out,HHI.out,?_,H.fix.below⟩
    have h1 : (z == 0) = true ↔ ∃ p : (List UInt8),ps[lo]? = some p ∧ kn p = kn k := by
     rw [beq_iff_eq,HEQ.out]
     exact ⟨fun h => ⟨p,HM.out,h⟩,fun ⟨q,hq,h⟩ => by rw [HM.out] at hq;cases hq;exact h⟩
    exact h1
   ·have hln2 : ¬ ((lo : Int) < (n : Int)) := by omega
    have hle : lo = n := by omega
    have HLE := Lib.hid hle
    clear hle hlh hin hln hge hll
    go_upto_region 8 with fail
    replace H := H.drew
    refine wp_region_T (fun _ => True) [] (by kernel_rfl) trivial (fun hHeld => ?_)
    (refine wpAnyT_pure (i := 0) (v := ?_) rfl (by kernel_rfl) (by kernel_rfl) (by kernel_rfl) (by kernel_rfl) (fun _ _ _ h => h) (Or.inl ⟨by rfl,?_⟩) (Or.inr (by assumption)) ?_;rotate_left;focus (intro w hSw;clear hSw;go_simp;all_goals (with_reducible rfl)));(try simp only [Act.put,rp1,rp2,rp3,rp4,rp5,rp6])
    (refine wpAnyT_pure (i := 1) (v := ?_) rfl (by kernel_rfl) (by kernel_rfl) (by kernel_rfl) (by kernel_rfl) (fun _ _ _ h => h) (Or.inl ⟨by rfl,?_⟩) (Or.inr (by assumption)) ?_;rotate_left;focus (intro w hSw;clear hSw;go_simp;all_goals (with_reducible rfl)));(try simp only [Act.put,rp1,rp2,rp3,rp4,rp5,rp6])
    (refine wpAnyT_pure (i := 2) (v := ?_) rfl (by kernel_rfl) (by kernel_rfl) (by kernel_rfl) (by kernel_rfl) (fun _ _ _ h => h) (Or.inl ⟨by rfl,?_⟩) (Or.inr (by assumption)) ?_;rotate_left;focus (intro w hSw;clear hSw;go_simp;all_goals (with_reducible rfl)));(try simp only [Act.put,rp1,rp2,rp3,rp4,rp5,rp6])
    (refine wpAnyT_pure (i := 3) (v := ?_) rfl (by kernel_rfl) (by kernel_rfl) (by kernel_rfl) (by kernel_rfl) (fun _ _ _ h => h) (Or.inl ⟨by rfl,?_⟩) (Or.inr (by assumption)) ?_;rotate_left;focus (intro w hSw;clear hSw;go_simp;all_goals (with_reducible rfl)));(try simp only [Act.put,rp1,rp2,rp3,rp4,rp5,rp6])
    (refine wpAnyT_pure (i := 4) (v := ?_) rfl (by kernel_rfl) (by kernel_rfl) (by kernel_rfl) (by kernel_rfl) (fun _ _ _ h => h) (Or.inl ⟨by rfl,?_⟩) (Or.inr (by assumption)) ?_;rotate_left;focus (intro w hSw;clear hSw;go_simp;all_goals (with_reducible rfl)));(try simp only [Act.put,rp1,rp2,rp3,rp4,rp5,rp6])
    (refine wpAnyT_pure (i := 5) (v := undef) rfl (by kernel_rfl) (by kernel_rfl) (by kernel_rfl) (by kernel_rfl) (fun _ _ _ h => h) (Or.inr ⟨by rfl,rfl⟩) (Or.inr (by assumption)) ?_);(try simp only [Act.put,rp1,rp2,rp3,rp4,rp5,rp6])
    (refine wpAnyT_pure (i := 6) (v := undef) rfl (by kernel_rfl) (by kernel_rfl) (by kernel_rfl) (by kernel_rfl) (fun _ _ _ h => h) (Or.inr ⟨by rfl,rfl⟩) (Or.inr (by assumption)) ?_);(try simp only [Act.put,rp1,rp2,rp3,rp4,rp5,rp6])
    (refine wpAnyT_pure (i := 7) (v := undef) rfl (by kernel_rfl) (by kernel_rfl) (by kernel_rfl) (by kernel_rfl) (fun _ _ _ h => h) (Or.inr ⟨by rfl,rfl⟩) (Or.inr (by assumption)) ?_);(try simp only [Act.put,rp1,rp2,rp3,rp4,rp5,rp6])
    (refine wpAnyT_pure (i := 8) (v := undef) rfl (by kernel_rfl) (by kernel_rfl) (by kernel_rfl) (by kernel_rfl) (fun _ _ _ h => h) (Or.inr ⟨by rfl,rfl⟩) (Or.inr (by assumption)) ?_);(try simp only [Act.put,rp1,rp2,rp3,rp4,rp5,rp6])
    (refine wpAnyT_pure (i := 9) (v := undef) rfl (by kernel_rfl) (by kernel_rfl) (by kernel_rfl) (by kernel_rfl) (fun _ _ _ h => h) (Or.inr ⟨by rfl,rfl⟩) (Or.inr (by assumption)) ?_);(try simp only [Act.put,rp1,rp2,rp3,rp4,rp5,rp6])
    (refine wpAnyT_pure (i := 10) (v := undef) rfl (by kernel_rfl) (by kernel_rfl) (by kernel_rfl) (by kernel_rfl) (fun _ _ _ h => h) (Or.inr ⟨by rfl,rfl⟩) (Or.inr (by assumption)) ?_);(try simp only [Act.put,rp1,rp2,rp3,rp4,rp5,rp6])
    (refine wpAnyT_pure (i := 11) (v := undef) rfl (by kernel_rfl) (by kernel_rfl) (by kernel_rfl) (by kernel_rfl) (fun _ _ _ h => h) (Or.inr ⟨by rfl,rfl⟩) (Or.inr (by assumption)) ?_);(try simp only [Act.put,rp1,rp2,rp3,rp4,rp5,rp6])
    (refine wpAnyT_pure (i := 12) (v := undef) rfl (by kernel_rfl) (by kernel_rfl) (by kernel_rfl) (by kernel_rfl) (fun _ _ _ h => h) (Or.inr ⟨by rfl,rfl⟩) (Or.inr (by assumption)) ?_);(try simp only [Act.put,rp1,rp2,rp3,rp4,rp5,rp6])
    (refine wpAnyT_pure (i := 13) (v := ?_) rfl (by kernel_rfl) (by kernel_rfl) (by kernel_rfl) (by kernel_rfl) (fun _ _ _ h => h) (Or.inl ⟨by rfl,?_⟩) (Or.inr (by assumption)) ?_;rotate_left;focus (intro w hSw;clear hSw;go_simp;all_goals (with_reducible rfl)));(try simp only [Act.put,rp1,rp2,rp3,rp4,rp5,rp6])
    (refine wpAnyT_pure (i := 14) (v := ?_) rfl (by kernel_rfl) (by kernel_rfl) (by kernel_rfl) (by kernel_rfl) (fun _ _ _ h => h) (Or.inl ⟨by rfl,?_⟩) (Or.inr (by assumption)) ?_;rotate_left;focus (intro w hSw;clear hSw;go_simp;all_goals (with_reducible rfl)));(try simp only [Act.put,rp1,rp2,rp3,rp4,rp5,rp6])
    (refine wpAnyT_pure (i := 15) (v := ?_) rfl (by kernel_rfl) (by kernel_rfl) (by kernel_rfl) (by kernel_rfl) (fun _ _ _ h => h) (Or.inl ⟨by rfl,?_⟩) (Or.inr (by assumption)) ?_;rotate_left;focus (intro w hSw;clear hSw;go_simp;all_goals (with_reducible rfl)));(try simp only [Act.put,rp1,rp2,rp3,rp4,rp5,rp6])
    (refine wpAnyT_done (by kernel_rfl) ?_ _)
    go_wp2
    refine bodyPost_ret (results_tmp2 rfl _ _ _) rfl ?_
    have hle := HLE.out
    refine ⟨lo,Or.inl ⟨rfl,by omega,HLO.out,HHI.out,fun p hp _ => ?_,H.fix.below⟩⟩
    have := (List.getElem?_eq_some_iff.1 hp).1
    rw [HNL.out] at this
    omega
end Go.Proofs.YtlgciddnpinpbaaGreatDoor
