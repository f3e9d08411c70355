/- Texts of this proof, packed. -/
import Derived.Test.YtlgciddnpinpbaaGreatDoorPkBase4
import Derived.Test.YtlgciddnpinpbaaGreatDoorPqB
import Derived.Lib.AppendZerosOnto
import Derived.Lib.Overlaps
import Derived.Laws.Externs
import Derived.StillTailTactics
set_option linter.unusedSimpArgs false
set_option linter.unusedVariables false
namespace Go.Proofs.YtlgciddnpinpbaaGreatDoor
open Go.RowKit
set_option maxRecDepth 4000
section
variable {P : Program} {ops : Array Oper} {rest : List Oper} {o : Oper} {a : Act} {Q : Exit → Act → World → Prop}
variable {M0 R0 : Nat → Prop} {w0 W : World} {L : List Asrt}
theorem wp_copy_row (H : St M0 R0 w0 W L) (i : Nat) {K : Act → World → Prop} (d s : Operand) (dT sT : TypeId)
  (ho : o.op = .call { callee := .builtin .copy,args := #[d,s],argTypes := #[dT,sT] }) (elem : TypeId) (hu : P.underlying dT = some (.slice elem)) (k : Nat) (hsz : (P.info? elem).map (·.size) = some k)
  (g off dLen dCap : Nat) (hd : a.eval d = .slice (some ⟨g,off,none⟩) dLen dCap) (ad : Addr) (sLen sCap : Nat) (hs : a.eval s = .slice (some ad) sLen sCap)
  (n : Nat) (hn : min sLen dLen = n) (us : List Value) (hul : us.length = n * k) (hus : ∀ j u,us[j]? = some u → W.cell? (ad.add j) = some u) (h1 : ∀ u ∈ us,u.oneCell' = true)
  (cs : List Value) (t : TypeId) (hi : L[i]? = some (blk g (.cells cs.toArray t (0,0)))) (hfit : off + us.length ≤ cs.length)
  (h : ∀ W',St M0 R0 w0 W' (L.set i (blk g (.cells (cs.take off ++ us ++ cs.drop (off + us.length)).toArray t (0,0)))) → K (a.put o.dst (goInt n)) W') : o.wp P a W K Q := by
 have hg := H.at i hi
 have hst := run_storeCells_at P g off t us 0 _ W hg (by simpa using hfit) h1
 simp only [Nat.add_zero,List.toList_toArray] at hst
 have h' := h _ (H.setRow i hi (cs.take off ++ us ++ cs.drop (off + us.length)).toArray)
 cases hq : P.info? elem with
 | none => simp [hq] at hsz
 | some j =>
  have hj : j.size = k := by simpa [hq] using hsz
  have hfc := run_firstCells_some (P := P) W j.size n ad sLen sCap us (by rw [hj];exact hul) hus
  have hmin : Nat.min sLen dLen = n := hn
  have hrun : (Builtin.copy_ #[dT,sT] o.type #[.slice (some ⟨g,off,none⟩) dLen dCap,.slice (some ad) sLen sCap]).run P W = .ok (goInt n) (W.setRow g (cs.take off ++ us ++ cs.drop (off + us.length)).toArray) := by
   simp [Builtin.copy_,run_underlying hu,Builtin.lenOf,sizeOf,typeInfo,hq,hmin,hfc]
   simp only [List.append_assoc] at hst
   rw [hst]
   rfl
  unfold Oper.wp execOp
  simp only [ho,resolve,invoke,builtin,Sem.run_bind,Sem.run_pure,Result.andThen_ok,List.map_toArray,List.map_cons,List.map_nil,hd,hs,hrun]
  exact h'
theorem wpList_copy_row (H : St M0 R0 w0 W L) (i : Nat) (hwt : Region.wanted o (yielded ops a.tmps) = true) (d s : Operand) (dT sT : TypeId)
  (ho : o.op = .call { callee := .builtin .copy,args := #[d,s],argTypes := #[dT,sT] }) (elem : TypeId) (hu : P.underlying dT = some (.slice elem)) (k : Nat) (hsz : (P.info? elem).map (·.size) = some k)
  (g off dLen dCap : Nat) (hd : a.eval d = .slice (some ⟨g,off,none⟩) dLen dCap) (ad : Addr) (sLen sCap : Nat) (hs : a.eval s = .slice (some ad) sLen sCap)
  (n : Nat) (hn : min sLen dLen = n) (us : List Value) (hul : us.length = n * k) (hus : ∀ j u,us[j]? = some u → W.cell? (ad.add j) = some u) (h1 : ∀ u ∈ us,u.oneCell' = true)
  (cs : List Value) (t : TypeId) (hi : L[i]? = some (blk g (.cells cs.toArray t (0,0)))) (hfit : off + us.length ≤ cs.length)
  (h : ∀ W',St M0 R0 w0 W' (L.set i (blk g (.cells (cs.take off ++ us ++ cs.drop (off + us.length)).toArray t (0,0)))) → wpList P ops Q rest (a.put o.dst (goInt n)) W') : wpList P ops Q (o :: rest) a W :=
 wpList_want hwt fun K hK => wp_copy_row H i d s dT sT ho elem hu k hsz g off dLen dCap hd ad sLen sCap hs n hn us hul hus h1 cs t hi hfit fun W' H' => hK _ _ (h W' H')
theorem wpList_appz_grow (H : St M0 R0 w0 W L) (hwt : Region.wanted o (yielded ops a.tmps) = true) (s x : Operand) (T TI : TypeId)
  (ho : o.op = .call { callee := .builtin .append,args := #[s,x],argTypes := #[T,TI] }) (e : TypeId) (ht : P.underlying T = some (.slice e)) (kn : IntKind) (htn : P.underlying TI = some (.int kn)) (z : Value) (k b : Nat) (hi : (P.info? e).map (fun i => (i.zero,i.size,i.bytes)) = some (some z,k,b)) (hzk : z.cells.size = k) (hk : 0 < k)
  (base : Option Addr) (n cap : Nat) (hs : a.eval s = .slice base n cap) (olds : List Value) (hol : olds.length = n * k) (hold : ∀ ad,base = some ad → ∀ j u,olds[j]? = some u → W.cell? (ad.add j) = some u) (hb : base = none → n = 0)
  (kq : IntKind) (m : Nat) (hx : a.eval x = .int kq (m : Int)) (N : Nat) (hN : n + m = N) (hm0 : 0 < m) (hgrow : cap < n + m) (h63 : n + m ≤ maxLen) (hbytes : (n + m) * b ≤ 140737488355328)
  (h : ∀ W' g' cap' junk,St M0 R0 w0 W' (L ++ [blk g' (.cells (olds ++ junk).toArray e (0,0))]) → (olds ++ junk).length = cap' * k → N ≤ cap' → cap' ≤ maxLen → wpList P ops Q rest (a.put o.dst (.slice (some ⟨g',0,none⟩) N cap')) W') : wpList P ops Q (o :: rest) a W := by
 subst hN
 refine wpList_want hwt fun K hK => ?_
 obtain ⟨i,hii,hz,hsz,hby⟩ := info_parts hi
 have hfc : (Builtin.firstCells i.size n (.slice base n cap)).run P W.drew = .ok olds.toArray W.drew := by
  cases base with
  | none =>
   have h0 := hb rfl
   subst h0
   rw [List.length_eq_zero_iff.1 (by simpa using hol : olds.length = 0)]
   exact run_firstCells_none W.drew i.size 0 0 cap
  | some ad => exact run_firstCells_some W.drew i.size n ad n cap olds (by rw [hsz];exact hol) (fun j u hu => hold ad rfl j u hu)
 have hmb : m * b ≤ 140737488355328 := Nat.le_trans (Nat.mul_le_mul_right _ (by omega)) hbytes
 have hr := Lib.run_append_grow_zeros (P := P) W T TI o.type e i z kq kn ht htn hii hz base n cap olds hfc m hm0 (by rw [hsz];exact hk) hgrow (by simp only [maxLen] at h63;omega) (by rw [hby];omega) (growslice_fits (by omega) (by rw [hby];exact hbytes))
 have hge := grownCap_ge W (n + m) cap e
 have hle := grownCap_le_maxLen W (n + m) cap e h63
 have e2 : olds.toArray ++ Builtin.zeroCells z.cells m ++ Builtin.zeroCells z.cells (grownCap W (n + m) cap e - (n + m)) = (olds ++ ((Builtin.zeroCells z.cells m).toList ++ (Builtin.zeroCells z.cells (grownCap W (n + m) cap e - (n + m))).toList)).toArray := by
  apply Array.ext'
  simp
 rw [e2] at hr
 have h' := hK _ _ (h _ W.heap.size (grownCap W (n + m) cap e) ((Builtin.zeroCells z.cells m).toList ++ (Builtin.zeroCells z.cells (grownCap W (n + m) cap e - (n + m))).toList) (H.drew.alloc _)
  (by
   simp only [List.length_append,Array.length_toList,size_zeroCells,hzk,hol]
   rw [← Nat.add_mul,← Nat.add_mul]
   congr 1
   omega) hge hle)
 unfold Oper.wp execOp
 simp only [ho,resolve,invoke,builtin,Sem.run_bind,Sem.run_pure,Result.andThen_ok,List.map_toArray,List.map_cons,List.map_nil,hs,hx,hr]
 exact h'
theorem St.ownBlk (H : St M0 R0 w0 W L) (i : Nat) {e : TypeId} {k : Nat} {p : Option Addr} {n cap : Nat} {xs : List Value} (hi : L[i]? = some (ownS e k p n cap xs)) (hn : 0 < n) :
  ∃ (g : Nat) (cs : List Value),p = some ⟨g,0,none⟩ ∧ n ≤ cap ∧ cap ≤ maxLen ∧ cs.length = cap * k ∧ cs.take (n * k) = xs ∧ St M0 R0 w0 W (L.set i (blk g (.cells cs.toArray e (0,0)))) := by
 have h := H.at i hi
 rcases h.2 with ⟨e1,h0⟩ | ⟨g,cap',cur,e1,hb,hg,h3,h4,h5,h6⟩
 ·omega
 ·cases e1
  refine ⟨g,cur.toList,rfl,h3,h4,by rw [Array.length_toList];exact h5,h6,H.recast i hi (fun _ => by rw [Array.toArray_toList];exact hg) (fun k hk => ?_) (fun k hk => hk.elim)⟩
  exact ⟨_,rfl,hk⟩
theorem St.blkOwn (H : St M0 R0 w0 W L) (i : Nat) {e : TypeId} (k : Nat) {g : Nat} (n cap : Nat) {cs : List Value} (hi : L[i]? = some (blk g (.cells cs.toArray e (0,0)))) (hn : n ≤ cap) (hm : cap ≤ maxLen) (hl : cs.length = cap * k) :
  St M0 R0 w0 W (L.set i (ownS e k (some ⟨g,0,none⟩) n cap (cs.take (n * k)))) := by
 refine H.recast i hi (fun hg => ⟨?_,.inr ⟨g,cap,cs.toArray,rfl,Nat.zero_le _,hg,hn,hm,by simpa using hl,by simp⟩⟩) (fun j ⟨ad,e1,e2⟩ => by cases e1;exact e2) (fun j hk => hk.elim)
 rw [List.length_take,hl]
 exact Nat.min_eq_left (Nat.mul_le_mul_right _ hn)
theorem blk_cell {g : Nat} {cs : List Value} {t : TypeId} (h : W.heap[g]? = some (.cells cs.toArray t (0,0))) {off j : Nat} {u : Value} (hu : (cs.drop off)[j]? = some u) : W.cell? ((⟨g,off,none⟩ : Addr).add j) = some u := by
 rw [Addr.add_lit,cell_of_row W g (off + j) _ _ _ h]
 rw [List.getElem?_drop] at hu
 simpa using hu
end
end Go.Proofs.YtlgciddnpinpbaaGreatDoor
namespace Go.Proofs.YtlgciddnpinpbaaGreatDoor
open Go.RowKit
set_option maxRecDepth 40000
theorem sizeOf_info {P : Program} {e : TypeId} {k : Nat} (h : (P.info? e).map (·.size) = some k) (w : World) : (sizeOf e).run P w = .ok k w := by
 cases hq : P.info? e with
 | none => simp [hq] at h
 | some i =>
  have hi : i.size = k := by simpa [hq] using h
  simp [sizeOf,typeInfo,hq,hi]
theorem shape_of_cells {w : World} {g : Nat} {cs : List Value} {t : TypeId} (h : w.heap[g]? = some (.cells cs.toArray t (0,0))) : w.shape? g = some (t,cs.length) := by
 simp [World.shape?,h]
theorem ins_cells (cs vs : List Value) (a k m : Nat) (hk : vs.length = k) (hl : a + m + k ≤ cs.length) :
  (((cs.take (a + k) ++ (cs.drop a).take m ++ cs.drop (a + k + m)).take a ++ vs ++ (cs.take (a + k) ++ (cs.drop a).take m ++ cs.drop (a + k + m)).drop (a + k)).take (a + k + m)) = (cs.take (a + m)).take a ++ vs ++ (cs.take (a + m)).drop a := by
 have e1 : (cs.take (a + k) ++ (cs.drop a).take m ++ cs.drop (a + k + m)).take a = cs.take a := by
  rw [List.append_assoc,List.take_append_of_le_length (by rw [List.length_take];omega),List.take_take,Nat.min_eq_left (by omega)]
 have e2 : (cs.take (a + k) ++ (cs.drop a).take m ++ cs.drop (a + k + m)).drop (a + k) = (cs.drop a).take m ++ cs.drop (a + k + m) := by
  rw [List.append_assoc,List.drop_append_of_le_length (by rw [List.length_take];omega),List.drop_eq_nil_of_le (by rw [List.length_take];omega),List.nil_append]
 have e3 : (cs.take a ++ vs).length = a + k := by rw [List.length_append,List.length_take,hk];omega
 have e4 : ((cs.drop a).take m).length = m := by rw [List.length_take,List.length_drop];omega
 rw [e1,e2,← List.append_assoc,List.take_append_of_le_length (by rw [List.length_append,e3,e4];omega),List.take_of_length_le (by rw [List.length_append,e3,e4];omega)]
 rw [List.take_take,Nat.min_eq_left (by omega),List.drop_take]
 congr 2
 omega
theorem ins_cells2 (xs vs junk : List Value) (a k m : Nat) (hk : vs.length = k) (hx : xs.length = a + m) (hj : k + m ≤ junk.length) :
  ((((xs.take a ++ junk).take a ++ vs ++ (xs.take a ++ junk).drop (a + k)).take (a + k) ++ (xs.drop a) ++ ((xs.take a ++ junk).take a ++ vs ++ (xs.take a ++ junk).drop (a + k)).drop (a + k + m)).take (a + k + m)) = xs.take a ++ vs ++ xs.drop a := by
 have h0 : (xs.take a).length = a := by rw [List.length_take];omega
 have e1 : (xs.take a ++ junk).take a = xs.take a := by rw [List.take_append_of_le_length (by omega),List.take_of_length_le (by omega)]
 have e3 : (xs.take a ++ vs).length = a + k := by rw [List.length_append,h0,hk]
 rw [e1]
 have e4 : (xs.take a ++ vs ++ (xs.take a ++ junk).drop (a + k)).take (a + k) = xs.take a ++ vs := by rw [List.take_append_of_le_length (by omega),List.take_of_length_le (by omega)]
 rw [e4]
 have e5 : (xs.drop a).length = m := by rw [List.length_drop];omega
 rw [List.take_append_of_le_length (by rw [List.length_append,e3,e5];omega),List.take_of_length_le (by rw [List.length_append,e3,e5];omega)]
theorem mem_drop_take1 {cs : List Value} {a m : Nat} {u : Value} (h : u ∈ (cs.drop a).take (m - a)) : u ∈ cs.take m := by
 rw [← List.drop_take] at h
 exact List.mem_of_mem_drop h
theorem get_take {l : List Value} {n j : Nat} {u : Value} (h : (l.take n)[j]? = some u) : l[j]? = some u := by
 rw [List.getElem?_take] at h
 split at h
 ·exact h
 ·cases h
theorem mem_drop_take {cs : List Value} {a m k : Nat} {u : Value} (h : u ∈ (cs.drop (a * k)).take ((m - a) * k)) : u ∈ cs.take (m * k) := by
 obtain ⟨j,hj⟩ := List.getElem?_of_mem h
 rw [List.getElem?_take] at hj
 split at hj
 ·rename_i hlt
  rw [List.getElem?_drop] at hj
  refine List.mem_of_getElem? (i := a * k + j) ?_
  have h1 := Nat.sub_mul m a k
  rw [List.getElem?_take_of_lt (by omega)]
  exact hj
 ·cases hj
theorem infoP : (Tryz.prog.info? 80).map (fun i => (i.zero,i.size,i.bytes)) = some (some (.agg (List.replicate 40 (Value.int .u8 0)).toArray),40,40) := by kernel_rfl
theorem sizeP : (Tryz.prog.info? 80).map (·.size) = some 40 := by kernel_rfl
theorem zeroP : (Tryz.prog.info? 80).bind (·.zero) = some (.agg (List.replicate 40 (Value.int .u8 0)).toArray) := by kernel_rfl
theorem infoK : (Tryz.prog.info? 67).map (fun i => (i.zero,i.size,i.bytes)) = some (some (.agg (List.replicate 32 (Value.int .u8 0)).toArray),32,32) := by kernel_rfl
theorem sizeK : (Tryz.prog.info? 67).map (·.size) = some 32 := by kernel_rfl
theorem zeroK : (Tryz.prog.info? 67).bind (·.zero) = some (.agg (List.replicate 32 (Value.int .u8 0)).toArray) := by kernel_rfl
theorem infoI : (Tryz.prog.info? 3).map (fun i => (i.zero,i.size,i.bytes)) = some (some (.int .i64 0),1,8) := by kernel_rfl
theorem sizeI : (Tryz.prog.info? 3).map (·.size) = some 1 := by kernel_rfl
set_option maxHeartbeats 8000000 in
theorem insertP_room {w : World} {p : Option Addr} {n cap gv : Nat} {xs vs : List Value} (hb : Bundle w [ownS 80 40 p n cap xs,blk gv (.cells vs.toArray 80 (0,0))]) (zi : Int) (i : Nat) (hz : (i : Int) = zi) (hi : i ≤ n) (hn : 0 < n) (hn9 : n ≤ 100) (hvs : vs.length = 40)
  (hv1 : ∀ u ∈ vs,u.oneCell' = true) (hx1 : ∀ u ∈ xs,u.oneCell' = true) (hlt : i < n) (hr : n < cap) :
  Calls Tryz.prog 151 #[.slice p n cap,.int .i64 zi,.slice (some ⟨gv,0,none⟩) 1 1] w fun e w' => ∃ g' cap',e = .returned (.slice (some ⟨g',0,none⟩) (n + 1) cap') ∧
   BunTo w (ownL [ownS 80 40 p n cap xs,blk gv (.cells vs.toArray 80 (0,0))]) (rdL [ownS 80 40 p n cap xs,blk gv (.cells vs.toArray 80 (0,0))]) [ownS 80 40 (some ⟨g',0,none⟩) (n + 1) cap' (xs.take (i * 40) ++ (vs ++ xs.drop (i * 40))),blk gv (.cells vs.toArray 80 (0,0))] w' := by
 subst hz
 have H := hb.open_
 obtain ⟨O,hO⟩ : ∃ O,ownL [ownS 80 40 p n cap xs,blk gv (.cells vs.toArray 80 (0,0))] = O := ⟨_,rfl⟩
 obtain ⟨R,hR⟩ : ∃ R,rdL [ownS 80 40 p n cap xs,blk gv (.cells vs.toArray 80 (0,0))] = R := ⟨_,rfl⟩
 rw [hO,hR] at H ⊢
 have hxl : xs.length = n * 40 := by first | exact (H.at 0 rfl).1 | exact ((H.at 0 rfl).1 : xs.length = n * 1).trans (Nat.mul_one n)
 obtain ⟨g,cs,rfl,hnc,hcm,hcl,hxs,HB⟩ := H.ownBlk 0 rfl hn
 try rw [Nat.mul_one] at hcl
 try rw [Nat.mul_one] at hxs
 replace HB : St O R w w [blk g (.cells cs.toArray 80 (0,0)),blk gv (.cells vs.toArray 80 (0,0))] := HB
 clear hb hO hR
 have HVS := Lib.hid hvs
 have HXL := Lib.hid hxl
 have HCL := Lib.hid hcl
 have HXS := Lib.hid hxs
 have HCM := Lib.hid hcm
 have hi0 : 0 ≤ (i : Int) := by omega
 have hi1 : (i : Int) ≤ (n : Int) := by omega
 have hn1 : (n : Int) ≤ (cap : Int) := by omega
 have hn2 : (n : Int) ≤ 100 := by omega
 clear hvs hxl hcl hxs hcm
 have hne : ¬ ((i : Int) = (n : Int)) := by omega
 have hne2 : ((i : Int) == (n : Int)) = false := beq_eq_false_iff_ne.2 hne
 have hi2 : ¬ cap = i := by omega
 have H := HB
 clear HB
 have hr1 : ¬ ((cap : Int) < (n : Int) + 1) := by omega
 have hr2 : decide ((cap : Int) < (n : Int) + 1) = false := decide_eq_false hr1
 have hr3 : (n : Int) + 1 ≤ (cap : Int) := by omega
 have hr4 : (i : Int) + 1 ≤ (n : Int) + 1 := by omega
 have hrb : 0 ≤ (i : Int) + 1 := by omega
 have hr5 : ¬ cap = i + 1 := by omega
 have hr6 : ((i : Int) + 1).toNat = i + 1 := by omega
 have hr7 : ((n : Int) + 1).toNat = n + 1 := by omega
 have hr8 : (i : Int) ≤ (n : Int) + 1 := by omega
 have hov : ∀ lb cb,(callFunc 179 #[.slice (some ⟨gv,0,none⟩) 1 1,.slice (some ⟨g,(i + 1) * 40,none⟩) lb cb]).run Tryz.prog w = .ok (.value (.bool false)) w := fun lb cb => by
  have hgv : w.heap[gv]? = some (.cells vs.toArray 80 (0,0)) := H.at 1 rfl
  have hgg : w.heap[g]? = some (.cells cs.toArray 80 (0,0)) := H.at 0 rfl
  rw [run_callFunc_extern Tryz.func179 (by kernel_rfl) (by kernel_rfl) (by kernel_rfl) (e := Extern.SlicesOverlaps.overlaps #[76,76] #[4]) (by kernel_rfl),
   Lib.run_overlaps_apart w 76 4 80 Tryz.underlying76 40 (fun w => sizeOf_info sizeP w) ⟨gv,0,none⟩ ⟨g,(i + 1) * 40,none⟩ 1 1 lb cb (H.ne 1 0 rfl rfl (by omega)) 80 80 vs.length cs.length (shape_of_cells hgv) (shape_of_cells hgg) (by have := HCL.out;omega) (frozen_of_row _ gv 0 _ _ hgv) (frozen_of_row _ gv _ _ _ hgv)]
  rfl
 go_enter Tryz.func151,Tryz.ntmps151
 go_upto_region 15 with (simp only [hov])
 replace H := H.drew
 have hra : IntKind.i64.wrap ((i : Int) + 1) = (i : Int) + 1 := by rw [IntKind.wrap_i64];omega
 go_still_tail 8,(by kernel_rfl)
 clear hra
 change wpList _ _ _ _ _ w.drew
 generalize w.drew = w2 at H ⊢
 have tok1 : True := trivial
 go_wp2_with (first
  | (have _t := tok1;clear _t;refine wpList_copy_row H 0 rfl _ _ 76 76 rfl _ Tryz.underlying76 40 sizeP _ _ _ _ rfl ⟨g,i * 40,none⟩ _ _ rfl (n - i) (by omega) ((cs.drop (i * 40)).take ((n - i) * 40)) (by rw [List.length_take,List.length_drop,HCL.out];omega) (fun j u hu => blk_cell (H.at 0 rfl) (get_take hu)) (fun u hu => hx1 u (by rw [← HXS.out];exact mem_drop_take hu)) cs _ rfl (by rw [List.length_take,List.length_drop,HCL.out];omega) ?_;clear H tok1;intro W2 H;obtain ⟨cs1,hcs1⟩ : ∃ x,cs.take ((i + 1) * 40) ++ (cs.drop (i * 40)).take ((n - i) * 40) ++ cs.drop ((i + 1) * 40 + ((cs.drop (i * 40)).take ((n - i) * 40)).length) = x := ⟨_,rfl⟩;replace H : St O R w W2 [blk g (.cells cs1.toArray 80 (0,0)),blk gv (.cells vs.toArray 80 (0,0))] := by { rw [← hcs1];exact H };have HC1 := Lib.hid hcs1;have HL1 := Lib.hid (show cs1.length = cap * 40 by { rw [← hcs1];simp only [List.length_append,List.length_take,List.length_drop,HCL.out];omega });clear hcs1)
  | (refine wpList_copy_row H 0 rfl _ _ 76 76 rfl _ Tryz.underlying76 40 sizeP _ _ _ _ rfl ⟨gv,0,none⟩ _ _ rfl 1 (by omega) vs (by rw [HVS.out]) (fun j u hu => World.news_of_block (H.at 1 rfl) j u hu) hv1 cs1 _ rfl (by rw [HVS.out,HL1.out];omega) ?_;clear H;intro W3 H))
 go_ret
 have H2 := H.blkOwn 0 40 (n + 1) cap rfl hr HCM.out (by simp only [List.length_append,List.length_take,List.length_drop,HL1.out,HVS.out];omega)
 try rw [Nat.mul_one] at H2
 have e := ins_cells cs vs (i * 40) 40 ((n - i) * 40) HVS.out (by rw [HCL.out];omega)
 have e0 : ((cs.drop (i * 40)).take ((n - i) * 40)).length = (n - i) * 40 := by rw [List.length_take,List.length_drop,HCL.out];omega
 have e1 := HC1.out
 rw [e0,show (i + 1) * 40 = i * 40 + 40 by omega] at e1
 rw [e1,show i * 40 + 40 + (n - i) * 40 = (n + 1) * 40 by omega,show i * 40 + (n - i) * 40 = n * 40 by omega,HXS.out] at e
 replace e := e.trans (List.append_assoc _ _ _)
 refine ⟨g,cap,rfl,St.bunTo (?_ : St O R w _ _)⟩
 rw [← e]
 rw [HVS.out] at H2
 exact H2
set_option maxHeartbeats 8000000 in
theorem insertP_grow {w : World} {p : Option Addr} {n cap gv : Nat} {xs vs : List Value} (hb : Bundle w [ownS 80 40 p n cap xs,blk gv (.cells vs.toArray 80 (0,0))]) (zi : Int) (i : Nat) (hz : (i : Int) = zi) (hi : i ≤ n) (hn : 0 < n) (hn9 : n ≤ 100) (hvs : vs.length = 40)
  (hv1 : ∀ u ∈ vs,u.oneCell' = true) (hx1 : ∀ u ∈ xs,u.oneCell' = true) (hlt : i < n) (hr : cap ≤ n) :
  Calls Tryz.prog 151 #[.slice p n cap,.int .i64 zi,.slice (some ⟨gv,0,none⟩) 1 1] w fun e w' => ∃ g' cap',e = .returned (.slice (some ⟨g',0,none⟩) (n + 1) cap') ∧
   BunTo w (ownL [ownS 80 40 p n cap xs,blk gv (.cells vs.toArray 80 (0,0))]) (rdL [ownS 80 40 p n cap xs,blk gv (.cells vs.toArray 80 (0,0))]) [ownS 80 40 (some ⟨g',0,none⟩) (n + 1) cap' (xs.take (i * 40) ++ (vs ++ xs.drop (i * 40))),blk gv (.cells vs.toArray 80 (0,0))] w' := by
 subst hz
 have H := hb.open_
 obtain ⟨O,hO⟩ : ∃ O,ownL [ownS 80 40 p n cap xs,blk gv (.cells vs.toArray 80 (0,0))] = O := ⟨_,rfl⟩
 obtain ⟨R,hR⟩ : ∃ R,rdL [ownS 80 40 p n cap xs,blk gv (.cells vs.toArray 80 (0,0))] = R := ⟨_,rfl⟩
 rw [hO,hR] at H ⊢
 have hxl : xs.length = n * 40 := by first | exact (H.at 0 rfl).1 | exact ((H.at 0 rfl).1 : xs.length = n * 1).trans (Nat.mul_one n)
 obtain ⟨g,cs,rfl,hnc,hcm,hcl,hxs,HB⟩ := H.ownBlk 0 rfl hn
 try rw [Nat.mul_one] at hcl
 try rw [Nat.mul_one] at hxs
 replace HB : St O R w w [blk g (.cells cs.toArray 80 (0,0)),blk gv (.cells vs.toArray 80 (0,0))] := HB
 clear hb hO hR
 have HVS := Lib.hid hvs
 have HXL := Lib.hid hxl
 have HCL := Lib.hid hcl
 have HXS := Lib.hid hxs
 have HCM := Lib.hid hcm
 have hi0 : 0 ≤ (i : Int) := by omega
 have hi1 : (i : Int) ≤ (n : Int) := by omega
 have hn1 : (n : Int) ≤ (cap : Int) := by omega
 have hn2 : (n : Int) ≤ 100 := by omega
 clear hvs hxl hcl hxs hcm
 have hne : ¬ ((i : Int) = (n : Int)) := by omega
 have hne2 : ((i : Int) == (n : Int)) = false := beq_eq_false_iff_ne.2 hne
 have hi2 : ¬ cap = i := by omega
 obtain rfl : n = cap := by omega
 have hr1 : (n : Int) < (n : Int) + 1 := by omega
 have hr2 : decide ((n : Int) < (n : Int) + 1) = true := decide_eq_true hr1
 obtain ⟨m,hm⟩ : ∃ m,n + 1 - i = m := ⟨_,rfl⟩
 have HMI := Lib.hid hm
 have hr3 : ((n : Int) + 1 - (i : Int)) = (m : Int) := by omega
 have hm2 : (m : Int) ≤ 101 := by omega
 have hm3 : 2 ≤ (m : Int) := by omega
 clear hm hnc hr
 have hr6 : ((i : Int) + 1).toNat = i + 1 := by omega
 have hrb : 0 ≤ (i : Int) + 1 := by omega
 have hrd : (i : Int) + 1 ≤ (n : Int) + 1 := by omega
 have hre : (i : Int) ≤ (n : Int) + 1 := by omega
 have tok1 : True := trivial
 have HXR := Lib.hid (fun (w' : World) (h : Fix NoBlk w w') (j : Nat) (u : Value) (hu : xs[j]? = some u) => (show w'.cell? ⟨g,j,none⟩ = some u by
  have h0 := blk_cell (off := 0) (HB.at 0 rfl) (j := j) (u := u) (by rw [List.drop_zero];rw [← HXS.out] at hu;exact get_take hu)
  rw [Addr.add_lit,Nat.zero_add] at h0
  rw [← h0]
  exact h.cell (p := ⟨g,j,none⟩) ((blk g (.cells cs.toArray 80 (0,0))).bound w (HB.at 0 rfl) g (.inl rfl)) (fun h => h)))
 go_enter Tryz.func151,Tryz.ntmps151
 go_upto_region 9 with fail
 go_upto_region 10 with (first
  | (at_builtin;refine wpList_appz_grow HB rfl _ _ 76 3 rfl _ Tryz.underlying76 _ Tryz.underlying3 _ 40 40 infoP rfl (by omega) (some ⟨g,0,none⟩) i n rfl (xs.take (i * 40)) (by rw [List.length_take,HXL.out];omega) (fun ad e j u hu => by { cases e;rw [Addr.add_lit,Nat.zero_add];exact HXR.out w (Fix.refl _ _) j u (get_take hu) }) (fun e => by cases e) .i64 m rfl (n + 1) (by have := HMI.out;omega) (by omega) (by have := HMI.out;omega) (by have := HMI.out;simp only [maxLen];omega) (by have := HMI.out;omega) ?_;intro W1 g' cap' junk H hjl hge' hm';(try rw [Nat.mul_one] at hjl);clear HB))
 go_upto_region 11 with (first
  | (refine wpList_copy_row H 2 rfl _ _ 76 76 rfl _ Tryz.underlying76 40 sizeP _ _ _ _ rfl ⟨gv,0,none⟩ _ _ rfl 1 (by have := HMI.out;omega) vs (by rw [HVS.out]) (fun j u hu => World.news_of_block (H.at 1 rfl) j u hu) hv1 (xs.take (i * 40) ++ junk) _ rfl (by rw [HVS.out,hjl];omega) ?_;clear H;intro W2 H))
 obtain ⟨c1,hc1⟩ : ∃ x,(xs.take (i * 40) ++ junk).take (i * 40) ++ vs ++ (xs.take (i * 40) ++ junk).drop (i * 40 + vs.length) = x := ⟨_,rfl⟩
 have HJL := Lib.hid hjl
 have HL1 := Lib.hid (show c1.length = cap' * 40 by rw [← hc1];simp only [List.length_append,List.length_take,List.length_drop] at hjl ⊢;rw [HVS.out];omega)
 have HX2 := Lib.hid (HXR.out)
 replace H : St O R w W2 [blk g (.cells cs.toArray 80 (0,0)),blk gv (.cells vs.toArray 80 (0,0)),blk g' (.cells c1.toArray 80 (0,0))] := by rw [← hc1];exact H
 have HC1 := Lib.hid hc1
 have hs5 : ¬ cap' = i + 1 := by omega
 replace H := H.drew
 clear hc1 hjl
 have hra : IntKind.i64.wrap ((i : Int) + 1) = (i : Int) + 1 := by rw [IntKind.wrap_i64];omega
 go_still_tail 8,(by kernel_rfl)
 clear hra
 change wpList _ _ _ _ _ W2.drew
 generalize W2.drew = w2 at H ⊢
 go_wp2_with (first
  | (refine wpList_copy_row H 2 rfl _ _ 76 76 rfl _ Tryz.underlying76 40 sizeP _ _ _ _ rfl ⟨g,i * 40,none⟩ _ _ rfl (n - i) (by omega) (xs.drop (i * 40)) (by rw [List.length_drop,HXL.out];omega) (fun j u hu => blk_cell (H.at 0 rfl) (get_take (n := n * 40 - i * 40) (by rw [← List.drop_take,HXS.out];exact hu))) (fun u hu => hx1 u (List.mem_of_mem_drop hu)) c1 _ rfl (by rw [List.length_drop,HXL.out,HL1.out];omega) ?_;clear H;intro W3 H))
 go_ret
 have e := ins_cells2 xs vs junk (i * 40) 40 ((n - i) * 40) HVS.out (by rw [HXL.out];omega) (by have := HJL.out;rw [List.length_append,List.length_take,HXL.out] at this;omega)
 have e1 := HC1.out
 rw [HVS.out] at e1
 rw [e1,show i * 40 + 40 + (n - i) * 40 = (n + 1) * 40 by omega,show i * 40 + 40 = (i + 1) * 40 by omega] at e
 replace e := e.trans (List.append_assoc _ _ _)
 have e2 : (i + 1) * 40 + (xs.drop (i * 40)).length = (n + 1) * 40 := by rw [List.length_drop,HXL.out];omega
 have H2 := H.blkOwn 2 40 (n + 1) cap' rfl hge' hm' (by simp only [List.length_append,List.length_take,List.length_drop,HL1.out,HXL.out];omega)
 try rw [Nat.mul_one] at H2
 rw [e2,e] at H2
 refine ⟨g',cap',rfl,?_⟩
 have H3 : St O R w _ [ownS 80 40 (some ⟨g',0,none⟩) (n + 1) cap' (xs.take (i * 40) ++ (vs ++ xs.drop (i * 40))),blk gv (.cells vs.toArray 80 (0,0))] := H2.pick (fun m => if m = 0 then 2 else 1) (fun m C hm => by
  match m with
  | 0 => exact hm
  | 1 => exact hm
  | m + 2 => simp at hm) (fun m l hm hl e => by
  simp only [List.length_cons,List.length_nil] at hm hl
  split at e <;> split at e <;> omega)
 exact H3.bunTo
set_option maxHeartbeats 8000000 in
theorem insertP_end {w : World} {p : Option Addr} {n cap gv : Nat} {xs vs : List Value} (hb : Bundle w [ownS 80 40 p n cap xs,blk gv (.cells vs.toArray 80 (0,0))]) (zi : Int) (i : Nat) (hz : (i : Int) = zi) (hi : i ≤ n) (hn : 0 < n) (hn9 : n ≤ 100) (hvs : vs.length = 40)
  (hv1 : ∀ u ∈ vs,u.oneCell' = true) (hx1 : ∀ u ∈ xs,u.oneCell' = true) (he : i = n) :
  Calls Tryz.prog 151 #[.slice p n cap,.int .i64 zi,.slice (some ⟨gv,0,none⟩) 1 1] w fun e w' => ∃ g' cap',e = .returned (.slice (some ⟨g',0,none⟩) (n + 1) cap') ∧
   BunTo w (ownL [ownS 80 40 p n cap xs,blk gv (.cells vs.toArray 80 (0,0))]) (rdL [ownS 80 40 p n cap xs,blk gv (.cells vs.toArray 80 (0,0))]) [ownS 80 40 (some ⟨g',0,none⟩) (n + 1) cap' (xs.take (i * 40) ++ (vs ++ xs.drop (i * 40))),blk gv (.cells vs.toArray 80 (0,0))] w' := by
 subst hz
 have H := hb.open_
 obtain ⟨O,hO⟩ : ∃ O,ownL [ownS 80 40 p n cap xs,blk gv (.cells vs.toArray 80 (0,0))] = O := ⟨_,rfl⟩
 obtain ⟨R,hR⟩ : ∃ R,rdL [ownS 80 40 p n cap xs,blk gv (.cells vs.toArray 80 (0,0))] = R := ⟨_,rfl⟩
 rw [hO,hR] at H ⊢
 have hxl : xs.length = n * 40 := by first | exact (H.at 0 rfl).1 | exact ((H.at 0 rfl).1 : xs.length = n * 1).trans (Nat.mul_one n)
 obtain ⟨g,cs,rfl,hnc,hcm,hcl,hxs,HB⟩ := H.ownBlk 0 rfl hn
 try rw [Nat.mul_one] at hcl
 try rw [Nat.mul_one] at hxs
 replace HB : St O R w w [blk g (.cells cs.toArray 80 (0,0)),blk gv (.cells vs.toArray 80 (0,0))] := HB
 clear hb hO hR
 have HVS := Lib.hid hvs
 have HXL := Lib.hid hxl
 have HCL := Lib.hid hcl
 have HXS := Lib.hid hxs
 have HCM := Lib.hid hcm
 have hi0 : 0 ≤ (i : Int) := by omega
 have hi1 : (i : Int) ≤ (n : Int) := by omega
 have hn1 : (n : Int) ≤ (cap : Int) := by omega
 have hn2 : (n : Int) ≤ 100 := by omega
 clear hvs hxl hcl hxs hcm
 subst he
 clear HB HCL HXS HCM
 by_cases hci : cap = i
 all_goals
  go_enter Tryz.func151,Tryz.ntmps151
  go_upto_region 7 with fail
  go_wp2_with (first
   | (at_builtin;refine wpList_append_ownS H 0 rfl _ _ 76 rfl _ Tryz.underlying76 _ 40 40 infoP rfl (by omega) (some ⟨g,0,none⟩) i cap rfl xs rfl ⟨gv,0,none⟩ 1 1 rfl vs (by rw [HVS.out]) (fun j u hu => World.news_of_block (H.at 1 rfl) j u hu) hv1 (by omega) (by simp only [maxLen];omega) (by omega) ?_;clear H;intro W1 g' cap' H))
  go_ret
  refine ⟨g',cap',rfl,St.bunTo (?_ : St O R w _ _)⟩
  rw [List.take_of_length_le (by rw [HXL.out];exact Nat.le_refl _),List.drop_eq_nil_of_le (by rw [HXL.out];exact Nat.le_refl _),List.append_nil]
  exact H
theorem insertP {w : World} {p : Option Addr} {n cap gv : Nat} {xs vs : List Value} (hb : Bundle w [ownS 80 40 p n cap xs,blk gv (.cells vs.toArray 80 (0,0))]) (zi : Int) (i : Nat) (hz : (i : Int) = zi) (hi : i ≤ n) (hn : 0 < n) (hn9 : n ≤ 100) (hvs : vs.length = 40)
  (hv1 : ∀ u ∈ vs,u.oneCell' = true) (hx1 : ∀ u ∈ xs,u.oneCell' = true) :
  Calls Tryz.prog 151 #[.slice p n cap,.int .i64 zi,.slice (some ⟨gv,0,none⟩) 1 1] w fun e w' => ∃ g' cap',e = .returned (.slice (some ⟨g',0,none⟩) (n + 1) cap') ∧
   BunTo w (ownL [ownS 80 40 p n cap xs,blk gv (.cells vs.toArray 80 (0,0))]) (rdL [ownS 80 40 p n cap xs,blk gv (.cells vs.toArray 80 (0,0))]) [ownS 80 40 (some ⟨g',0,none⟩) (n + 1) cap' (xs.take (i * 40) ++ (vs ++ xs.drop (i * 40))),blk gv (.cells vs.toArray 80 (0,0))] w' := by
 rcases Nat.lt_or_ge i n with h | h
 ·rcases Nat.lt_or_ge n cap with h2 | h2
  ·exact insertP_room hb zi i hz hi hn hn9 hvs hv1 hx1 h h2
  ·exact insertP_grow hb zi i hz hi hn hn9 hvs hv1 hx1 h h2
 ·exact insertP_end hb zi i hz hi hn hn9 hvs hv1 hx1 (by omega)
set_option maxHeartbeats 8000000 in
theorem insertK_room {w : World} {p : Option Addr} {n cap gv : Nat} {xs vs : List Value} (hb : Bundle w [ownS 67 32 p n cap xs,blk gv (.cells vs.toArray 67 (0,0))]) (zi : Int) (i : Nat) (hz : (i : Int) = zi) (hi : i ≤ n) (hn : 0 < n) (hn9 : n ≤ 100) (hvs : vs.length = 32)
  (hv1 : ∀ u ∈ vs,u.oneCell' = true) (hx1 : ∀ u ∈ xs,u.oneCell' = true) (hlt : i < n) (hr : n < cap) :
  Calls Tryz.prog 154 #[.slice p n cap,.int .i64 zi,.slice (some ⟨gv,0,none⟩) 1 1] w fun e w' => ∃ g' cap',e = .returned (.slice (some ⟨g',0,none⟩) (n + 1) cap') ∧
   BunTo w (ownL [ownS 67 32 p n cap xs,blk gv (.cells vs.toArray 67 (0,0))]) (rdL [ownS 67 32 p n cap xs,blk gv (.cells vs.toArray 67 (0,0))]) [ownS 67 32 (some ⟨g',0,none⟩) (n + 1) cap' (xs.take (i * 32) ++ (vs ++ xs.drop (i * 32))),blk gv (.cells vs.toArray 67 (0,0))] w' := by
 subst hz
 have H := hb.open_
 obtain ⟨O,hO⟩ : ∃ O,ownL [ownS 67 32 p n cap xs,blk gv (.cells vs.toArray 67 (0,0))] = O := ⟨_,rfl⟩
 obtain ⟨R,hR⟩ : ∃ R,rdL [ownS 67 32 p n cap xs,blk gv (.cells vs.toArray 67 (0,0))] = R := ⟨_,rfl⟩
 rw [hO,hR] at H ⊢
 have hxl : xs.length = n * 32 := by first | exact (H.at 0 rfl).1 | exact ((H.at 0 rfl).1 : xs.length = n * 1).trans (Nat.mul_one n)
 obtain ⟨g,cs,rfl,hnc,hcm,hcl,hxs,HB⟩ := H.ownBlk 0 rfl hn
 try rw [Nat.mul_one] at hcl
 try rw [Nat.mul_one] at hxs
 replace HB : St O R w w [blk g (.cells cs.toArray 67 (0,0)),blk gv (.cells vs.toArray 67 (0,0))] := HB
 clear hb hO hR
 have HVS := Lib.hid hvs
 have HXL := Lib.hid hxl
 have HCL := Lib.hid hcl
 have HXS := Lib.hid hxs
 have HCM := Lib.hid hcm
 have hi0 : 0 ≤ (i : Int) := by omega
 have hi1 : (i : Int) ≤ (n : Int) := by omega
 have hn1 : (n : Int) ≤ (cap : Int) := by omega
 have hn2 : (n : Int) ≤ 100 := by omega
 clear hvs hxl hcl hxs hcm
 have hne : ¬ ((i : Int) = (n : Int)) := by omega
 have hne2 : ((i : Int) == (n : Int)) = false := beq_eq_false_iff_ne.2 hne
 have hi2 : ¬ cap = i := by omega
 have H := HB
 clear HB
 have hr1 : ¬ ((cap : Int) < (n : Int) + 1) := by omega
 have hr2 : decide ((cap : Int) < (n : Int) + 1) = false := decide_eq_false hr1
 have hr3 : (n : Int) + 1 ≤ (cap : Int) := by omega
 have hr4 : (i : Int) + 1 ≤ (n : Int) + 1 := by omega
 have hrb : 0 ≤ (i : Int) + 1 := by omega
 have hr5 : ¬ cap = i + 1 := by omega
 have hr6 : ((i : Int) + 1).toNat = i + 1 := by omega
 have hr7 : ((n : Int) + 1).toNat = n + 1 := by omega
 have hr8 : (i : Int) ≤ (n : Int) + 1 := by omega
 have hov : ∀ lb cb,(callFunc 185 #[.slice (some ⟨gv,0,none⟩) 1 1,.slice (some ⟨g,(i + 1) * 32,none⟩) lb cb]).run Tryz.prog w = .ok (.value (.bool false)) w := fun lb cb => by
  have hgv : w.heap[gv]? = some (.cells vs.toArray 67 (0,0)) := H.at 1 rfl
  have hgg : w.heap[g]? = some (.cells cs.toArray 67 (0,0)) := H.at 0 rfl
  rw [run_callFunc_extern Tryz.func185 (by kernel_rfl) (by kernel_rfl) (by kernel_rfl) (e := Extern.SlicesOverlaps.overlaps #[147,147] #[4]) (by kernel_rfl),
   Lib.run_overlaps_apart w 147 4 67 Tryz.underlying147 32 (fun w => sizeOf_info sizeK w) ⟨gv,0,none⟩ ⟨g,(i + 1) * 32,none⟩ 1 1 lb cb (H.ne 1 0 rfl rfl (by omega)) 67 67 vs.length cs.length (shape_of_cells hgv) (shape_of_cells hgg) (by have := HCL.out;omega) (frozen_of_row _ gv 0 _ _ hgv) (frozen_of_row _ gv _ _ _ hgv)]
  rfl
 go_enter Tryz.func154,Tryz.ntmps154
 go_upto_region 15 with (simp only [hov])
 replace H := H.drew
 have hra : IntKind.i64.wrap ((i : Int) + 1) = (i : Int) + 1 := by rw [IntKind.wrap_i64];omega
 go_still_tail 8,(by kernel_rfl)
 clear hra
 change wpList _ _ _ _ _ w.drew
 generalize w.drew = w2 at H ⊢
 have tok1 : True := trivial
 go_wp2_with (first
  | (have _t := tok1;clear _t;refine wpList_copy_row H 0 rfl _ _ 147 147 rfl _ Tryz.underlying147 32 sizeK _ _ _ _ rfl ⟨g,i * 32,none⟩ _ _ rfl (n - i) (by omega) ((cs.drop (i * 32)).take ((n - i) * 32)) (by rw [List.length_take,List.length_drop,HCL.out];omega) (fun j u hu => blk_cell (H.at 0 rfl) (get_take hu)) (fun u hu => hx1 u (by rw [← HXS.out];exact mem_drop_take hu)) cs _ rfl (by rw [List.length_take,List.length_drop,HCL.out];omega) ?_;clear H tok1;intro W2 H;obtain ⟨cs1,hcs1⟩ : ∃ x,cs.take ((i + 1) * 32) ++ (cs.drop (i * 32)).take ((n - i) * 32) ++ cs.drop ((i + 1) * 32 + ((cs.drop (i * 32)).take ((n - i) * 32)).length) = x := ⟨_,rfl⟩;replace H : St O R w W2 [blk g (.cells cs1.toArray 67 (0,0)),blk gv (.cells vs.toArray 67 (0,0))] := by { rw [← hcs1];exact H };have HC1 := Lib.hid hcs1;have HL1 := Lib.hid (show cs1.length = cap * 32 by { rw [← hcs1];simp only [List.length_append,List.length_take,List.length_drop,HCL.out];omega });clear hcs1)
  | (refine wpList_copy_row H 0 rfl _ _ 147 147 rfl _ Tryz.underlying147 32 sizeK _ _ _ _ rfl ⟨gv,0,none⟩ _ _ rfl 1 (by omega) vs (by rw [HVS.out]) (fun j u hu => World.news_of_block (H.at 1 rfl) j u hu) hv1 cs1 _ rfl (by rw [HVS.out,HL1.out];omega) ?_;clear H;intro W3 H))
 go_ret
 have H2 := H.blkOwn 0 32 (n + 1) cap rfl hr HCM.out (by simp only [List.length_append,List.length_take,List.length_drop,HL1.out,HVS.out];omega)
 try rw [Nat.mul_one] at H2
 have e := ins_cells cs vs (i * 32) 32 ((n - i) * 32) HVS.out (by rw [HCL.out];omega)
 have e0 : ((cs.drop (i * 32)).take ((n - i) * 32)).length = (n - i) * 32 := by rw [List.length_take,List.length_drop,HCL.out];omega
 have e1 := HC1.out
 rw [e0,show (i + 1) * 32 = i * 32 + 32 by omega] at e1
 rw [e1,show i * 32 + 32 + (n - i) * 32 = (n + 1) * 32 by omega,show i * 32 + (n - i) * 32 = n * 32 by omega,HXS.out] at e
 replace e := e.trans (List.append_assoc _ _ _)
 refine ⟨g,cap,rfl,St.bunTo (?_ : St O R w _ _)⟩
 rw [← e]
 rw [HVS.out] at H2
 exact H2
set_option maxHeartbeats 8000000 in
theorem insertK_grow {w : World} {p : Option Addr} {n cap gv : Nat} {xs vs : List Value} (hb : Bundle w [ownS 67 32 p n cap xs,blk gv (.cells vs.toArray 67 (0,0))]) (zi : Int) (i : Nat) (hz : (i : Int) = zi) (hi : i ≤ n) (hn : 0 < n) (hn9 : n ≤ 100) (hvs : vs.length = 32)
  (hv1 : ∀ u ∈ vs,u.oneCell' = true) (hx1 : ∀ u ∈ xs,u.oneCell' = true) (hlt : i < n) (hr : cap ≤ n) :
  Calls Tryz.prog 154 #[.slice p n cap,.int .i64 zi,.slice (some ⟨gv,0,none⟩) 1 1] w fun e w' => ∃ g' cap',e = .returned (.slice (some ⟨g',0,none⟩) (n + 1) cap') ∧
   BunTo w (ownL [ownS 67 32 p n cap xs,blk gv (.cells vs.toArray 67 (0,0))]) (rdL [ownS 67 32 p n cap xs,blk gv (.cells vs.toArray 67 (0,0))]) [ownS 67 32 (some ⟨g',0,none⟩) (n + 1) cap' (xs.take (i * 32) ++ (vs ++ xs.drop (i * 32))),blk gv (.cells vs.toArray 67 (0,0))] w' := by
 subst hz
 have H := hb.open_
 obtain ⟨O,hO⟩ : ∃ O,ownL [ownS 67 32 p n cap xs,blk gv (.cells vs.toArray 67 (0,0))] = O := ⟨_,rfl⟩
 obtain ⟨R,hR⟩ : ∃ R,rdL [ownS 67 32 p n cap xs,blk gv (.cells vs.toArray 67 (0,0))] = R := ⟨_,rfl⟩
 rw [hO,hR] at H ⊢
 have hxl : xs.length = n * 32 := by first | exact (H.at 0 rfl).1 | exact ((H.at 0 rfl).1 : xs.length = n * 1).trans (Nat.mul_one n)
 obtain ⟨g,cs,rfl,hnc,hcm,hcl,hxs,HB⟩ := H.ownBlk 0 rfl hn
 try rw [Nat.mul_one] at hcl
 try rw [Nat.mul_one] at hxs
 replace HB : St O R w w [blk g (.cells cs.toArray 67 (0,0)),blk gv (.cells vs.toArray 67 (0,0))] := HB
 clear hb hO hR
 have HVS := Lib.hid hvs
 have HXL := Lib.hid hxl
 have HCL := Lib.hid hcl
 have HXS := Lib.hid hxs
 have HCM := Lib.hid hcm
 have hi0 : 0 ≤ (i : Int) := by omega
 have hi1 : (i : Int) ≤ (n : Int) := by omega
 have hn1 : (n : Int) ≤ (cap : Int) := by omega
 have hn2 : (n : Int) ≤ 100 := by omega
 clear hvs hxl hcl hxs hcm
 have hne : ¬ ((i : Int) = (n : Int)) := by omega
 have hne2 : ((i : Int) == (n : Int)) = false := beq_eq_false_iff_ne.2 hne
 have hi2 : ¬ cap = i := by omega
 obtain rfl : n = cap := by omega
 have hr1 : (n : Int) < (n : Int) + 1 := by omega
 have hr2 : decide ((n : Int) < (n : Int) + 1) = true := decide_eq_true hr1
 obtain ⟨m,hm⟩ : ∃ m,n + 1 - i = m := ⟨_,rfl⟩
 have HMI := Lib.hid hm
 have hr3 : ((n : Int) + 1 - (i : Int)) = (m : Int) := by omega
 have hm2 : (m : Int) ≤ 101 := by omega
 have hm3 : 2 ≤ (m : Int) := by omega
 clear hm hnc hr
 have hr6 : ((i : Int) + 1).toNat = i + 1 := by omega
 have hrb : 0 ≤ (i : Int) + 1 := by omega
 have hrd : (i : Int) + 1 ≤ (n : Int) + 1 := by omega
 have hre : (i : Int) ≤ (n : Int) + 1 := by omega
 have tok1 : True := trivial
 have HXR := Lib.hid (fun (w' : World) (h : Fix NoBlk w w') (j : Nat) (u : Value) (hu : xs[j]? = some u) => (show w'.cell? ⟨g,j,none⟩ = some u by
  have h0 := blk_cell (off := 0) (HB.at 0 rfl) (j := j) (u := u) (by rw [List.drop_zero];rw [← HXS.out] at hu;exact get_take hu)
  rw [Addr.add_lit,Nat.zero_add] at h0
  rw [← h0]
  exact h.cell (p := ⟨g,j,none⟩) ((blk g (.cells cs.toArray 67 (0,0))).bound w (HB.at 0 rfl) g (.inl rfl)) (fun h => h)))
 go_enter Tryz.func154,Tryz.ntmps154
 go_upto_region 9 with fail
 go_upto_region 10 with (first
  | (at_builtin;refine wpList_appz_grow HB rfl _ _ 147 3 rfl _ Tryz.underlying147 _ Tryz.underlying3 _ 32 32 infoK rfl (by omega) (some ⟨g,0,none⟩) i n rfl (xs.take (i * 32)) (by rw [List.length_take,HXL.out];omega) (fun ad e j u hu => by { cases e;rw [Addr.add_lit,Nat.zero_add];exact HXR.out w (Fix.refl _ _) j u (get_take hu) }) (fun e => by cases e) .i64 m rfl (n + 1) (by have := HMI.out;omega) (by omega) (by have := HMI.out;omega) (by have := HMI.out;simp only [maxLen];omega) (by have := HMI.out;omega) ?_;intro W1 g' cap' junk H hjl hge' hm';(try rw [Nat.mul_one] at hjl);clear HB))
 go_upto_region 11 with (first
  | (refine wpList_copy_row H 2 rfl _ _ 147 147 rfl _ Tryz.underlying147 32 sizeK _ _ _ _ rfl ⟨gv,0,none⟩ _ _ rfl 1 (by have := HMI.out;omega) vs (by rw [HVS.out]) (fun j u hu => World.news_of_block (H.at 1 rfl) j u hu) hv1 (xs.take (i * 32) ++ junk) _ rfl (by rw [HVS.out,hjl];omega) ?_;clear H;intro W2 H))
 obtain ⟨c1,hc1⟩ : ∃ x,(xs.take (i * 32) ++ junk).take (i * 32) ++ vs ++ (xs.take (i * 32) ++ junk).drop (i * 32 + vs.length) = x := ⟨_,rfl⟩
 have HJL := Lib.hid hjl
 have HL1 := Lib.hid (show c1.length = cap' * 32 by rw [← hc1];simp only [List.length_append,List.length_take,List.length_drop] at hjl ⊢;rw [HVS.out];omega)
 have HX2 := Lib.hid (HXR.out)
 replace H : St O R w W2 [blk g (.cells cs.toArray 67 (0,0)),blk gv (.cells vs.toArray 67 (0,0)),blk g' (.cells c1.toArray 67 (0,0))] := by rw [← hc1];exact H
 have HC1 := Lib.hid hc1
 have hs5 : ¬ cap' = i + 1 := by omega
 replace H := H.drew
 clear hc1 hjl
 have hra : IntKind.i64.wrap ((i : Int) + 1) = (i : Int) + 1 := by rw [IntKind.wrap_i64];omega
 go_still_tail 8,(by kernel_rfl)
 clear hra
 change wpList _ _ _ _ _ W2.drew
 generalize W2.drew = w2 at H ⊢
 go_wp2_with (first
  | (refine wpList_copy_row H 2 rfl _ _ 147 147 rfl _ Tryz.underlying147 32 sizeK _ _ _ _ rfl ⟨g,i * 32,none⟩ _ _ rfl (n - i) (by omega) (xs.drop (i * 32)) (by rw [List.length_drop,HXL.out];omega) (fun j u hu => blk_cell (H.at 0 rfl) (get_take (n := n * 32 - i * 32) (by rw [← List.drop_take,HXS.out];exact hu))) (fun u hu => hx1 u (List.mem_of_mem_drop hu)) c1 _ rfl (by rw [List.length_drop,HXL.out,HL1.out];omega) ?_;clear H;intro W3 H))
 go_ret
 have e := ins_cells2 xs vs junk (i * 32) 32 ((n - i) * 32) HVS.out (by rw [HXL.out];omega) (by have := HJL.out;rw [List.length_append,List.length_take,HXL.out] at this;omega)
 have e1 := HC1.out
 rw [HVS.out] at e1
 rw [e1,show i * 32 + 32 + (n - i) * 32 = (n + 1) * 32 by omega,show i * 32 + 32 = (i + 1) * 32 by omega] at e
 replace e := e.trans (List.append_assoc _ _ _)
 have e2 : (i + 1) * 32 + (xs.drop (i * 32)).length = (n + 1) * 32 := by rw [List.length_drop,HXL.out];omega
 have H2 := H.blkOwn 2 32 (n + 1) cap' rfl hge' hm' (by simp only [List.length_append,List.length_take,List.length_drop,HL1.out,HXL.out];omega)
 try rw [Nat.mul_one] at H2
 rw [e2,e] at H2
 refine ⟨g',cap',rfl,?_⟩
 have H3 : St O R w _ [ownS 67 32 (some ⟨g',0,none⟩) (n + 1) cap' (xs.take (i * 32) ++ (vs ++ xs.drop (i * 32))),blk gv (.cells vs.toArray 67 (0,0))] := H2.pick (fun m => if m = 0 then 2 else 1) (fun m C hm => by
  match m with
  | 0 => exact hm
  | 1 => exact hm
  | m + 2 => simp at hm) (fun m l hm hl e => by
  simp only [List.length_cons,List.length_nil] at hm hl
  split at e <;> split at e <;> omega)
 exact H3.bunTo
set_option maxHeartbeats 8000000 in
theorem insertK_end {w : World} {p : Option Addr} {n cap gv : Nat} {xs vs : List Value} (hb : Bundle w [ownS 67 32 p n cap xs,blk gv (.cells vs.toArray 67 (0,0))]) (zi : Int) (i : Nat) (hz : (i : Int) = zi) (hi : i ≤ n) (hn : 0 < n) (hn9 : n ≤ 100) (hvs : vs.length = 32)
  (hv1 : ∀ u ∈ vs,u.oneCell' = true) (hx1 : ∀ u ∈ xs,u.oneCell' = true) (he : i = n) :
  Calls Tryz.prog 154 #[.slice p n cap,.int .i64 zi,.slice (some ⟨gv,0,none⟩) 1 1] w fun e w' => ∃ g' cap',e = .returned (.slice (some ⟨g',0,none⟩) (n + 1) cap') ∧
   BunTo w (ownL [ownS 67 32 p n cap xs,blk gv (.cells vs.toArray 67 (0,0))]) (rdL [ownS 67 32 p n cap xs,blk gv (.cells vs.toArray 67 (0,0))]) [ownS 67 32 (some ⟨g',0,none⟩) (n + 1) cap' (xs.take (i * 32) ++ (vs ++ xs.drop (i * 32))),blk gv (.cells vs.toArray 67 (0,0))] w' := by
 subst hz
 have H := hb.open_
 obtain ⟨O,hO⟩ : ∃ O,ownL [ownS 67 32 p n cap xs,blk gv (.cells vs.toArray 67 (0,0))] = O := ⟨_,rfl⟩
 obtain ⟨R,hR⟩ : ∃ R,rdL [ownS 67 32 p n cap xs,blk gv (.cells vs.toArray 67 (0,0))] = R := ⟨_,rfl⟩
 rw [hO,hR] at H ⊢
 have hxl : xs.length = n * 32 := by first | exact (H.at 0 rfl).1 | exact ((H.at 0 rfl).1 : xs.length = n * 1).trans (Nat.mul_one n)
 obtain ⟨g,cs,rfl,hnc,hcm,hcl,hxs,HB⟩ := H.ownBlk 0 rfl hn
 try rw [Nat.mul_one] at hcl
 try rw [Nat.mul_one] at hxs
 replace HB : St O R w w [blk g (.cells cs.toArray 67 (0,0)),blk gv (.cells vs.toArray 67 (0,0))] := HB
 clear hb hO hR
 have HVS := Lib.hid hvs
 have HXL := Lib.hid hxl
 have HCL := Lib.hid hcl
 have HXS := Lib.hid hxs
 have HCM := Lib.hid hcm
 have hi0 : 0 ≤ (i : Int) := by omega
 have hi1 : (i : Int) ≤ (n : Int) := by omega
 have hn1 : (n : Int) ≤ (cap : Int) := by omega
 have hn2 : (n : Int) ≤ 100 := by omega
 clear hvs hxl hcl hxs hcm
 subst he
 clear HB HCL HXS HCM
 by_cases hci : cap = i
 all_goals
  go_enter Tryz.func154,Tryz.ntmps154
  go_upto_region 7 with fail
  go_wp2_with (first
   | (at_builtin;refine wpList_append_ownS H 0 rfl _ _ 147 rfl _ Tryz.underlying147 _ 32 32 infoK rfl (by omega) (some ⟨g,0,none⟩) i cap rfl xs rfl ⟨gv,0,none⟩ 1 1 rfl vs (by rw [HVS.out]) (fun j u hu => World.news_of_block (H.at 1 rfl) j u hu) hv1 (by omega) (by simp only [maxLen];omega) (by omega) ?_;clear H;intro W1 g' cap' H))
  go_ret
  refine ⟨g',cap',rfl,St.bunTo (?_ : St O R w _ _)⟩
  rw [List.take_of_length_le (by rw [HXL.out];exact Nat.le_refl _),List.drop_eq_nil_of_le (by rw [HXL.out];exact Nat.le_refl _),List.append_nil]
  exact H
theorem insertK {w : World} {p : Option Addr} {n cap gv : Nat} {xs vs : List Value} (hb : Bundle w [ownS 67 32 p n cap xs,blk gv (.cells vs.toArray 67 (0,0))]) (zi : Int) (i : Nat) (hz : (i : Int) = zi) (hi : i ≤ n) (hn : 0 < n) (hn9 : n ≤ 100) (hvs : vs.length = 32)
  (hv1 : ∀ u ∈ vs,u.oneCell' = true) (hx1 : ∀ u ∈ xs,u.oneCell' = true) :
  Calls Tryz.prog 154 #[.slice p n cap,.int .i64 zi,.slice (some ⟨gv,0,none⟩) 1 1] w fun e w' => ∃ g' cap',e = .returned (.slice (some ⟨g',0,none⟩) (n + 1) cap') ∧
   BunTo w (ownL [ownS 67 32 p n cap xs,blk gv (.cells vs.toArray 67 (0,0))]) (rdL [ownS 67 32 p n cap xs,blk gv (.cells vs.toArray 67 (0,0))]) [ownS 67 32 (some ⟨g',0,none⟩) (n + 1) cap' (xs.take (i * 32) ++ (vs ++ xs.drop (i * 32))),blk gv (.cells vs.toArray 67 (0,0))] w' := by
 rcases Nat.lt_or_ge i n with h | h
 ·rcases Nat.lt_or_ge n cap with h2 | h2
  ·exact insertK_room hb zi i hz hi hn hn9 hvs hv1 hx1 h h2
  ·exact insertK_grow hb zi i hz hi hn hn9 hvs hv1 hx1 h h2
 ·exact insertK_end hb zi i hz hi hn hn9 hvs hv1 hx1 (by omega)
set_option maxHeartbeats 8000000 in
theorem insertI_room {w : World} {p : Option Addr} {n cap gv : Nat} {xs vs : List Value} (hb : Bundle w [ownS 3 1 p n cap xs,blk gv (.cells vs.toArray 3 (0,0))]) (zi : Int) (i : Nat) (hz : (i : Int) = zi) (hi : i ≤ n) (hn : 0 < n) (hn9 : n ≤ 100) (hvs : vs.length = 1)
  (hv1 : ∀ u ∈ vs,u.oneCell' = true) (hx1 : ∀ u ∈ xs,u.oneCell' = true) (hlt : i < n) (hr : n < cap) :
  Calls Tryz.prog 155 #[.slice p n cap,.int .i64 zi,.slice (some ⟨gv,0,none⟩) 1 1] w fun e w' => ∃ g' cap',e = .returned (.slice (some ⟨g',0,none⟩) (n + 1) cap') ∧
   BunTo w (ownL [ownS 3 1 p n cap xs,blk gv (.cells vs.toArray 3 (0,0))]) (rdL [ownS 3 1 p n cap xs,blk gv (.cells vs.toArray 3 (0,0))]) [ownS 3 1 (some ⟨g',0,none⟩) (n + 1) cap' (xs.take (i) ++ (vs ++ xs.drop (i))),blk gv (.cells vs.toArray 3 (0,0))] w' := by
 subst hz
 have H := hb.open_
 obtain ⟨O,hO⟩ : ∃ O,ownL [ownS 3 1 p n cap xs,blk gv (.cells vs.toArray 3 (0,0))] = O := ⟨_,rfl⟩
 obtain ⟨R,hR⟩ : ∃ R,rdL [ownS 3 1 p n cap xs,blk gv (.cells vs.toArray 3 (0,0))] = R := ⟨_,rfl⟩
 rw [hO,hR] at H ⊢
 have hxl : xs.length = n := by first | exact (H.at 0 rfl).1 | exact ((H.at 0 rfl).1 : xs.length = n * 1).trans (Nat.mul_one n)
 obtain ⟨g,cs,rfl,hnc,hcm,hcl,hxs,HB⟩ := H.ownBlk 0 rfl hn
 try rw [Nat.mul_one] at hcl
 try rw [Nat.mul_one] at hxs
 replace HB : St O R w w [blk g (.cells cs.toArray 3 (0,0)),blk gv (.cells vs.toArray 3 (0,0))] := HB
 clear hb hO hR
 have HVS := Lib.hid hvs
 have HXL := Lib.hid hxl
 have HCL := Lib.hid hcl
 have HXS := Lib.hid hxs
 have HCM := Lib.hid hcm
 have hi0 : 0 ≤ (i : Int) := by omega
 have hi1 : (i : Int) ≤ (n : Int) := by omega
 have hn1 : (n : Int) ≤ (cap : Int) := by omega
 have hn2 : (n : Int) ≤ 100 := by omega
 clear hvs hxl hcl hxs hcm
 have hne : ¬ ((i : Int) = (n : Int)) := by omega
 have hne2 : ((i : Int) == (n : Int)) = false := beq_eq_false_iff_ne.2 hne
 have hi2 : ¬ cap = i := by omega
 have H := HB
 clear HB
 have hr1 : ¬ ((cap : Int) < (n : Int) + 1) := by omega
 have hr2 : decide ((cap : Int) < (n : Int) + 1) = false := decide_eq_false hr1
 have hr3 : (n : Int) + 1 ≤ (cap : Int) := by omega
 have hr4 : (i : Int) + 1 ≤ (n : Int) + 1 := by omega
 have hrb : 0 ≤ (i : Int) + 1 := by omega
 have hr5 : ¬ cap = i + 1 := by omega
 have hr6 : ((i : Int) + 1).toNat = i + 1 := by omega
 have hr7 : ((n : Int) + 1).toNat = n + 1 := by omega
 have hr8 : (i : Int) ≤ (n : Int) + 1 := by omega
 have hov : ∀ lb cb,(callFunc 187 #[.slice (some ⟨gv,0,none⟩) 1 1,.slice (some ⟨g,(i + 1),none⟩) lb cb]).run Tryz.prog w = .ok (.value (.bool false)) w := fun lb cb => by
  have hgv : w.heap[gv]? = some (.cells vs.toArray 3 (0,0)) := H.at 1 rfl
  have hgg : w.heap[g]? = some (.cells cs.toArray 3 (0,0)) := H.at 0 rfl
  rw [run_callFunc_extern Tryz.func187 (by kernel_rfl) (by kernel_rfl) (by kernel_rfl) (e := Extern.SlicesOverlaps.overlaps #[72,72] #[4]) (by kernel_rfl),
   Lib.run_overlaps_apart w 72 4 3 Tryz.underlying72 1 (fun w => sizeOf_info sizeI w) ⟨gv,0,none⟩ ⟨g,(i + 1),none⟩ 1 1 lb cb (H.ne 1 0 rfl rfl (by omega)) 3 3 vs.length cs.length (shape_of_cells hgv) (shape_of_cells hgg) (by have := HCL.out;omega) (frozen_of_row _ gv 0 _ _ hgv) (frozen_of_row _ gv _ _ _ hgv)]
  rfl
 go_enter Tryz.func155,Tryz.ntmps155
 go_upto_region 15 with (simp only [hov])
 replace H := H.drew
 have hra : IntKind.i64.wrap ((i : Int) + 1) = (i : Int) + 1 := by rw [IntKind.wrap_i64];omega
 go_still_tail 8,(by kernel_rfl)
 clear hra
 change wpList _ _ _ _ _ w.drew
 generalize w.drew = w2 at H ⊢
 have tok1 : True := trivial
 go_wp2_with (first
  | (have _t := tok1;clear _t;refine wpList_copy_row H 0 rfl _ _ 72 72 rfl _ Tryz.underlying72 1 sizeI _ _ _ _ rfl ⟨g,i,none⟩ _ _ rfl (n - i) (by omega) ((cs.drop (i)).take ((n - i))) (by rw [List.length_take,List.length_drop,HCL.out];omega) (fun j u hu => blk_cell (H.at 0 rfl) (get_take hu)) (fun u hu => hx1 u (by rw [← HXS.out];exact mem_drop_take1 hu)) cs _ rfl (by rw [List.length_take,List.length_drop,HCL.out];omega) ?_;clear H tok1;intro W2 H;obtain ⟨cs1,hcs1⟩ : ∃ x,cs.take ((i + 1)) ++ (cs.drop (i)).take ((n - i)) ++ cs.drop ((i + 1) + ((cs.drop (i)).take ((n - i))).length) = x := ⟨_,rfl⟩;replace H : St O R w W2 [blk g (.cells cs1.toArray 3 (0,0)),blk gv (.cells vs.toArray 3 (0,0))] := by { rw [← hcs1];exact H };have HC1 := Lib.hid hcs1;have HL1 := Lib.hid (show cs1.length = cap by { rw [← hcs1];simp only [List.length_append,List.length_take,List.length_drop,HCL.out];omega });clear hcs1)
  | (refine wpList_copy_row H 0 rfl _ _ 72 72 rfl _ Tryz.underlying72 1 sizeI _ _ _ _ rfl ⟨gv,0,none⟩ _ _ rfl 1 (by omega) vs (by rw [HVS.out]) (fun j u hu => World.news_of_block (H.at 1 rfl) j u hu) hv1 cs1 _ rfl (by rw [HVS.out,HL1.out];omega) ?_;clear H;intro W3 H))
 go_ret
 have H2 := H.blkOwn 0 1 (n + 1) cap rfl hr HCM.out (by simp only [List.length_append,List.length_take,List.length_drop,HL1.out,HVS.out];omega)
 try rw [Nat.mul_one] at H2
 have e := ins_cells cs vs (i) 1 ((n - i)) HVS.out (by rw [HCL.out];omega)
 have e0 : ((cs.drop (i)).take ((n - i))).length = (n - i) := by rw [List.length_take,List.length_drop,HCL.out];omega
 have e1 := HC1.out
 rw [e0,show (i + 1) = i + 1 by omega] at e1
 rw [e1,show i + 1 + (n - i) = (n + 1) by omega,show i + (n - i) = n by omega,HXS.out] at e
 replace e := e.trans (List.append_assoc _ _ _)
 refine ⟨g,cap,rfl,St.bunTo (?_ : St O R w _ _)⟩
 rw [← e]
 rw [HVS.out] at H2
 exact H2
set_option maxHeartbeats 8000000 in
theorem insertI_grow {w : World} {p : Option Addr} {n cap gv : Nat} {xs vs : List Value} (hb : Bundle w [ownS 3 1 p n cap xs,blk gv (.cells vs.toArray 3 (0,0))]) (zi : Int) (i : Nat) (hz : (i : Int) = zi) (hi : i ≤ n) (hn : 0 < n) (hn9 : n ≤ 100) (hvs : vs.length = 1)
  (hv1 : ∀ u ∈ vs,u.oneCell' = true) (hx1 : ∀ u ∈ xs,u.oneCell' = true) (hlt : i < n) (hr : cap ≤ n) :
  Calls Tryz.prog 155 #[.slice p n cap,.int .i64 zi,.slice (some ⟨gv,0,none⟩) 1 1] w fun e w' => ∃ g' cap',e = .returned (.slice (some ⟨g',0,none⟩) (n + 1) cap') ∧
   BunTo w (ownL [ownS 3 1 p n cap xs,blk gv (.cells vs.toArray 3 (0,0))]) (rdL [ownS 3 1 p n cap xs,blk gv (.cells vs.toArray 3 (0,0))]) [ownS 3 1 (some ⟨g',0,none⟩) (n + 1) cap' (xs.take (i) ++ (vs ++ xs.drop (i))),blk gv (.cells vs.toArray 3 (0,0))] w' := by
 subst hz
 have H := hb.open_
 obtain ⟨O,hO⟩ : ∃ O,ownL [ownS 3 1 p n cap xs,blk gv (.cells vs.toArray 3 (0,0))] = O := ⟨_,rfl⟩
 obtain ⟨R,hR⟩ : ∃ R,rdL [ownS 3 1 p n cap xs,blk gv (.cells vs.toArray 3 (0,0))] = R := ⟨_,rfl⟩
 rw [hO,hR] at H ⊢
 have hxl : xs.length = n := by first | exact (H.at 0 rfl).1 | exact ((H.at 0 rfl).1 : xs.length = n * 1).trans (Nat.mul_one n)
 obtain ⟨g,cs,rfl,hnc,hcm,hcl,hxs,HB⟩ := H.ownBlk 0 rfl hn
 try rw [Nat.mul_one] at hcl
 try rw [Nat.mul_one] at hxs
 replace HB : St O R w w [blk g (.cells cs.toArray 3 (0,0)),blk gv (.cells vs.toArray 3 (0,0))] := HB
 clear hb hO hR
 have HVS := Lib.hid hvs
 have HXL := Lib.hid hxl
 have HCL := Lib.hid hcl
 have HXS := Lib.hid hxs
 have HCM := Lib.hid hcm
 have hi0 : 0 ≤ (i : Int) := by omega
 have hi1 : (i : Int) ≤ (n : Int) := by omega
 have hn1 : (n : Int) ≤ (cap : Int) := by omega
 have hn2 : (n : Int) ≤ 100 := by omega
 clear hvs hxl hcl hxs hcm
 have hne : ¬ ((i : Int) = (n : Int)) := by omega
 have hne2 : ((i : Int) == (n : Int)) = false := beq_eq_false_iff_ne.2 hne
 have hi2 : ¬ cap = i := by omega
 obtain rfl : n = cap := by omega
 have hr1 : (n : Int) < (n : Int) + 1 := by omega
 have hr2 : decide ((n : Int) < (n : Int) + 1) = true := decide_eq_true hr1
 obtain ⟨m,hm⟩ : ∃ m,n + 1 - i = m := ⟨_,rfl⟩
 have HMI := Lib.hid hm
 have hr3 : ((n : Int) + 1 - (i : Int)) = (m : Int) := by omega
 have hm2 : (m : Int) ≤ 101 := by omega
 have hm3 : 2 ≤ (m : Int) := by omega
 clear hm hnc hr
 have hr6 : ((i : Int) + 1).toNat = i + 1 := by omega
 have hrb : 0 ≤ (i : Int) + 1 := by omega
 have hrd : (i : Int) + 1 ≤ (n : Int) + 1 := by omega
 have hre : (i : Int) ≤ (n : Int) + 1 := by omega
 have tok1 : True := trivial
 have HXR := Lib.hid (fun (w' : World) (h : Fix NoBlk w w') (j : Nat) (u : Value) (hu : xs[j]? = some u) => (show w'.cell? ⟨g,j,none⟩ = some u by
  have h0 := blk_cell (off := 0) (HB.at 0 rfl) (j := j) (u := u) (by rw [List.drop_zero];rw [← HXS.out] at hu;exact get_take hu)
  rw [Addr.add_lit,Nat.zero_add] at h0
  rw [← h0]
  exact h.cell (p := ⟨g,j,none⟩) ((blk g (.cells cs.toArray 3 (0,0))).bound w (HB.at 0 rfl) g (.inl rfl)) (fun h => h)))
 go_enter Tryz.func155,Tryz.ntmps155
 go_upto_region 9 with fail
 go_upto_region 10 with (first
  | (at_builtin;refine wpList_appz_grow HB rfl _ _ 72 3 rfl _ Tryz.underlying72 _ Tryz.underlying3 _ 1 8 infoI rfl (by omega) (some ⟨g,0,none⟩) i n rfl (xs.take (i)) (by rw [List.length_take,HXL.out];omega) (fun ad e j u hu => by { cases e;rw [Addr.add_lit,Nat.zero_add];exact HXR.out w (Fix.refl _ _) j u (get_take hu) }) (fun e => by cases e) .i64 m rfl (n + 1) (by have := HMI.out;omega) (by omega) (by have := HMI.out;omega) (by have := HMI.out;simp only [maxLen];omega) (by have := HMI.out;omega) ?_;intro W1 g' cap' junk H hjl hge' hm';(try rw [Nat.mul_one] at hjl);clear HB))
 go_upto_region 11 with (first
  | (refine wpList_copy_row H 2 rfl _ _ 72 72 rfl _ Tryz.underlying72 1 sizeI _ _ _ _ rfl ⟨gv,0,none⟩ _ _ rfl 1 (by have := HMI.out;omega) vs (by rw [HVS.out]) (fun j u hu => World.news_of_block (H.at 1 rfl) j u hu) hv1 (xs.take (i) ++ junk) _ rfl (by rw [HVS.out,hjl];omega) ?_;clear H;intro W2 H))
 obtain ⟨c1,hc1⟩ : ∃ x,(xs.take (i) ++ junk).take (i) ++ vs ++ (xs.take (i) ++ junk).drop (i + vs.length) = x := ⟨_,rfl⟩
 have HJL := Lib.hid hjl
 have HL1 := Lib.hid (show c1.length = cap' by rw [← hc1];simp only [List.length_append,List.length_take,List.length_drop] at hjl ⊢;rw [HVS.out];omega)
 have HX2 := Lib.hid (HXR.out)
 replace H : St O R w W2 [blk g (.cells cs.toArray 3 (0,0)),blk gv (.cells vs.toArray 3 (0,0)),blk g' (.cells c1.toArray 3 (0,0))] := by rw [← hc1];exact H
 have HC1 := Lib.hid hc1
 have hs5 : ¬ cap' = i + 1 := by omega
 replace H := H.drew
 clear hc1 hjl
 have hra : IntKind.i64.wrap ((i : Int) + 1) = (i : Int) + 1 := by rw [IntKind.wrap_i64];omega
 go_still_tail 8,(by kernel_rfl)
 clear hra
 change wpList _ _ _ _ _ W2.drew
 generalize W2.drew = w2 at H ⊢
 go_wp2_with (first
  | (refine wpList_copy_row H 2 rfl _ _ 72 72 rfl _ Tryz.underlying72 1 sizeI _ _ _ _ rfl ⟨g,i,none⟩ _ _ rfl (n - i) (by omega) (xs.drop (i)) (by rw [List.length_drop,HXL.out];omega) (fun j u hu => blk_cell (H.at 0 rfl) (get_take (n := n - i) (by rw [← List.drop_take,HXS.out];exact hu))) (fun u hu => hx1 u (List.mem_of_mem_drop hu)) c1 _ rfl (by rw [List.length_drop,HXL.out,HL1.out];omega) ?_;clear H;intro W3 H))
 go_ret
 have e := ins_cells2 xs vs junk (i) 1 ((n - i)) HVS.out (by rw [HXL.out];omega) (by have := HJL.out;rw [List.length_append,List.length_take,HXL.out] at this;omega)
 have e1 := HC1.out
 rw [HVS.out] at e1
 rw [e1,show i + 1 + (n - i) = (n + 1) by omega,show i + 1 = (i + 1) by omega] at e
 replace e := e.trans (List.append_assoc _ _ _)
 have e2 : (i + 1) + (xs.drop (i)).length = (n + 1) := by rw [List.length_drop,HXL.out];omega
 have H2 := H.blkOwn 2 1 (n + 1) cap' rfl hge' hm' (by simp only [List.length_append,List.length_take,List.length_drop,HL1.out,HXL.out];omega)
 try rw [Nat.mul_one] at H2
 rw [e2,e] at H2
 refine ⟨g',cap',rfl,?_⟩
 have H3 : St O R w _ [ownS 3 1 (some ⟨g',0,none⟩) (n + 1) cap' (xs.take (i) ++ (vs ++ xs.drop (i))),blk gv (.cells vs.toArray 3 (0,0))] := H2.pick (fun m => if m = 0 then 2 else 1) (fun m C hm => by
  match m with
  | 0 => exact hm
  | 1 => exact hm
  | m + 2 => simp at hm) (fun m l hm hl e => by
  simp only [List.length_cons,List.length_nil] at hm hl
  split at e <;> split at e <;> omega)
 exact H3.bunTo
set_option maxHeartbeats 8000000 in
theorem insertI_end {w : World} {p : Option Addr} {n cap gv : Nat} {xs vs : List Value} (hb : Bundle w [ownS 3 1 p n cap xs,blk gv (.cells vs.toArray 3 (0,0))]) (zi : Int) (i : Nat) (hz : (i : Int) = zi) (hi : i ≤ n) (hn : 0 < n) (hn9 : n ≤ 100) (hvs : vs.length = 1)
  (hv1 : ∀ u ∈ vs,u.oneCell' = true) (hx1 : ∀ u ∈ xs,u.oneCell' = true) (he : i = n) :
  Calls Tryz.prog 155 #[.slice p n cap,.int .i64 zi,.slice (some ⟨gv,0,none⟩) 1 1] w fun e w' => ∃ g' cap',e = .returned (.slice (some ⟨g',0,none⟩) (n + 1) cap') ∧
   BunTo w (ownL [ownS 3 1 p n cap xs,blk gv (.cells vs.toArray 3 (0,0))]) (rdL [ownS 3 1 p n cap xs,blk gv (.cells vs.toArray 3 (0,0))]) [ownS 3 1 (some ⟨g',0,none⟩) (n + 1) cap' (xs.take (i) ++ (vs ++ xs.drop (i))),blk gv (.cells vs.toArray 3 (0,0))] w' := by
 subst hz
 have H := hb.open_
 obtain ⟨O,hO⟩ : ∃ O,ownL [ownS 3 1 p n cap xs,blk gv (.cells vs.toArray 3 (0,0))] = O := ⟨_,rfl⟩
 obtain ⟨R,hR⟩ : ∃ R,rdL [ownS 3 1 p n cap xs,blk gv (.cells vs.toArray 3 (0,0))] = R := ⟨_,rfl⟩
 rw [hO,hR] at H ⊢
 have hxl : xs.length = n := by first | exact (H.at 0 rfl).1 | exact ((H.at 0 rfl).1 : xs.length = n * 1).trans (Nat.mul_one n)
 obtain ⟨g,cs,rfl,hnc,hcm,hcl,hxs,HB⟩ := H.ownBlk 0 rfl hn
 try rw [Nat.mul_one] at hcl
 try rw [Nat.mul_one] at hxs
 replace HB : St O R w w [blk g (.cells cs.toArray 3 (0,0)),blk gv (.cells vs.toArray 3 (0,0))] := HB
 clear hb hO hR
 have HVS := Lib.hid hvs
 have HXL := Lib.hid hxl
 have HCL := Lib.hid hcl
 have HXS := Lib.hid hxs
 have HCM := Lib.hid hcm
 have hi0 : 0 ≤ (i : Int) := by omega
 have hi1 : (i : Int) ≤ (n : Int) := by omega
 have hn1 : (n : Int) ≤ (cap : Int) := by omega
 have hn2 : (n : Int) ≤ 100 := by omega
 clear hvs hxl hcl hxs hcm
 subst he
 clear HB HCL HXS HCM
 by_cases hci : cap = i
 all_goals
  go_enter Tryz.func155,Tryz.ntmps155
  go_upto_region 7 with fail
  go_wp2_with (first
   | (at_builtin;refine wpList_append_ownS H 0 rfl _ _ 72 rfl _ Tryz.underlying72 _ 1 8 infoI rfl (by omega) (some ⟨g,0,none⟩) i cap rfl xs rfl ⟨gv,0,none⟩ 1 1 rfl vs (by rw [HVS.out]) (fun j u hu => World.news_of_block (H.at 1 rfl) j u hu) hv1 (by omega) (by simp only [maxLen];omega) (by omega) ?_;clear H;intro W1 g' cap' H))
  go_ret
  refine ⟨g',cap',rfl,St.bunTo (?_ : St O R w _ _)⟩
  rw [List.take_of_length_le (by rw [HXL.out];exact Nat.le_refl _),List.drop_eq_nil_of_le (by rw [HXL.out];exact Nat.le_refl _),List.append_nil]
  exact H
theorem insertI {w : World} {p : Option Addr} {n cap gv : Nat} {xs vs : List Value} (hb : Bundle w [ownS 3 1 p n cap xs,blk gv (.cells vs.toArray 3 (0,0))]) (zi : Int) (i : Nat) (hz : (i : Int) = zi) (hi : i ≤ n) (hn : 0 < n) (hn9 : n ≤ 100) (hvs : vs.length = 1)
  (hv1 : ∀ u ∈ vs,u.oneCell' = true) (hx1 : ∀ u ∈ xs,u.oneCell' = true) :
  Calls Tryz.prog 155 #[.slice p n cap,.int .i64 zi,.slice (some ⟨gv,0,none⟩) 1 1] w fun e w' => ∃ g' cap',e = .returned (.slice (some ⟨g',0,none⟩) (n + 1) cap') ∧
   BunTo w (ownL [ownS 3 1 p n cap xs,blk gv (.cells vs.toArray 3 (0,0))]) (rdL [ownS 3 1 p n cap xs,blk gv (.cells vs.toArray 3 (0,0))]) [ownS 3 1 (some ⟨g',0,none⟩) (n + 1) cap' (xs.take (i) ++ (vs ++ xs.drop (i))),blk gv (.cells vs.toArray 3 (0,0))] w' := by
 rcases Nat.lt_or_ge i n with h | h
 ·rcases Nat.lt_or_ge n cap with h2 | h2
  ·exact insertI_room hb zi i hz hi hn hn9 hvs hv1 hx1 h h2
  ·exact insertI_grow hb zi i hz hi hn hn9 hvs hv1 hx1 h h2
 ·exact insertI_end hb zi i hz hi hn hn9 hvs hv1 hx1 (by omega)
end Go.Proofs.YtlgciddnpinpbaaGreatDoor
