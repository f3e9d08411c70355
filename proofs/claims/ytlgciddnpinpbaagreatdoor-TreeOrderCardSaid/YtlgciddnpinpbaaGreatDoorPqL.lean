/- Texts of this proof, packed. -/
import Derived.Test.YtlgciddnpinpbaaGreatDoorPkBase4
import Derived.Test.YtlgciddnpinpbaaGreatDoorPqR
import Derived.Test.YtlgciddnpinpbaaGreatDoorPqB
import Derived.Test.YtlgciddnpinpbaaGreatDoorPqD
import Derived.Test.YtlgciddnpinpbaaGreatDoorPqK
set_option linter.unusedSimpArgs false
set_option linter.unusedVariables false
namespace Go.Proofs.YtlgciddnpinpbaaGreatDoor
open Go.RowKit
set_option maxRecDepth 40000
theorem get_take_of {α : Type} {l : List α} {i t : Nat} {x : α} (h : (l.take i)[t]? = some x) : t < i ∧ l[t]? = some x := by
 rw [List.getElem?_take] at h
 split at h
 ·exact ⟨by assumption,h⟩
 ·cases h
theorem found_of {ps : List PairT} {i : Nat} {is : Bool} {k : Nat} (hi : i ≤ ps.length) (hr : Ris ps) (h1 : ∀ (t : Nat) (p : PairT),t < i → ps[t]? = some p → p.n < k) (h2 : ∀ (t : Nat) (p : PairT),i ≤ t → ps[t]? = some p → k ≤ p.n) (h3 : is = true ↔ ∃ p : PairT,ps[i]? = some p ∧ p.n = k) :
  Found ps (ps.take i) (ps.drop i) k is := by
 refine ⟨(List.take_append_drop i ps).symm,fun q hq => ?_,fun he => ?_,fun he q hq => ?_⟩
 ·obtain ⟨t,ht⟩ := List.getElem?_of_mem hq
  have := get_take_of ht
  exact h1 t q this.1 this.2
 ·obtain ⟨p,hp,hpk⟩ := h3.1 he
  obtain ⟨hlt,he2⟩ := List.getElem?_eq_some_iff.1 hp
  refine ⟨p,ps.drop (i + 1),by rw [← he2,← List.drop_eq_getElem_cons hlt],hpk,fun x hx => ?_⟩
  obtain ⟨t,ht⟩ := List.getElem?_of_mem hx
  rw [List.getElem?_drop] at ht
  have := ris_mono hr i (i + 1 + t) p x (by omega) hp ht
  omega
 ·obtain ⟨t,ht⟩ := List.getElem?_of_mem hq
  rw [List.getElem?_drop] at ht
  have h4 := h2 (i + t) q (by omega) ht
  rcases Nat.eq_or_lt_of_le h4 with h5 | h5
  ·have : is = true := by
    refine h3.2 ?_
    rcases Nat.eq_zero_or_pos t with h6 | h6
    ·subst h6;exact ⟨q,ht,h5.symm⟩
    ·have hlt : i < ps.length := by have := (List.getElem?_eq_some_iff.1 ht).1;omega
     have h7 := h2 i ps[i] (Nat.le_refl _) (List.getElem?_eq_getElem hlt)
     have h8 := ris_mono hr i (i + t) ps[i] q (by omega) (List.getElem?_eq_getElem hlt) ht
     omega
   rw [he] at this;cases this
  ·exact h5
theorem way_of {ks : List (List UInt8)} {i : Nat} {is : Bool} {k : Nat} (hr : (ks.map kn).Pairwise (· < ·)) (h1 : ∀ (t : Nat) (p : List UInt8),t < i → ks[t]? = some p → kn p < k) (h2 : ∀ (t : Nat) (p : List UInt8),i ≤ t → ks[t]? = some p → k ≤ kn p) (h3 : is = true ↔ ∃ p,ks[i]? = some p ∧ kn p = k) :
  Way (ks.take (if is then i + 1 else i)) (ks.drop (if is then i + 1 else i)) k := by
 cases is with
 | true =>
  obtain ⟨p,hp,hpk⟩ := h3.1 rfl
  refine ⟨fun q hq => ?_,fun q hq => ?_⟩
  ·obtain ⟨t,ht⟩ := List.getElem?_of_mem hq
   have h4 := get_take_of ht
   have h5 : t < i + 1 := h4.1
   rcases Nat.lt_or_ge t i with h6 | h6
   ·have := h1 t q h6 h4.2;omega
   ·obtain rfl : t = i := by omega
    have h7 := h4.2
    rw [hp] at h7;cases h7;omega
  ·obtain ⟨t,ht⟩ := List.getElem?_of_mem hq
   simp only [if_true] at ht
   rw [List.getElem?_drop] at ht
   have := keys_mono hr i (i + 1 + t) p q (by omega) hp ht
   omega
 | false =>
  refine ⟨fun q hq => ?_,fun q hq => ?_⟩
  ·obtain ⟨t,ht⟩ := List.getElem?_of_mem hq
   have h4 := get_take_of ht
   have h5 : t < i := h4.1
   have := h1 t q h5 h4.2;omega
  ·obtain ⟨t,ht⟩ := List.getElem?_of_mem hq
   have ht2 : ks[i + t]? = some q := by rw [← List.getElem?_drop];exact ht
   have h4 := h2 (i + t) q (by omega) ht2
   rcases Nat.eq_or_lt_of_le h4 with h5 | h5
   ·exfalso
    have : false = true := by
     refine h3.2 ?_
     rcases Nat.eq_zero_or_pos t with h6 | h6
     ·subst h6;exact ⟨q,ht2,h5.symm⟩
     ·have hlt : i < ks.length := by have := (List.getElem?_eq_some_iff.1 ht2).1;omega
      have h7 := h2 i ks[i] (Nat.le_refl _) (List.getElem?_eq_getElem hlt)
      have h8 := keys_mono hr i (i + t) ks[i] q (by omega) (List.getElem?_eq_getElem hlt) ht2
      omega
    cases this
   ·exact h5
set_option maxHeartbeats 4000000 in
theorem find_calls {w : World} {g home n cp : Nat} {pp : Option Addr} {b c : Value} {ps : List PairT} {k : List UInt8} (hnode : (nodeA g home true (.slice pp n cp) b c).prop w) (hrow : (rdA pp (pairV ps)).prop w) (hnl : ps.length = n) (hp : ∀ p ∈ ps,PairOk p) (hk : k.length = 32) (hr : Ris ps) (h6 : n ≤ 100) :
  Calls Tryz.prog 150 #[.pointer (some ⟨g,0,none⟩),arrV k] w fun e w' => ∃ (i : Nat) (is : Bool),e = .returned (.tuple #[.int .i64 (i : Int),.bool is]) ∧ i ≤ n ∧ Found ps (ps.take i) (ps.drop i) (kn k) is ∧ Below w.heap.size w w' := by
 have H := St.reads_only (w := w) [imm g (.cells (nRow home true (.slice pp n cp) b c).toArray 149 (0,0)),rdA pp (pairV ps)] (by
  intro B hB
  rcases List.mem_cons.1 hB with rfl | hB
  ·exact ⟨hnode,fun _ h => h⟩
  ·obtain rfl := List.mem_singleton.1 hB;exact ⟨hrow,fun _ h => h⟩)
 have HP := Lib.hid hp
 have HK := Lib.hid hk
 have HR := Lib.hid hr
 have HNL := Lib.hid hnl
 have H6 := Lib.hid h6
 clear hrow hnode hp hk hr hnl h6
 have tok1 : True := trivial
 go_enter Tryz.func150,Tryz.ntmps150
 go_upto_region 1 with (first
  | (have _t := tok1;clear _t;refine wpList_box_st H rfl 67 _ rfl (arrV _) rfl ?_;clear H tok1;intro W gk H;(try simp only [cells_arrV,List.nil_append,List.cons_append,List.set_cons_zero,List.set_cons_succ] at H)))
 replace H := H.drew
 refine wp_region_T (fun w' => w'.cell? ⟨g,2,none⟩ = some (.slice pp n cp) ∧ w'.heap[gk]? = some (.cells (byteV k).toArray 67 (0,0))) [5] (by kernel_rfl) ⟨row_cell (H.at 0 rfl) (nRow2 _ _ _ _ _),H.at 2 rfl⟩ (fun hHeld => ?_)
 (refine wpAnyT_take (i := 0) (f := 20) (v := ?_) rfl (by kernel_rfl) (by kernel_rfl) (by kernel_rfl) (by kernel_rfl) (by kernel_rfl) (fun _ _ _ h => h) (Or.inl ⟨by rfl,?_⟩) (by assumption) ?_;rotate_left;focus (intro w hSw;(try dsimp only at hSw);go_simp;all_goals (with_reducible rfl)));(try simp only [Act.put,rp1,rp2,rp3,rp4,rp5,rp6])
 (refine wpAnyT_take (i := 1) (f := 20) (v := ?_) rfl (by kernel_rfl) (by kernel_rfl) (by kernel_rfl) (by kernel_rfl) (by kernel_rfl) (fun _ _ _ h => h) (Or.inl ⟨by rfl,?_⟩) (by assumption) ?_;rotate_left;focus (intro w hSw;(try dsimp only at hSw);go_simp;all_goals (with_reducible rfl)));(try simp only [Act.put,rp1,rp2,rp3,rp4,rp5,rp6])
 (refine wpAnyT_take (i := 2) (f := 20) (v := ?_) rfl (by kernel_rfl) (by kernel_rfl) (by kernel_rfl) (by kernel_rfl) (by kernel_rfl) (fun _ _ _ h => h) (Or.inl ⟨by rfl,?_⟩) (by assumption) ?_;rotate_left;focus (intro w hSw;(try dsimp only at hSw);go_simp;all_goals (with_reducible rfl)));(try simp only [Act.put,rp1,rp2,rp3,rp4,rp5,rp6])
 (refine wpAnyT_take (i := 3) (f := 20) rfl (by kernel_rfl) (by kernel_rfl) (by kernel_rfl) (by kernel_rfl) (by kernel_rfl) (fun _ _ _ h => h) ((yieldsIf_load1 (by rfl) 76 _ rfl _ _ (by rfl) _ Tryz.underlying76 rfl _ (fun w h => h.1))) (by assumption) ?_);(try simp only [Act.put,rp1,rp2,rp3,rp4,rp5,rp6])
 (refine wpAnyT_take (i := 4) (f := 20) rfl (by kernel_rfl) (by kernel_rfl) (by kernel_rfl) (by kernel_rfl) (by kernel_rfl) (fun _ _ _ h => h) ((yieldsIf_loadrow (by rfl) 67 _ rfl _ (by rfl) _ _ _ _ Tryz.underlying67 rfl (size_key32 k HK.out) (fun w h => h.2))) (by assumption) ?_);(try simp only [Act.put,rp1,rp2,rp3,rp4,rp5,rp6])
 (refine wpAnyT_one (i := 5) (by kernel_rfl) rfl (fun K hK => ?_));(rw [if_pos (by rfl)]);(go_simp;go_at_call 177;(refine (bsP_calls (H.at 1 rfl) HNL.out HP.out HK.out HR.out H6.out).mono ?_);rintro e W' ⟨i,is,rfl,hi,h1,h2,h3,hb⟩;have HF := Lib.hid (found_of (by rw [HNL.out];exact hi) HR.out h1 h2 h3);have HI := Lib.hid hi;clear h1 h2 h3 hi;replace H := H.stay (Fix.of_below hb _);clear hb;(try go_wp2_with fail);refine hK.out _ _ (Or.inl ⟨5,by simp,by kernel_rfl⟩) ?_;clear hK K hHeld);(try simp only [Act.put,rp1,rp2,rp3,rp4,rp5,rp6])
 (refine wpAnyT_pure (i := 6) (v := ?_) rfl (by kernel_rfl) (by kernel_rfl) (by kernel_rfl) (by kernel_rfl) (fun _ _ _ h => h) (Or.inl ⟨by rfl,?_⟩) (Or.inl ⟨5,by simp,by kernel_rfl⟩) ?_;rotate_left;focus (intro w hSw;clear hSw;go_simp;all_goals (with_reducible rfl)));(try simp only [Act.put,rp1,rp2,rp3,rp4,rp5,rp6])
 (refine wpAnyT_pure (i := 7) (v := ?_) rfl (by kernel_rfl) (by kernel_rfl) (by kernel_rfl) (by kernel_rfl) (fun _ _ _ h => h) (Or.inl ⟨by rfl,?_⟩) (Or.inl ⟨5,by simp,by kernel_rfl⟩) ?_;rotate_left;focus (intro w hSw;clear hSw;go_simp;all_goals (with_reducible rfl)));(try simp only [Act.put,rp1,rp2,rp3,rp4,rp5,rp6])
 (refine wpAnyT_pure (i := 8) (v := ?_) rfl (by kernel_rfl) (by kernel_rfl) (by kernel_rfl) (by kernel_rfl) (fun _ _ _ h => h) (Or.inl ⟨by rfl,?_⟩) (Or.inl ⟨5,by simp,by kernel_rfl⟩) ?_;rotate_left;focus (intro w hSw;clear hSw;go_simp;all_goals (with_reducible rfl)));(try simp only [Act.put,rp1,rp2,rp3,rp4,rp5,rp6])
 (refine wpAnyT_pure (i := 9) (v := ?_) rfl (by kernel_rfl) (by kernel_rfl) (by kernel_rfl) (by kernel_rfl) (fun _ _ _ h => h) (Or.inl ⟨by rfl,?_⟩) (Or.inl ⟨5,by simp,by kernel_rfl⟩) ?_;rotate_left;focus (intro w hSw;clear hSw;go_simp;all_goals (with_reducible rfl)));(try simp only [Act.put,rp1,rp2,rp3,rp4,rp5,rp6])
 (refine wpAnyT_done (by kernel_rfl) ?_ _)
 go_wp2
 refine bodyPost_ret (results_tmp2 rfl _ _ _) rfl ?_
 exact ⟨i,is,rfl,HI.out,HF.out,H.fix.below⟩
set_option maxHeartbeats 4000000 in
theorem way_calls {w : World} {g home n ck : Nat} {pk : Option Addr} {a c : Value} {ks : List (List UInt8)} {k : List UInt8} (hnode : (nodeA g home false a (.slice pk n ck) c).prop w) (hrow : (rdA pk (keyV ks)).prop w) (hnl : ks.length = n) (hp : ∀ p ∈ ks,p.length = 32) (hk : k.length = 32) (hr : (ks.map kn).Pairwise (· < ·)) (h6 : n ≤ 100) :
  Calls Tryz.prog 153 #[.pointer (some ⟨g,0,none⟩),arrV k] w fun e w' => ∃ i : Nat,e = .returned (.int .i64 (i : Int)) ∧ i ≤ n ∧ Way (ks.take i) (ks.drop i) (kn k) ∧ Below w.heap.size w w' := by
 have H := St.reads_only (w := w) [imm g (.cells (nRow home false a (.slice pk n ck) c).toArray 149 (0,0)),rdA pk (keyV ks)] (by
  intro B hB
  rcases List.mem_cons.1 hB with rfl | hB
  ·exact ⟨hnode,fun _ h => h⟩
  ·obtain rfl := List.mem_singleton.1 hB;exact ⟨hrow,fun _ h => h⟩)
 have HP := Lib.hid hp
 have HK := Lib.hid hk
 have HR := Lib.hid hr
 have HNL := Lib.hid hnl
 have H6 := Lib.hid h6
 clear hrow hnode hp hk hr hnl h6
 have tok1 : True := trivial
 go_enter Tryz.func153,Tryz.ntmps153
 go_upto_region 1 with (first
  | (have _t := tok1;clear _t;refine wpList_box_st H rfl 67 _ rfl (arrV _) rfl ?_;clear H tok1;intro W gk H;(try simp only [cells_arrV,List.nil_append,List.cons_append,List.set_cons_zero,List.set_cons_succ] at H)))
 replace H := H.drew
 refine wp_region_T (fun w' => w'.cell? ⟨g,3,none⟩ = some (.slice pk n ck) ∧ w'.heap[gk]? = some (.cells (byteV k).toArray 67 (0,0))) [5] (by kernel_rfl) ⟨row_cell (H.at 0 rfl) (nRow3 _ _ _ _ _),H.at 2 rfl⟩ (fun hHeld => ?_)
 (refine wpAnyT_take (i := 0) (f := 20) (v := ?_) rfl (by kernel_rfl) (by kernel_rfl) (by kernel_rfl) (by kernel_rfl) (by kernel_rfl) (fun _ _ _ h => h) (Or.inl ⟨by rfl,?_⟩) (by assumption) ?_;rotate_left;focus (intro w hSw;(try dsimp only at hSw);go_simp;all_goals (with_reducible rfl)));(try simp only [Act.put,rp1,rp2,rp3,rp4,rp5,rp6])
 (refine wpAnyT_take (i := 1) (f := 20) (v := ?_) rfl (by kernel_rfl) (by kernel_rfl) (by kernel_rfl) (by kernel_rfl) (by kernel_rfl) (fun _ _ _ h => h) (Or.inl ⟨by rfl,?_⟩) (by assumption) ?_;rotate_left;focus (intro w hSw;(try dsimp only at hSw);go_simp;all_goals (with_reducible rfl)));(try simp only [Act.put,rp1,rp2,rp3,rp4,rp5,rp6])
 (refine wpAnyT_take (i := 2) (f := 20) (v := ?_) rfl (by kernel_rfl) (by kernel_rfl) (by kernel_rfl) (by kernel_rfl) (by kernel_rfl) (fun _ _ _ h => h) (Or.inl ⟨by rfl,?_⟩) (by assumption) ?_;rotate_left;focus (intro w hSw;(try dsimp only at hSw);go_simp;all_goals (with_reducible rfl)));(try simp only [Act.put,rp1,rp2,rp3,rp4,rp5,rp6])
 (refine wpAnyT_take (i := 3) (f := 20) rfl (by kernel_rfl) (by kernel_rfl) (by kernel_rfl) (by kernel_rfl) (by kernel_rfl) (fun _ _ _ h => h) ((yieldsIf_load1 (by rfl) 147 _ rfl _ _ (by rfl) _ Tryz.underlying147 rfl _ (fun w h => h.1))) (by assumption) ?_);(try simp only [Act.put,rp1,rp2,rp3,rp4,rp5,rp6])
 (refine wpAnyT_take (i := 4) (f := 20) rfl (by kernel_rfl) (by kernel_rfl) (by kernel_rfl) (by kernel_rfl) (by kernel_rfl) (fun _ _ _ h => h) ((yieldsIf_loadrow (by rfl) 67 _ rfl _ (by rfl) _ _ _ _ Tryz.underlying67 rfl (size_key32 k HK.out) (fun w h => h.2))) (by assumption) ?_);(try simp only [Act.put,rp1,rp2,rp3,rp4,rp5,rp6])
 (refine wpAnyT_one (i := 5) (by kernel_rfl) rfl (fun K hK => ?_));(rw [if_pos (by rfl)]);(go_simp;go_at_call 184;(refine (bsK_calls (H.at 1 rfl) HNL.out HP.out HK.out HR.out H6.out).mono ?_);rintro e W' ⟨i,is,rfl,hi,h1,h2,h3,hb⟩;have HF := Lib.hid (way_of HR.out h1 h2 h3);have HI := Lib.hid hi;have HI3 := Lib.hid (show is = true → i < n from fun he => by { obtain ⟨p,hp,_⟩ := h3.1 he;have := (List.getElem?_eq_some_iff.1 hp).1;rw [HNL.out] at this;exact this });have hi9 : (i : Int) ≤ 100 := (by have := H6.out;omega);have hi0 : 0 ≤ (i : Int) := (by omega);clear h1 h2 h3 hi;replace H := H.stay (Fix.of_below hb _);clear hb;(try go_wp2_with fail);refine hK.out _ _ (Or.inl ⟨5,by simp,by kernel_rfl⟩) ?_;clear hK K hHeld);(try simp only [Act.put,rp1,rp2,rp3,rp4,rp5,rp6])
 (refine wpAnyT_pure (i := 6) (v := ?_) rfl (by kernel_rfl) (by kernel_rfl) (by kernel_rfl) (by kernel_rfl) (fun _ _ _ h => h) (Or.inl ⟨by rfl,?_⟩) (Or.inl ⟨5,by simp,by kernel_rfl⟩) ?_;rotate_left;focus (intro w hSw;clear hSw;go_simp;all_goals (with_reducible rfl)));(try simp only [Act.put,rp1,rp2,rp3,rp4,rp5,rp6])
 (refine wpAnyT_pure (i := 7) (v := ?_) rfl (by kernel_rfl) (by kernel_rfl) (by kernel_rfl) (by kernel_rfl) (fun _ _ _ h => h) (Or.inl ⟨by rfl,?_⟩) (Or.inl ⟨5,by simp,by kernel_rfl⟩) ?_;rotate_left;focus (intro w hSw;clear hSw;go_simp;all_goals (with_reducible rfl)));(try simp only [Act.put,rp1,rp2,rp3,rp4,rp5,rp6])
 (refine wpAnyT_pure (i := 8) (v := ?_) rfl (by kernel_rfl) (by kernel_rfl) (by kernel_rfl) (by kernel_rfl) (fun _ _ _ h => h) (Or.inl ⟨by rfl,?_⟩) (Or.inl ⟨5,by simp,by kernel_rfl⟩) ?_;rotate_left;focus (intro w hSw;clear hSw;go_simp;all_goals (with_reducible rfl)));(try simp only [Act.put,rp1,rp2,rp3,rp4,rp5,rp6])
 (refine wpAnyT_pure (i := 9) (v := ?_) rfl (by kernel_rfl) (by kernel_rfl) (by kernel_rfl) (by kernel_rfl) (fun _ _ _ h => h) (Or.inl ⟨by rfl,?_⟩) (Or.inl ⟨5,by simp,by kernel_rfl⟩) ?_;rotate_left;focus (intro w hSw;clear hSw;go_simp;all_goals (with_reducible rfl)));(try simp only [Act.put,rp1,rp2,rp3,rp4,rp5,rp6])
 (refine wpAnyT_pure (i := 10) (v := ?_) rfl (by kernel_rfl) (by kernel_rfl) (by kernel_rfl) (by kernel_rfl) (fun _ _ _ h => h) (Or.inl ⟨by rfl,?_⟩) (Or.inl ⟨5,by simp,by kernel_rfl⟩) ?_;rotate_left;focus (intro w hSw;clear hSw;go_simp;all_goals (with_reducible rfl)));(try simp only [Act.put,rp1,rp2,rp3,rp4,rp5,rp6])
 (refine wpAnyT_done (by kernel_rfl) ?_ _)
 cases is with
 | true =>
  go_wp2
  go_ret
  exact ⟨i + 1,by first | rfl | (congr 2;omega),HI3.out (by first | trivial | rfl),HF.out,H.fix.below⟩
 | false =>
  go_wp2
  go_ret
  exact ⟨i,rfl,HI.out,HF.out,H.fix.below⟩
end Go.Proofs.YtlgciddnpinpbaaGreatDoor
