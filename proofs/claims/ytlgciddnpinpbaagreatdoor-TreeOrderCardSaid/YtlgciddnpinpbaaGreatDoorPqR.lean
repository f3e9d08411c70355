/- Texts of this proof, packed. -/
import Derived.Test.YtlgciddnpinpbaaGreatDoorPkBase4
set_option linter.unusedSimpArgs false
set_option linter.unusedVariables false
namespace Go.Proofs.YtlgciddnpinpbaaGreatDoor
theorem rp1 : type_of% @List.setIfInBounds_toArray := @List.setIfInBounds_toArray
theorem rp2 : type_of% @List.set_cons_zero := @List.set_cons_zero
theorem rp3 : type_of% @List.set_cons_succ := @List.set_cons_succ
theorem rp4 : type_of% @List.getElem_toArray := @List.getElem_toArray
theorem rp5 : type_of% @List.getElem_cons_succ := @List.getElem_cons_succ
theorem rp6 : type_of% @List.getElem_cons_zero := @List.getElem_cons_zero
end Go.Proofs.YtlgciddnpinpbaaGreatDoor
namespace Go.Proofs.YtlgciddnpinpbaaGreatDoor
open Go.RowKit
section
variable {P : Program} {ops : Array Oper} {Q : Exit → Act → World → Prop} {md : Region.Mode} {C : World → Prop} {T : List Nat}
def wpAnyT (P : Program) (md : Region.Mode) (ops : Array Oper) (Q : Exit → Act → World → Prop) (C : World → Prop) (T : List Nat) : Nat → Array Bool → Act → World → Prop
 | 0,listed,a,w => Region.ready md ops listed = [] ∧ Q .normal a w
 | fuel + 1,listed,a,w => (Region.ready md ops listed = [] → Q .normal a w) ∧
   ∀ i ∈ Region.ready md ops listed,wpOp P ops Q i (fun a' w' => ((∃ t ∈ T,(listed.setIfInBounds i true).getD t false = true) ∨ C w') ∧ wpAnyT P md ops Q C T fuel (listed.setIfInBounds i true) a' w') a w
theorem wpAny_of_T : ∀ (fuel : Nat) (listed : Array Bool) (a : Act) (w : World),wpAnyT P md ops Q C T fuel listed a w → wpAny P md ops Q fuel listed a w
 | 0,_,_,_,h => h
 | fuel + 1,_,_,_,h => ⟨h.1,fun i hi => wpOp_mono (fun a' w' h' => wpAny_of_T fuel _ a' w' h'.2) (h.2 i hi)⟩
def ClosedR (md : Region.Mode) (ops : Array Oper) (listed : Array Bool) : Prop := ∀ j oj,ops[j]? = some oj → listed.getD j false = true → ∀ e ∈ oj.after,Region.binds md e = true → listed.getD e.on false = true
def closedB (md : Region.Mode) (ops : Array Oper) (listed : Array Bool) : Bool :=
 (List.range ops.size).all fun j => !listed.getD j false || ((ops[j]?).map (·.after.all fun e => !Region.binds md e || listed.getD e.on false)).getD true
theorem closed_of {listed : Array Bool} (h : closedB md ops listed = true) : ClosedR md ops listed := fun j oj hj hl e he hb => by
 have hlt : j < ops.size := (Array.getElem?_eq_some_iff.1 hj).1
 have h1 := List.all_eq_true.1 h j (List.mem_range.2 hlt)
 rw [hl,hj] at h1
 simp only [Bool.not_true,Bool.false_or,Option.map_some,Option.getD_some] at h1
 have h2 := (Array.all_eq_true'.1 h1) e he
 rw [hb] at h2
 simpa using h2
theorem ClosedR.set {listed : Array Bool} {i : Nat} (h : ClosedR md ops listed) (hi : i ∈ Region.ready md ops listed) : ClosedR md ops (listed.setIfInBounds i true) := fun j oj hj hl e he hb => by
 by_cases hij : i = j
 ·subst hij
  obtain ⟨_,o,ho,hall⟩ := mem_ready.1 hi
  obtain rfl : o = oj := Option.some.inj (ho.symm.trans hj)
  exact getD_set_true (hall e he hb)
 ·rw [getD_set_ne false hij] at hl
  exact getD_set_true (h j oj hj hl e he hb)
def needsB (md : Region.Mode) (ops : Array Oper) (i : Nat) : Nat → Nat → Bool
 | 0,_ => false
 | f + 1,t => match ops[t]? with
  | some o => o.after.any fun e => Region.binds md e && (e.on == i || needsB md ops i f e.on)
  | none => false
theorem needs_spec {listed : Array Bool} {i : Nat} (hc : ClosedR md ops listed) : ∀ (f t : Nat),needsB md ops i f t = true → listed.getD t false = true → listed.getD i false = true
 | 0,_,h,_ => by cases h
 | f + 1,t,h,hl => by
  unfold needsB at h
  split at h
  ·rename_i o ho
   obtain ⟨e,he,h1⟩ := Array.any_eq_true'.1 h
   simp only [Bool.and_eq_true,Bool.or_eq_true,beq_iff_eq] at h1
   have h2 := hc t o ho hl e he h1.1
   rcases h1.2 with h3 | h3
   ·rw [← h3];exact h2
   ·exact needs_spec hc f e.on h3 h2
  ·cases h
theorem getD_unlisted {listed : Array Bool} {i : Nat} (h : listed.getD i true = false) : listed.getD i false = false := by
 rcases Nat.lt_or_ge i listed.size with h' | h'
 ·simp [h'] at h ⊢;exact h
 ·simp [Array.getElem?_eq_none h'] at h
theorem wpAnyT_first {i f : Nat} {oi : Oper} {v : Value} (hi : ops[i]? = some oi) (hsel : ∀ (j : Nat) (o : Oper) cs b,ops[j]? = some o → o.op ≠ .select cs b)
  (hQ : ∀ c a w,Q (.panic c) (a.put oi.dst v) w → Q (.panic c) a w) (hT : ∀ t ∈ T,needsB md ops i f t = true) (hTi : i ∉ T) :
  ∀ (fuel : Nat) (listed : Array Bool) (a : Act) (w : World),ClosedR md ops listed →
   (∀ j oj,ops[j]? = some oj → j ≠ i → listed.getD j true = false → (∀ e ∈ oj.after,Region.binds md e = true → e.on ≠ i) → oi.apart ops oj = true) →
   i ∈ Region.ready md ops listed → YieldsIf P ops C oi v a → C w →
   wpAnyT P md ops Q C T fuel (listed.setIfInBounds i true) (a.put oi.dst v) w → wpAnyT P md ops Q C T (fuel + 1) listed a w := by
 intro fuel
 induction fuel with
 | zero =>
  intro listed a w _ _ hr hy hS H
  refine ⟨fun h => (by rw [h] at hr;cases hr),fun j hj => ?_⟩
  by_cases hji : j = i
  ·subst hji;exact hy.wpOp hi hS ⟨.inr hS,H⟩
  ·have := ready_mono hj hji
   rw [H.1] at this
   cases this
 | succ fuel ih =>
  intro listed a w hcl hfree hr hy hS H
  refine ⟨fun h => (by rw [h] at hr;cases hr),fun j hj => ?_⟩
  by_cases hji : j = i
  ·subst hji;exact hy.wpOp hi hS ⟨.inr hS,H⟩
  ·have h1 := H.2 j (ready_mono hj hji)
   obtain ⟨hjun,oj,hoj,hall⟩ := mem_ready.1 hj
   have hiun := (mem_ready.1 hr).1
   have hnot : ∀ e ∈ oj.after,Region.binds md e = true → e.on ≠ i := fun e he hb heq => by
    have h1 := hall e he hb
    rw [heq,getD_unlisted hiun] at h1
    cases h1
   have h2 := wpOp_putIf hoj (hfree j oj hoj hji hjun hnot) (fun cs b => hsel i oi cs b hi) (fun cs b => hsel j oj cs b hoj) hQ hy h1
   have hfree' : ∀ k ok,ops[k]? = some ok → k ≠ i → (listed.setIfInBounds j true).getD k true = false →
     (∀ e ∈ ok.after,Region.binds md e = true → e.on ≠ i) → oi.apart ops ok = true := fun k ok hk hki hun hno => by
    refine hfree k ok hk hki ?_ hno
    by_cases hjk : j = k
    ·subst hjk;exact hjun
    ·rw [getD_set_ne true hjk] at hun;exact hun
   have hcl' := hcl.set hj
   refine wpOp_mono (fun a' w' h3 => ?_) h2
   obtain ⟨hy',hS',H'⟩ := h3
   have hC : C w' := by
    rcases hS' with ⟨t,ht,hl⟩ | hC
    ·exfalso
     have hti : i ≠ t := fun e => hTi (by rw [e];exact ht)
     rw [Array.setIfInBounds_comm _ _ (Ne.symm hji),getD_set_ne false hti] at hl
     have h4 := needs_spec hcl' f t (hT t ht) hl
     rw [getD_set_ne false hji,getD_unlisted hiun] at h4
     cases h4
    ·exact hC
   refine ⟨.inr hC,ih (listed.setIfInBounds j true) a' w' hcl' hfree' (ready_mono hr (Ne.symm hji)) hy' hC ?_⟩
   rw [Array.setIfInBounds_comm _ _ hji]
   exact H'
theorem wpAnyT_take {i f : Nat} {oi : Oper} {v : Value} {fuel : Nat} {listed : Array Bool} {a : Act} {w : World} (hi : ops[i]? = some oi)
  (hs : Region.noSelect ops = true) (hf : Region.free md ops listed i = true) (hr : (Region.ready md ops listed).contains i = true) (hcl : closedB md ops listed = true) (hT : (T.all fun t => needsB md ops i f t && t != i) = true)
  (hQ : ∀ c a w,Q (.panic c) (a.put oi.dst v) w → Q (.panic c) a w) (hy : YieldsIf P ops C oi v a) (hS : C w)
  (h : wpAnyT P md ops Q C T fuel (listed.setIfInBounds i true) (a.put oi.dst v) w) : wpAnyT P md ops Q C T (fuel + 1) listed a w := by
 have hT' := List.all_eq_true.1 hT
 exact wpAnyT_first (f := f) hi (Region.noSelect_spec hs) hQ (fun t ht => by have := hT' t ht;simp only [Bool.and_eq_true] at this;exact this.1) (fun hm => by have := hT' i hm;simp at this) fuel listed a w (closed_of hcl) (Region.free_spec hi hf) (by simpa using hr) hy hS h
theorem wpAnyT_pure_first {i : Nat} {oi : Oper} {v : Value} (hi : ops[i]? = some oi) (hsel : ∀ (j : Nat) (o : Oper) cs b,ops[j]? = some o → o.op ≠ .select cs b)
  (hQ : ∀ c a w,Q (.panic c) (a.put oi.dst v) w → Q (.panic c) a w) (hTi : i ∉ T) :
  ∀ (fuel : Nat) (listed : Array Bool) (a : Act) (w : World),
   (∀ j oj,ops[j]? = some oj → j ≠ i → listed.getD j true = false → (∀ e ∈ oj.after,Region.binds md e = true → e.on ≠ i) → oi.apart ops oj = true) →
   i ∈ Region.ready md ops listed → YieldsIf P ops (fun _ => True) oi v a → ((∃ t ∈ T,listed.getD t false = true) ∨ C w) →
   wpAnyT P md ops Q C T fuel (listed.setIfInBounds i true) (a.put oi.dst v) w → wpAnyT P md ops Q C T (fuel + 1) listed a w := by
 have up : ∀ (listed : Array Bool) (w : World) (j : Nat),((∃ t ∈ T,listed.getD t false = true) ∨ C w) → ((∃ t ∈ T,(listed.setIfInBounds j true).getD t false = true) ∨ C w) := fun listed w j h => by
  rcases h with ⟨t,ht,hl⟩ | h
  ·exact .inl ⟨t,ht,getD_set_true hl⟩
  ·exact .inr h
 intro fuel
 induction fuel with
 | zero =>
  intro listed a w _ hr hy hS H
  refine ⟨fun h => (by rw [h] at hr;cases hr),fun j hj => ?_⟩
  by_cases hji : j = i
  ·subst hji;exact hy.wpOp hi trivial ⟨up _ _ _ hS,H⟩
  ·have := ready_mono hj hji
   rw [H.1] at this
   cases this
 | succ fuel ih =>
  intro listed a w hfree hr hy hS H
  refine ⟨fun h => (by rw [h] at hr;cases hr),fun j hj => ?_⟩
  by_cases hji : j = i
  ·subst hji;exact hy.wpOp hi trivial ⟨up _ _ _ hS,H⟩
  ·have h1 := H.2 j (ready_mono hj hji)
   obtain ⟨hjun,oj,hoj,hall⟩ := mem_ready.1 hj
   have hiun := (mem_ready.1 hr).1
   have hnot : ∀ e ∈ oj.after,Region.binds md e = true → e.on ≠ i := fun e he hb heq => by
    have h1 := hall e he hb
    rw [heq,getD_unlisted hiun] at h1
    cases h1
   have h2 := wpOp_putIf hoj (hfree j oj hoj hji hjun hnot) (fun cs b => hsel i oi cs b hi) (fun cs b => hsel j oj cs b hoj) hQ hy h1
   have hfree' : ∀ k ok,ops[k]? = some ok → k ≠ i → (listed.setIfInBounds j true).getD k true = false →
     (∀ e ∈ ok.after,Region.binds md e = true → e.on ≠ i) → oi.apart ops ok = true := fun k ok hk hki hun hno => by
    refine hfree k ok hk hki ?_ hno
    by_cases hjk : j = k
    ·subst hjk;exact hjun
    ·rw [getD_set_ne true hjk] at hun;exact hun
   refine wpOp_mono (fun a' w' h3 => ?_) h2
   obtain ⟨hy',hS',H'⟩ := h3
   have hC : (∃ t ∈ T,(listed.setIfInBounds j true).getD t false = true) ∨ C w' := by
    rcases hS' with ⟨t,ht,hl⟩ | hC
    ·have hti : i ≠ t := fun e => hTi (by rw [e];exact ht)
     rw [Array.setIfInBounds_comm _ _ (Ne.symm hji),getD_set_ne false hti] at hl
     exact .inl ⟨t,ht,hl⟩
    ·exact .inr hC
   refine ⟨hC,ih (listed.setIfInBounds j true) a' w' hfree' (ready_mono hr (Ne.symm hji)) hy' hC ?_⟩
   rw [Array.setIfInBounds_comm _ _ hji]
   exact H'
theorem wpAnyT_pure {i : Nat} {oi : Oper} {v : Value} {fuel : Nat} {listed : Array Bool} {a : Act} {w : World} (hi : ops[i]? = some oi)
  (hs : Region.noSelect ops = true) (hf : Region.free md ops listed i = true) (hr : (Region.ready md ops listed).contains i = true) (hT : (T.all fun t => t != i) = true)
  (hQ : ∀ c a w,Q (.panic c) (a.put oi.dst v) w → Q (.panic c) a w) (hy : YieldsIf P ops (fun _ => True) oi v a) (hS : (∃ t ∈ T,listed.getD t false = true) ∨ C w)
  (h : wpAnyT P md ops Q C T fuel (listed.setIfInBounds i true) (a.put oi.dst v) w) : wpAnyT P md ops Q C T (fuel + 1) listed a w :=
 wpAnyT_pure_first hi (Region.noSelect_spec hs) hQ (fun hm => by have := List.all_eq_true.1 hT i hm;simp at this) fuel listed a w (Region.free_spec hi hf) (by simpa using hr) hy hS h
theorem wpAnyT_one {i : Nat} {oi : Oper} {fuel : Nat} {listed : Array Bool} {a : Act} {w : World} (hr : Region.ready md ops listed = [i]) (ho : ops[i]? = some oi)
  (h : ∀ K' : Act → World → Prop,Shut (∀ a w,((∃ t ∈ T,(listed.setIfInBounds i true).getD t false = true) ∨ C w) → wpAnyT P md ops Q C T fuel (listed.setIfInBounds i true) a w → K' a w) → if Region.wanted oi (yielded ops a.tmps) = true then Oper.wp P oi a w K' Q else K' (a.put oi.dst undef) w) :
  wpAnyT P md ops Q C T (fuel + 1) listed a w :=
 ⟨fun h0 => by { rw [hr] at h0;cases h0 },fun j hj => by
  rw [hr] at hj
  obtain rfl := List.mem_singleton.1 hj
  exact wpOp_step ho fun K' hK => h K' fun a w hS hW => hK a w ⟨hS,hW⟩⟩
theorem wpAnyT_done {listed : Array Bool} {a : Act} {w : World} (hr : Region.ready md ops listed = []) (h : Q .normal a w) : ∀ fuel,wpAnyT P md ops Q C T fuel listed a w
 | 0 => ⟨hr,h⟩
 | _ + 1 => ⟨fun _ => h,by rw [hr];simp⟩
theorem wp_region_T (C : World → Prop) (T : List Nat) {id : Nat} {a : Act} {w : World} (hm : P.follows .mixedOrders = true) (hC : C w.drew) (h : C w.drew → wpAnyT P .any ops Q C T ops.size (Array.replicate ops.size false) a w.drew) : (Code.region id ops true).wp P Q a w :=
 wp_region_any hm (wpAny_of_T _ _ _ _ (h hC))
end
end Go.Proofs.YtlgciddnpinpbaaGreatDoor
namespace Go.Proofs.YtlgciddnpinpbaaGreatDoor
open Go.RowKit
section
variable {P : Program} {ops : Array Oper} {Q : Exit → Act → World → Prop} {md : Region.Mode} {C : World → Prop} {T : List Nat}
theorem wpAnyT_two {i j : Nat} {oi oj : Oper} {fuel : Nat} {listed : Array Bool} {a : Act} {w : World} (hr : Region.ready md ops listed = [i,j]) (hi : ops[i]? = some oi) (hj : ops[j]? = some oj)
  (h1 : ∀ K' : Act → World → Prop,Shut (∀ a w,((∃ t ∈ T,(listed.setIfInBounds i true).getD t false = true) ∨ C w) → wpAnyT P md ops Q C T fuel (listed.setIfInBounds i true) a w → K' a w) → if Region.wanted oi (yielded ops a.tmps) = true then Oper.wp P oi a w K' Q else K' (a.put oi.dst undef) w)
  (h2 : ∀ K' : Act → World → Prop,Shut (∀ a w,((∃ t ∈ T,(listed.setIfInBounds j true).getD t false = true) ∨ C w) → wpAnyT P md ops Q C T fuel (listed.setIfInBounds j true) a w → K' a w) → if Region.wanted oj (yielded ops a.tmps) = true then Oper.wp P oj a w K' Q else K' (a.put oj.dst undef) w) :
  wpAnyT P md ops Q C T (fuel + 1) listed a w :=
 ⟨fun h0 => by { rw [hr] at h0;cases h0 },fun q hq => by
  rw [hr] at hq
  simp only [List.mem_cons,List.not_mem_nil,or_false] at hq
  rcases hq with rfl | rfl
  ·exact wpOp_step hi fun K' hK => h1 K' fun a w hS hW => hK a w ⟨hS,hW⟩
  ·exact wpOp_step hj fun K' hK => h2 K' fun a w hS hW => hK a w ⟨hS,hW⟩⟩
end
theorem share3 {P Q : World → Nat → Nat → Prop} {G : Prop} (main : (∀ W a b,P W a b → Q W a b) → G) (tail : ∀ W a b,P W a b → Q W a b) : G := main tail
theorem share7 {P Q : World → Nat → Nat → Nat → Nat → Nat → Nat → Prop} {G : Prop} (main : (∀ W a b c d e f,P W a b c d e f → Q W a b c d e f) → G) (tail : ∀ W a b c d e f,P W a b c d e f → Q W a b c d e f) : G := main tail
end Go.Proofs.YtlgciddnpinpbaaGreatDoor
