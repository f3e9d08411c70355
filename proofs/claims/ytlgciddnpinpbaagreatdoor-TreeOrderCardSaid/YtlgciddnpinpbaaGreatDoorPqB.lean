/- Texts of this proof, packed. -/
import Derived.Test.YtlgciddnpinpbaaGreatDoorPkBase4
set_option linter.unusedSimpArgs false
set_option linter.unusedVariables false
namespace Go.Proofs.YtlgciddnpinpbaaGreatDoor
def kn : List UInt8 → Nat
 | [] => 0
 | b :: l => b.toNat * 256 ^ l.length + kn l
theorem kn_lt : ∀ l : List UInt8,kn l < 256 ^ l.length
 | [] => by simp [kn]
 | b :: l => by
  have h1 := kn_lt l
  have h2 := b.toNat_lt
  rw [kn,List.length_cons,Nat.pow_succ]
  have : b.toNat * 256 ^ l.length + 256 ^ l.length ≤ 256 ^ l.length * 256 := by
   rw [Nat.mul_comm (256 ^ l.length) 256,← Nat.succ_mul];exact Nat.mul_le_mul_right _ h2
  omega
theorem kn_cons_lt {a b : UInt8} {l m : List UInt8} (h : l.length = m.length) (hab : a.toNat < b.toNat) : kn (a :: l) < kn (b :: m) := by
 rw [kn,kn,h]
 have h1 := kn_lt l
 rw [h] at h1
 have : (a.toNat + 1) * 256 ^ m.length ≤ b.toNat * 256 ^ m.length := Nat.mul_le_mul_right _ hab
 rw [Nat.succ_mul] at this
 omega
structure PairT where
 k : List UInt8
 v : List UInt8
def PairT.n (p : PairT) : Nat := kn p.k
def PairT.b (p : PairT) : List UInt8 := p.k ++ p.v
def ins (p : PairT) (l : List PairT) : List PairT := l.filter (fun q => decide (q.n < p.n)) ++ p :: l.filter (fun q => decide (p.n < q.n))
def del (k : Nat) (l : List PairT) : List PairT := l.filter fun q => decide (q.n ≠ k)
def Ris (l : List PairT) : Prop := l.Pairwise fun a b => a.n < b.n
theorem filter_all {p : PairT → Bool} {l : List PairT} (h : ∀ q ∈ l,p q = true) : l.filter p = l := List.filter_eq_self.2 h
theorem filter_no {p : PairT → Bool} {l : List PairT} (h : ∀ q ∈ l,p q = false) : l.filter p = [] := List.filter_eq_nil_iff.2 fun q hq => by rw [h q hq];simp
theorem ins_append (p : PairT) (A l B : List PairT) (hA : ∀ q ∈ A,q.n < p.n) (hB : ∀ q ∈ B,p.n < q.n) : ins p (A ++ (l ++ B)) = A ++ (ins p l ++ B) := by
 unfold ins
 rw [List.filter_append,List.filter_append,List.filter_append,List.filter_append,filter_all (l := A) (fun q hq => decide_eq_true (hA q hq)),filter_no (l := B) (fun q hq => decide_eq_false (by have := hB q hq;omega)),
  filter_no (l := A) (fun q hq => decide_eq_false (by have := hA q hq;omega)),filter_all (l := B) (fun q hq => decide_eq_true (hB q hq))]
 simp
theorem del_append (k : Nat) (A l B : List PairT) (hA : ∀ q ∈ A,q.n ≠ k) (hB : ∀ q ∈ B,q.n ≠ k) : del k (A ++ (l ++ B)) = A ++ (del k l ++ B) := by
 unfold del
 rw [List.filter_append,List.filter_append,filter_all (l := A) (fun q hq => decide_eq_true (hA q hq)),filter_all (l := B) (fun q hq => decide_eq_true (hB q hq))]
theorem ris_ins {l : List PairT} (h : Ris l) (p : PairT) : Ris (ins p l) := by
 unfold Ris ins at *
 rw [List.pairwise_append,List.pairwise_cons]
 refine ⟨h.filter _,⟨fun q hq => by simpa using (List.mem_filter.1 hq).2,h.filter _⟩,fun a ha b hb => ?_⟩
 have h1 : a.n < p.n := by simpa using (List.mem_filter.1 ha).2
 rcases List.mem_cons.1 hb with rfl | hb
 ·exact h1
 ·have h2 : p.n < b.n := by simpa using (List.mem_filter.1 hb).2
  omega
theorem mem_ins {p q : PairT} {l : List PairT} (h : q ∈ ins p l) : q = p ∨ q ∈ l := by
 unfold ins at h
 simp only [List.mem_append,List.mem_cons,List.mem_filter] at h
 grind
theorem ins_mid {p : PairT} {a b : List PairT} (ha : ∀ q ∈ a,q.n < p.n) (hb : ∀ q ∈ b,p.n < q.n) : ins p (a ++ b) = a ++ p :: b := by
 have := ins_append p a [] b ha hb
 simpa [ins] using this
theorem ins_eq {p q : PairT} {a b : List PairT} (ha : ∀ q ∈ a,q.n < p.n) (hq : q.n = p.n) (hb : ∀ q ∈ b,p.n < q.n) : ins p (a ++ q :: b) = a ++ p :: b := by
 have := ins_append p a [q] b ha hb
 simpa [ins,hq] using this
theorem del_mid {q : PairT} {a b : List PairT} {k : Nat} (ha : ∀ q ∈ a,q.n ≠ k) (hq : q.n = k) (hb : ∀ q ∈ b,q.n ≠ k) : del k (a ++ q :: b) = a ++ b := by
 have := del_append k a [q] b ha hb
 simpa [del,hq] using this
theorem ins_len {p : PairT} {l : List PairT} : (ins p l).length ≤ l.length + 1 := by
 unfold ins
 rw [List.length_append,List.length_cons]
 have : (l.filter (fun q => decide (q.n < p.n))).length + (l.filter (fun q => decide (p.n < q.n))).length ≤ l.length := by
  induction l with
  | nil => simp
  | cons x l ih => simp only [List.filter_cons];split <;> split <;> simp at * <;> omega
 omega
def SepT : List Nat → List (List Nat) → Prop
 | [],cs => ∃ c,cs = [c]
 | _ :: _,[] => False
 | k :: ks,c :: cs => (∀ x ∈ c,∀ k' ∈ k :: ks,x < k') ∧ (∀ q ∈ cs,∀ x ∈ q,k ≤ x) ∧ SepT ks cs
theorem SepT.len : ∀ {ks : List Nat} {cs : List (List Nat)},SepT ks cs → cs.length = ks.length + 1
 | [],_,⟨c,rfl⟩ => rfl
 | _ :: ks,[],h => h.elim
 | k :: ks,c :: cs,h => by rw [List.length_cons,List.length_cons,h.2.2.len]
theorem SepT.mid0 : ∀ (M : List Nat) (C : List (List Nat)) (ks2 : List Nat) (b : List (List Nat)),C.length = M.length + 1 →
  (SepT (M ++ ks2) (C ++ b) ↔ SepT ks2 ([] :: b) ∧ SepT M C ∧ (∀ q ∈ C,∀ x ∈ q,∀ k ∈ ks2,x < k) ∧ (∀ k ∈ M,∀ q ∈ b,∀ x ∈ q,k ≤ x))
 | [],[c],[],b,_ => by
  simp [SepT]
 | [],[c],k :: ks2,b,_ => by
  simp only [List.nil_append,List.cons_append,SepT]
  grind
 | m :: M,c :: C,ks2,b,h => by
  have ih := SepT.mid0 M C ks2 b (by simpa using h)
  simp only [List.cons_append,SepT]
  rw [ih]
  have hne : C ≠ [] := by intro e;subst e;simp at h
  grind
theorem SepT.mid : ∀ (ks1 : List Nat) (a : List (List Nat)),a.length = ks1.length → ∀ (M : List Nat) (C : List (List Nat)) (ks2 : List Nat) (b : List (List Nat)),C.length = M.length + 1 →
  (SepT (ks1 ++ (M ++ ks2)) (a ++ (C ++ b)) ↔ SepT (ks1 ++ ks2) (a ++ [] :: b) ∧ SepT M C ∧ (∀ q ∈ C,∀ x ∈ q,(∀ k ∈ ks1,k ≤ x) ∧ ∀ k ∈ ks2,x < k) ∧
   (∀ k ∈ M,(∀ q ∈ a,∀ x ∈ q,x < k) ∧ (∀ q ∈ b,∀ x ∈ q,k ≤ x)))
 | [],[],_,M,C,ks2,b,hC => by
  have := SepT.mid0 M C ks2 b hC
  simp only [List.nil_append]
  rw [this]
  grind
 | k :: ks1,c :: a,h,M,C,ks2,b,hC => by
  have ih := SepT.mid ks1 a (by simpa using h) M C ks2 b hC
  simp only [List.cons_append,SepT]
  rw [ih]
  have hne : C ≠ [] := by intro e;subst e;simp at hC
  grind
theorem SepT.two (ks1 : List Nat) (a : List (List Nat)) (k : Nat) (ks2 : List Nat) (b : List (List Nat)) (h : a.length = ks1.length + 1) :
  SepT (ks1 ++ k :: ks2) (a ++ b) ↔ SepT ks1 a ∧ SepT ks2 b ∧ (∀ q ∈ a,∀ x ∈ q,x < k ∧ ∀ k' ∈ ks2,x < k') ∧ (∀ q ∈ b,∀ x ∈ q,k ≤ x ∧ ∀ k' ∈ ks1,k' ≤ x) := by
 induction ks1 generalizing a with
 | nil =>
  match a,h with
  | [c],_ =>
   simp only [List.nil_append,List.singleton_append,SepT]
   grind
 | cons k1 ks1 ih =>
  match a,h with
  | c :: a,h =>
   have := ih a (by simpa using h)
   simp only [List.cons_append,SepT]
   rw [this]
   grind
def encLeaf (ps : List PairT) : List UInt8 := [1,UInt8.ofNat ps.length] ++ (List.replicate 6 0 ++ (ps.flatMap PairT.b ++ List.replicate (240 - 40 * ps.length) 0))
def le4 (n : Nat) : List UInt8 := Lib.leBytes 4 n
def encKids : List (List UInt8) → List Nat → List UInt8
 | k :: ks,c :: cs => k ++ (le4 c ++ encKids ks cs)
 | _,_ => []
def encInner (ks : List (List UInt8)) (cs : List Nat) : List UInt8 := [2,UInt8.ofNat ks.length] ++ (List.replicate 6 0 ++ (le4 (cs.headD 0) ++ (encKids ks cs.tail ++ List.replicate (236 - 36 * ks.length) 0)))
structure Sub where
 s : Nat
 h : Nat
 hs : List Nat
 ps : List PairT
def Sub.ns (c : Sub) : List Nat := c.ps.map PairT.n
structure PairOk (p : PairT) : Prop where
 k : p.k.length = 32
 v : p.v.length = 8
def Lies (v : Nat → List UInt8) : Nat → Nat → Nat → List Nat → List PairT → Prop
 | 0,s,h,hs,ps => hs = [h] ∧ v h = encLeaf ps ∧ ps.length = s ∧ s ≤ 6 ∧ ∀ p ∈ ps,PairOk p
 | d + 1,s,h,hs,ps => ∃ (ks : List (List UInt8)) (cs : List Sub),v h = encInner ks (cs.map Sub.h) ∧ ks.length = s ∧ s ≤ 6 ∧ (∀ k ∈ ks,k.length = 32) ∧ SepT (ks.map kn) (cs.map Sub.ns) ∧
   hs = h :: cs.flatMap Sub.hs ∧ ps = cs.flatMap Sub.ps ∧ ∀ c ∈ cs,3 ≤ c.s ∧ Lies v d c.s c.h c.hs c.ps
theorem Lies.frame {v v' : Nat → List UInt8} : ∀ (d : Nat) {s h : Nat} {hs : List Nat} {ps : List PairT},Lies v d s h hs ps → (∀ x ∈ hs,v' x = v x) → Lies v' d s h hs ps
 | 0,s,h,hs,ps,⟨e,hv,r⟩,hf => ⟨e,by rw [hf h (by rw [e];exact List.mem_singleton_self h)];exact hv,r⟩
 | d + 1,s,h,hs,ps,⟨ks,cs,hv,h1,h2,h3,h4,h5,h6,h7⟩,hf => by
  refine ⟨ks,cs,?_,h1,h2,h3,h4,h5,h6,fun c hc => ⟨(h7 c hc).1,Lies.frame d (h7 c hc).2 fun x hx => hf x ?_⟩⟩
  ·rw [hf h (by rw [h5];exact List.mem_cons_self ..)];exact hv
  ·rw [h5];exact List.mem_cons_of_mem _ (List.mem_flatMap.2 ⟨c,hc,hx⟩)
theorem Lies.home {v : Nat → List UInt8} : ∀ {d s h : Nat} {hs : List Nat} {ps : List PairT},Lies v d s h hs ps → ∃ r,hs = h :: r
 | 0,s,h,hs,ps,⟨e,_⟩ => ⟨[],e⟩
 | d + 1,s,h,hs,ps,⟨ks,cs,hv,h1,h2,h3,h4,h5,h6,h7⟩ => ⟨_,h5⟩
theorem Lies.mem {v : Nat → List UInt8} {d s h : Nat} {hs : List Nat} {ps : List PairT} (hl : Lies v d s h hs ps) : h ∈ hs := by
 obtain ⟨r,rfl⟩ := hl.home;exact List.mem_cons_self ..
theorem Lies.le6 {v : Nat → List UInt8} : ∀ {d s h : Nat} {hs : List Nat} {ps : List PairT},Lies v d s h hs ps → s ≤ 6
 | 0,s,h,hs,ps,⟨e,_,_,h6,_⟩ => h6
 | d + 1,s,h,hs,ps,⟨ks,cs,hv,h1,h2,_⟩ => h2
theorem Lies.some_ {v : Nat → List UInt8} : ∀ {d s h : Nat} {hs : List Nat} {ps : List PairT},Lies v d s h hs ps → 1 ≤ s → ps ≠ []
 | 0,s,h,hs,ps,⟨e,hv,h1,r⟩,hm => by intro e;subst e;simp at h1;omega
 | d + 1,s,h,hs,ps,⟨ks,cs,hv,h1,h2,h3,h4,h5,h6,h7⟩,hm => by
  have hl := h4.len
  simp only [List.length_map] at hl
  match cs,hl with
  | c :: cs,_ =>
   have := Lies.some_ (h7 c (List.mem_cons_self ..)).2 (by have := (h7 c (List.mem_cons_self ..)).1;omega)
   rw [h6]
   simp [this]
theorem Lies.good {v : Nat → List UInt8} : ∀ {d s h : Nat} {hs : List Nat} {ps : List PairT},Lies v d s h hs ps → ∀ p ∈ ps,PairOk p
 | 0,s,h,hs,ps,⟨e,hv,h1,h2,r⟩ => r
 | d + 1,s,h,hs,ps,⟨ks,cs,hv,h1,h2,h3,h4,h5,h6,h7⟩ => fun p hp => by
  rw [h6] at hp
  obtain ⟨c,hc,hp⟩ := List.mem_flatMap.1 hp
  exact (h7 c hc).2.good p hp
theorem SepT.rise : ∀ {ks : List Nat} {cs : List (List Nat)},SepT ks cs → (∀ c ∈ cs,c ≠ []) → ks.Pairwise (· < ·)
 | [],_,_,_ => List.Pairwise.nil
 | _ :: _,[],h,_ => h.elim
 | k :: ks,c :: cs,h,hn => by
  have ih := SepT.rise h.2.2 (fun c hc => hn c (List.mem_cons_of_mem _ hc))
  refine List.pairwise_cons.2 ⟨fun k' hk' => ?_,ih⟩
  match ks,cs,h,hn,hk' with
  | k2 :: ks,c2 :: cs,h,hn,hk' =>
   obtain ⟨x,hx⟩ := List.exists_mem_of_ne_nil c2 (hn c2 (by simp))
   have h1 := h.2.1 c2 (by simp) x hx
   have h2 := h.2.2.1 x hx k' hk'
   omega
theorem mem_ns {c : Sub} {x : Nat} : x ∈ c.ns ↔ ∃ p ∈ c.ps,p.n = x := by simp [Sub.ns,List.mem_map]
structure Way (ks1 ks2 : List (List UInt8)) (n : Nat) : Prop where
 le : ∀ k ∈ ks1,kn k ≤ n
 gt : ∀ k ∈ ks2,n < kn k
theorem last_of {ks1 : List Nat} {a : List (List Nat)} {r : List Nat} {y : List (List Nat)} (h : SepT (ks1 ++ r) (a ++ y)) (hl : a.length = ks1.length) : ∀ q ∈ a,∀ x ∈ q,∃ k ∈ ks1,x < k := by
 induction ks1 generalizing a with
 | nil => intro q hq;rw [List.length_eq_zero_iff.1 hl] at hq;cases hq
 | cons k ks1 ih =>
  match a,hl with
  | c :: a,hl =>
   simp only [List.cons_append,SepT] at h
   intro q hq x hx
   rcases List.mem_cons.1 hq with rfl | hq
   ·exact ⟨k,by simp,h.1 x hx k (by simp)⟩
   ·obtain ⟨k',hk',hlt⟩ := ih h.2.2 (by simpa using hl) q hq x hx
    exact ⟨k',List.mem_cons_of_mem _ hk',hlt⟩
theorem first_of {ks1 : List Nat} {a : List (List Nat)} {r : List Nat} {c : List Nat} {b : List (List Nat)} (h : SepT (ks1 ++ r) (a ++ c :: b)) (hl : a.length = ks1.length) : ∀ q ∈ b,∀ x ∈ q,∃ k ∈ r,k ≤ x := by
 induction ks1 generalizing a with
 | nil =>
  rw [List.length_eq_zero_iff.1 hl] at h
  simp only [List.nil_append] at h
  intro q hq x hx
  match r,h with
  | [],h => obtain ⟨c',e⟩ := h;cases b with
   | nil => cases hq
   | cons _ _ => simp at e
  | k :: r,h => exact ⟨k,by simp,h.2.1 q hq x hx⟩
 | cons k ks1 ih =>
  match a,hl with
  | c' :: a,hl =>
   simp only [List.cons_append,SepT] at h
   exact ih h.2.2 (by simpa using hl)
theorem Way.apart {ks1 ks2 : List (List UInt8)} {a b : List Sub} {c : Sub} {n : Nat} (hw : Way ks1 ks2 n) (h : SepT ((ks1 ++ ks2).map kn) ((a ++ c :: b).map Sub.ns)) (hl : a.length = ks1.length) :
  (∀ q ∈ a.flatMap Sub.ps,q.n < n) ∧ (∀ q ∈ b.flatMap Sub.ps,n < q.n) := by
 rw [List.map_append,List.map_append,List.map_cons] at h
 refine ⟨fun q hq => ?_,fun q hq => ?_⟩
 ·obtain ⟨e,he,hq⟩ := List.mem_flatMap.1 hq
  obtain ⟨k,hk,hlt⟩ := last_of h (by simpa using hl) e.ns (List.mem_map.2 ⟨e,he,rfl⟩) q.n (mem_ns.2 ⟨q,hq,rfl⟩)
  obtain ⟨k',hk',rfl⟩ := List.mem_map.1 hk
  have := hw.le k' hk'
  omega
 ·obtain ⟨e,he,hq⟩ := List.mem_flatMap.1 hq
  obtain ⟨k,hk,hlt⟩ := first_of h (by simpa using hl) e.ns (List.mem_map.2 ⟨e,he,rfl⟩) q.n (mem_ns.2 ⟨q,hq,rfl⟩)
  obtain ⟨k',hk',rfl⟩ := List.mem_map.1 hk
  have := hw.gt k' hk'
  omega
theorem SepT.turn {ks1 ks2 : List Nat} {a b : List (List Nat)} {c c' : List Nat} (h : SepT (ks1 ++ ks2) (a ++ c :: b)) (hl : a.length = ks1.length) (h1 : ∀ x ∈ c',(∀ k ∈ ks1,k ≤ x) ∧ ∀ k ∈ ks2,x < k) : SepT (ks1 ++ ks2) (a ++ c' :: b) := by
 have := (SepT.mid ks1 a hl [] [c] ks2 b rfl).1 h
 exact (SepT.mid ks1 a hl [] [c'] ks2 b rfl).2 ⟨this.1,⟨c',rfl⟩,fun q hq x hx => by obtain rfl := List.mem_singleton.1 hq;exact h1 x hx,fun k hk => by cases hk⟩
theorem SepT.within {ks1 ks2 : List Nat} {a b : List (List Nat)} {c : List Nat} (h : SepT (ks1 ++ ks2) (a ++ c :: b)) (hl : a.length = ks1.length) : ∀ x ∈ c,(∀ k ∈ ks1,k ≤ x) ∧ ∀ k ∈ ks2,x < k := by
 have := (SepT.mid ks1 a hl [] [c] ks2 b rfl).1 h
 exact fun x hx => this.2.2.1 c (by simp) x hx
theorem SepT.part {ks1 ks2 : List Nat} {a b : List (List Nat)} {c c1 c2 : List Nat} {k : Nat} (h : SepT (ks1 ++ ks2) (a ++ c :: b)) (hl : a.length = ks1.length) (h1 : ∀ x ∈ c1,(∀ k ∈ ks1,k ≤ x) ∧ ∀ k ∈ ks2,x < k) (h2 : ∀ x ∈ c2,(∀ k ∈ ks1,k ≤ x) ∧ ∀ k ∈ ks2,x < k)
  (hk1 : ∀ x ∈ c1,x < k) (hk2 : ∀ x ∈ c2,k ≤ x) (hka : ∀ q ∈ a,∀ x ∈ q,x < k) (hkb : ∀ q ∈ b,∀ x ∈ q,k ≤ x) : SepT (ks1 ++ k :: ks2) (a ++ c1 :: c2 :: b) := by
 have := (SepT.mid ks1 a hl [] [c] ks2 b rfl).1 h
 refine (SepT.mid ks1 a hl [k] [c1,c2] ks2 b rfl).2 ⟨this.1,⟨fun x hx k' hk' => ?_,fun q hq x hx => ?_,⟨c2,rfl⟩⟩,fun q hq x hx => ?_,fun k' hk' => ?_⟩
 ·obtain rfl := List.mem_singleton.1 hk';exact hk1 x hx
 ·obtain rfl := List.mem_singleton.1 hq;exact hk2 x hx
 ·simp only [List.mem_cons,List.not_mem_nil,or_false] at hq
  rcases hq with rfl | rfl
  ·exact h1 x hx
  ·exact h2 x hx
 ·obtain rfl := List.mem_singleton.1 hk';exact ⟨hka,hkb⟩
structure Inner (v : Nat → List UInt8) (d : Nat) (ks : List (List UInt8)) (cs : List Sub) : Prop where
 k32 : ∀ k ∈ ks,k.length = 32
 sep : SepT (ks.map kn) (cs.map Sub.ns)
 kids : ∀ c ∈ cs,3 ≤ c.s ∧ Lies v d c.s c.h c.hs c.ps
def homesOf (cs : List Sub) : List Nat := cs.flatMap Sub.hs
def pairsOf (cs : List Sub) : List PairT := cs.flatMap Sub.ps
theorem Lies.inner {v : Nat → List UInt8} {d s h : Nat} {hs : List Nat} {ps : List PairT} (hl : Lies v (d + 1) s h hs ps) :
  ∃ ks cs,Inner v d ks cs ∧ v h = encInner ks (cs.map Sub.h) ∧ ks.length = s ∧ cs.length = s + 1 ∧ s ≤ 6 ∧ hs = h :: homesOf cs ∧ ps = pairsOf cs := by
 obtain ⟨ks,cs,hv,h1,h2,h3,h4,h5,h6,h7⟩ := hl
 refine ⟨ks,cs,⟨h3,h4,h7⟩,hv,h1,?_,h2,h5,h6⟩
 have := h4.len
 simp only [List.length_map] at this
 omega
theorem Inner.lies {v : Nat → List UInt8} {d s h : Nat} {ks : List (List UInt8)} {cs : List Sub} (hi : Inner v d ks cs) (hv : v h = encInner ks (cs.map Sub.h)) (hs : ks.length = s) (h6 : s ≤ 6) : Lies v (d + 1) s h (h :: homesOf cs) (pairsOf cs) :=
 ⟨ks,cs,hv,hs,h6,hi.k32,hi.sep,rfl,rfl,hi.kids⟩
theorem Inner.len {v : Nat → List UInt8} {d : Nat} {ks : List (List UInt8)} {cs : List Sub} (hi : Inner v d ks cs) : cs.length = ks.length + 1 := by
 have := hi.sep.len;simpa using this
theorem Inner.frame {v v' : Nat → List UInt8} {d : Nat} {ks : List (List UInt8)} {cs : List Sub} (hi : Inner v d ks cs) (hf : ∀ x ∈ homesOf cs,v' x = v x) : Inner v' d ks cs :=
 ⟨hi.k32,hi.sep,fun c hc => ⟨(hi.kids c hc).1,(hi.kids c hc).2.frame d fun x hx => hf x (List.mem_flatMap.2 ⟨c,hc,hx⟩)⟩⟩
theorem Inner.rise {v : Nat → List UInt8} {d : Nat} {ks : List (List UInt8)} {cs : List Sub} (hi : Inner v d ks cs) : (ks.map kn).Pairwise (· < ·) := by
 refine hi.sep.rise fun c hc e => ?_
 obtain ⟨c,hm,rfl⟩ := List.mem_map.1 hc
 have := (hi.kids c hm).2.some_ (by have := (hi.kids c hm).1;omega)
 exact this (by simpa [Sub.ns] using e)
def PutTo (v : Nat → List UInt8) (d s h : Nat) (ps' : List PairT) : Option (List UInt8 × Nat) → List Sub → Prop
 | none,[c] => s ≤ c.s ∧ c.h = h ∧ Lies v d c.s c.h c.hs c.ps ∧ c.ps = ps'
 | some (k,h2),[c1,c2] => 3 ≤ c1.s ∧ Lies v d c1.s c1.h c1.hs c1.ps ∧ 3 ≤ c2.s ∧ Lies v d c2.s c2.h c2.hs c2.ps ∧ c1.h = h ∧ c2.h = h2 ∧ c1.ps ++ c2.ps = ps' ∧ k.length = 32 ∧ (∀ q ∈ c1.ps,q.n < kn k) ∧ ∀ q ∈ c2.ps,kn k ≤ q.n
 | _,_ => False
structure Found (ps a b : List PairT) (n : Nat) (is : Bool) : Prop where
 parts : ps = a ++ b
 lt : ∀ q ∈ a,q.n < n
 eq : is = true → ∃ q r,b = q :: r ∧ q.n = n ∧ ∀ x ∈ r,n < x.n
 gt : is = false → ∀ q ∈ b,n < q.n
def putL (a b : List PairT) (p : PairT) (is : Bool) : List PairT := a ++ p :: (if is then b.tail else b)
theorem Found.ins {ps a b : List PairT} {p : PairT} {is : Bool} (h : Found ps a b p.n is) : putL a b p is = ins p ps := by
 unfold putL
 cases is with
 | true =>
  obtain ⟨q,r,rfl,hq,hr⟩ := h.eq rfl
  rw [h.parts,ins_eq h.lt hq hr];rfl
 | false => rw [h.parts,ins_mid h.lt (h.gt rfl)];rfl
theorem Found.del {ps a b : List PairT} {n : Nat} (h : Found ps a b n true) : a ++ b.tail = del n ps := by
 obtain ⟨q,r,rfl,hq,hr⟩ := h.eq rfl
 rw [h.parts,del_mid (fun x hx => by have := h.lt x hx;omega) hq (fun x hx => by have := hr x hx;omega)]
 rfl
theorem Found.none {ps a b : List PairT} {n : Nat} (h : Found ps a b n false) : ∀ q ∈ ps,q.n ≠ n := by
 intro q hq
 rw [h.parts] at hq
 rcases List.mem_append.1 hq with hq | hq
 ·have := h.lt q hq;omega
 ·have := h.gt rfl q hq;omega
theorem put_leaf {v v' : Nat → List UInt8} {s h : Nat} {hs : List Nat} {ps a b : List PairT} {p : PairT} {is : Bool} (hl : Lies v 0 s h hs ps) (hf : Found ps a b p.n is) (hp : PairOk p)
  (h6 : (putL a b p is).length ≤ 6) (hv : v' h = encLeaf (putL a b p is)) : PutTo v' 0 s h (ins p ps) none [⟨(putL a b p is).length,h,[h],ins p ps⟩] := by
 obtain ⟨rfl,_,h1,h2,h3⟩ := hl
 refine ⟨?_,rfl,⟨rfl,by rw [← hf.ins];exact hv,by rw [hf.ins],h6,fun q hq => ?_⟩,rfl⟩
 ·show s ≤ (putL a b p is).length
  unfold putL
  cases is with
  | true =>
   obtain ⟨q,r,rfl,_⟩ := hf.eq rfl
   rw [← h1,hf.parts];simp
  | false => rw [← h1,hf.parts];simp
 ·rcases mem_ins hq with rfl | hq
  ·exact hp
  ·exact h3 q hq
theorem ris_split {a b : List PairT} {q : PairT} (h : Ris (a ++ q :: b)) : (∀ x ∈ a,x.n < q.n) ∧ ∀ x ∈ q :: b,q.n ≤ x.n := by
 unfold Ris at h
 rw [List.pairwise_append,List.pairwise_cons] at h
 refine ⟨fun x hx => h.2.2 x hx q (by simp),fun x hx => ?_⟩
 rcases List.mem_cons.1 hx with rfl | hx
 ·exact Nat.le_refl _
 ·exact Nat.le_of_lt (h.2.1.1 x hx)
theorem put_leaf2 {v v' : Nat → List UInt8} {s h h2 : Nat} {hs : List Nat} {ps x y : List PairT} {p q : PairT} (hl : Lies v 0 s h hs ps) (hr : Ris ps) (hp : PairOk p) (hi : ins p ps = x ++ q :: y) (hx : x.length = 4) (hy : y.length = 2)
  (hv : v' h = encLeaf x) (hv2 : v' h2 = encLeaf (q :: y)) : PutTo v' 0 s h (ins p ps) (some (q.k,h2)) [⟨4,h,[h],x⟩,⟨3,h2,[h2],q :: y⟩] := by
 obtain ⟨rfl,_,h1,h2',h3⟩ := hl
 have hg : ∀ z ∈ ins p ps,PairOk z := fun z hz => by
  rcases mem_ins hz with rfl | hz
  ·exact hp
  ·exact h3 z hz
 have hsp := ris_split (a := x) (q := q) (b := y) (by rw [← hi];exact ris_ins hr p)
 rw [hi] at hg ⊢
 exact ⟨Nat.le_succ 3,⟨rfl,hv,hx,Nat.le_of_ble_eq_true rfl,fun z hz => hg z (by simp [hz])⟩,Nat.le_refl 3,⟨rfl,hv2,by simp [hy],Nat.le_of_ble_eq_true rfl,fun z hz => hg z (List.mem_append_right _ hz)⟩,rfl,rfl,rfl,(hg q (by simp)).k,hsp.1,hsp.2⟩
theorem homesOf_mid (a b : List Sub) (c : Sub) : homesOf (a ++ c :: b) = homesOf a ++ (c.hs ++ homesOf b) := by simp [homesOf]
theorem pairsOf_mid (a b : List Sub) (c : Sub) : pairsOf (a ++ c :: b) = pairsOf a ++ (c.ps ++ pairsOf b) := by simp [pairsOf]
theorem ns_ins {c : Sub} {p : PairT} {ps : List PairT} (e : ps = ins p c.ps) {x : Nat} (hx : x ∈ ps.map PairT.n) : x = p.n ∨ x ∈ c.ns := by
 obtain ⟨q,hq,rfl⟩ := List.mem_map.1 hx
 rw [e] at hq
 rcases mem_ins hq with rfl | hq
 ·exact .inl rfl
 ·exact .inr (List.mem_map.2 ⟨q,hq,rfl⟩)
theorem put_inner {v v' : Nat → List UInt8} {d s h : Nat} {ks1 ks2 : List (List UInt8)} {a b : List Sub} {c c' : Sub} {p : PairT} (hi : Inner v d (ks1 ++ ks2) (a ++ c :: b)) (hl : a.length = ks1.length) (hw : Way ks1 ks2 p.n)
  (hs : (ks1 ++ ks2).length = s) (h6 : s ≤ 6) (hv : v h = encInner (ks1 ++ ks2) ((a ++ c :: b).map Sub.h)) (hv' : v' h = v h) (hfa : ∀ x ∈ homesOf a,v' x = v x) (hfb : ∀ x ∈ homesOf b,v' x = v x) (hc : PutTo v' d c.s c.h (ins p c.ps) none [c']) :
  PutTo v' (d + 1) s h (ins p (pairsOf (a ++ c :: b))) none [⟨s,h,h :: homesOf (a ++ c' :: b),pairsOf (a ++ c' :: b)⟩] := by
 obtain ⟨g1,g2,g3,g4⟩ := hc
 have hsep := hi.sep
 have hap := hw.apart hsep hl
 have hk := hi.kids
 rw [List.map_append,List.map_append,List.map_cons] at hsep
 have hwi := SepT.within hsep (by simpa using hl)
 have hns := SepT.turn (c' := c'.ns) hsep (by simpa using hl) (fun x hx => by
  rcases ns_ins (c := c) (ps := c'.ps) g4 hx with rfl | hx
  ·refine ⟨fun k hk => ?_,fun k hk => ?_⟩
   ·obtain ⟨k',hk',rfl⟩ := List.mem_map.1 hk;exact hw.le k' hk'
   ·obtain ⟨k',hk',rfl⟩ := List.mem_map.1 hk;exact hw.gt k' hk'
  ·exact hwi x hx)
 have hi' : Inner v' d (ks1 ++ ks2) (a ++ c' :: b) := by
  refine ⟨hi.k32,by rw [List.map_append,List.map_append,List.map_cons];exact hns,fun e he => ?_⟩
  rcases List.mem_append.1 he with he | he
  ·exact ⟨(hk e (by simp [he])).1,(hk e (by simp [he])).2.frame d fun x hx => hfa x (List.mem_flatMap.2 ⟨e,he,hx⟩)⟩
  ·rcases List.mem_cons.1 he with rfl | he
   ·exact ⟨Nat.le_trans (hk c (by simp)).1 g1,g3⟩
   ·exact ⟨(hk e (by simp [he])).1,(hk e (by simp [he])).2.frame d fun x hx => hfb x (List.mem_flatMap.2 ⟨e,he,hx⟩)⟩
 refine ⟨Nat.le_refl _,rfl,hi'.lies (by rw [hv',hv];simp [g2]) hs h6,?_⟩
 show pairsOf (a ++ c' :: b) = _
 rw [pairsOf_mid,pairsOf_mid,ins_append p (pairsOf a) c.ps (pairsOf b) hap.1 hap.2,g4]
theorem put_part {v v' : Nat → List UInt8} {d : Nat} {ks1 ks2 : List (List UInt8)} {a b : List Sub} {c c1 c2 : Sub} {p : PairT} {k : List UInt8} {h2 : Nat} (hi : Inner v d (ks1 ++ ks2) (a ++ c :: b)) (hl : a.length = ks1.length) (hw : Way ks1 ks2 p.n)
  (hfa : ∀ x ∈ homesOf a,v' x = v x) (hfb : ∀ x ∈ homesOf b,v' x = v x) (hc : PutTo v' d c.s c.h (ins p c.ps) (some (k,h2)) [c1,c2]) :
  Inner v' d (ks1 ++ k :: ks2) (a ++ c1 :: c2 :: b) ∧ pairsOf (a ++ c1 :: c2 :: b) = ins p (pairsOf (a ++ c :: b)) ∧ c1.h = c.h ∧ c2.h = h2 := by
 obtain ⟨g1,g2,g3,g4,g5,g6,g7,g8,g9,g10⟩ := hc
 have hsep := hi.sep
 have hap := hw.apart hsep hl
 have hk := hi.kids
 rw [List.map_append,List.map_append,List.map_cons] at hsep
 have hla : (a.map Sub.ns).length = (ks1.map kn).length := by simpa using hl
 have hwi := SepT.within hsep hla
 have hb1 : ∀ x,x = p.n ∨ x ∈ c.ns → (∀ k ∈ ks1.map kn,k ≤ x) ∧ ∀ k ∈ ks2.map kn,x < k := fun x hx => by
  rcases hx with rfl | hx
  ·refine ⟨fun k hk => ?_,fun k hk => ?_⟩
   ·obtain ⟨k',hk',rfl⟩ := List.mem_map.1 hk;exact hw.le k' hk'
   ·obtain ⟨k',hk',rfl⟩ := List.mem_map.1 hk;exact hw.gt k' hk'
  ·exact hwi x hx
 have hin : ∀ x,x ∈ c1.ns ∨ x ∈ c2.ns → x = p.n ∨ x ∈ c.ns := fun x hx => ns_ins (c := c) (ps := c1.ps ++ c2.ps) g7 (by rw [List.map_append,List.mem_append];exact hx)
 -- every child has a pair
 obtain ⟨z1,hz1⟩ := List.exists_mem_of_ne_nil _ (g2.some_ (by omega))
 obtain ⟨z2,hz2⟩ := List.exists_mem_of_ne_nil _ (g4.some_ (by omega))
 have e1 := hb1 z1.n (hin z1.n (.inl (List.mem_map.2 ⟨z1,hz1,rfl⟩)))
 have e2 := hb1 z2.n (hin z2.n (.inr (List.mem_map.2 ⟨z2,hz2,rfl⟩)))
 have f1 := g9 z1 hz1
 have f2 := g10 z2 hz2
 have hns := SepT.part (c1 := c1.ns) (c2 := c2.ns) (k := kn k) hsep hla (fun x hx => hb1 x (hin x (.inl hx))) (fun x hx => hb1 x (hin x (.inr hx)))
  (fun x hx => by obtain ⟨q,hq,rfl⟩ := List.mem_map.1 hx;exact g9 q hq) (fun x hx => by obtain ⟨q,hq,rfl⟩ := List.mem_map.1 hx;exact g10 q hq)
  (fun q hq x hx => by
   obtain ⟨k',hk',hlt⟩ := last_of hsep hla q hq x hx
   have := e1.1 k' hk'
   omega)
  (fun q hq x hx => by
   obtain ⟨k',hk',hle⟩ := first_of hsep hla q hq x hx
   have := e2.2 k' hk'
   omega)
 refine ⟨⟨fun y hy => ?_,by rw [List.map_append,List.map_append,List.map_cons,List.map_cons,List.map_cons];exact hns,fun e he => ?_⟩,?_,g5,g6⟩
 ·rcases List.mem_append.1 hy with hy | hy
  ·exact hi.k32 y (by simp [hy])
  ·rcases List.mem_cons.1 hy with rfl | hy
   ·exact g8
   ·exact hi.k32 y (by simp [hy])
 ·rcases List.mem_append.1 he with he | he
  ·exact ⟨(hk e (by simp [he])).1,(hk e (by simp [he])).2.frame d fun x hx => hfa x (List.mem_flatMap.2 ⟨e,he,hx⟩)⟩
  ·rcases List.mem_cons.1 he with rfl | he
   ·exact ⟨g1,g2⟩
   ·rcases List.mem_cons.1 he with rfl | he
    ·exact ⟨g3,g4⟩
    ·exact ⟨(hk e (by simp [he])).1,(hk e (by simp [he])).2.frame d fun x hx => hfb x (List.mem_flatMap.2 ⟨e,he,hx⟩)⟩
 ·have e : pairsOf (a ++ c1 :: c2 :: b) = pairsOf a ++ ((c1.ps ++ c2.ps) ++ pairsOf b) := by simp [pairsOf]
  rw [e,pairsOf_mid,ins_append p (pairsOf a) c.ps (pairsOf b) hap.1 hap.2,g7]
theorem put_split {v v' : Nat → List UInt8} {d s h h2 : Nat} {x y : List (List UInt8)} {k : List UInt8} {X Y : List Sub} {ps : List PairT} (hi : Inner v d (x ++ k :: y) (X ++ Y)) (hX : X.length = 4) (hx : x.length = 3) (hy : y.length = 3) (hp : pairsOf (X ++ Y) = ps)
  (hf : ∀ z ∈ homesOf (X ++ Y),v' z = v z) (hv : v' h = encInner x (X.map Sub.h)) (hv2 : v' h2 = encInner y (Y.map Sub.h)) :
  PutTo v' (d + 1) s h ps (some (k,h2)) [⟨3,h,h :: homesOf X,pairsOf X⟩,⟨3,h2,h2 :: homesOf Y,pairsOf Y⟩] := by
 have hi' := hi.frame hf
 have hsep := hi'.sep
 rw [List.map_append,List.map_append,List.map_cons] at hsep
 have ht := (SepT.two (x.map kn) (X.map Sub.ns) (kn k) (y.map kn) (Y.map Sub.ns) (by simp;omega)).1 hsep
 refine ⟨Nat.le_refl 3,Inner.lies ⟨fun z hz => hi.k32 z (by simp [hz]),ht.1,fun c hc => hi'.kids c (by simp [hc])⟩ hv hx (Nat.le_of_ble_eq_true rfl),Nat.le_refl 3,Inner.lies ⟨fun z hz => hi.k32 z (by simp [hz]),ht.2.1,fun c hc => hi'.kids c (by simp [hc])⟩ hv2 hy (Nat.le_of_ble_eq_true rfl),rfl,rfl,?_,hi.k32 k (by simp),fun q hq => ?_,fun q hq => ?_⟩
 ·rw [← hp];simp [pairsOf]
 ·obtain ⟨c,hc,hq⟩ := List.mem_flatMap.1 hq
  exact (ht.2.2.1 c.ns (List.mem_map.2 ⟨c,hc,rfl⟩) q.n (List.mem_map.2 ⟨q,hq,rfl⟩)).1
 ·obtain ⟨c,hc,hq⟩ := List.mem_flatMap.1 hq
  exact (ht.2.2.2 c.ns (List.mem_map.2 ⟨c,hc,rfl⟩) q.n (List.mem_map.2 ⟨q,hq,rfl⟩)).1
structure DropTo (v : Nat → List UInt8) (d : Nat) (c : Sub) (n : Nat) (c' : Sub) : Prop where
 s : c.s ≤ c'.s + 1
 h : c'.h = c.h
 lies : Lies v d c'.s c'.h c'.hs c'.ps
 ps : c'.ps = del n c.ps
theorem Lies.count {v : Nat → List UInt8} : ∀ {d s h : Nat} {hs : List Nat} {ps : List PairT},Lies v d s h hs ps → 3 ≤ s → 2 * hs.length + 1 ≤ ps.length
 | 0,s,h,hs,ps,⟨e,_,h1,_⟩,h3 => by rw [e,h1];simp;omega
 | d + 1,s,h,hs,ps,hl,h3 => by
  obtain ⟨ks,cs,hi,hv,hks,hcs,h6,rfl,rfl⟩ := hl.inner
  have key : ∀ cs : List Sub,(∀ c ∈ cs,3 ≤ c.s ∧ Lies v d c.s c.h c.hs c.ps) → 2 * (homesOf cs).length + cs.length ≤ (pairsOf cs).length := by
   intro cs
   induction cs with
   | nil => intro _;simp [homesOf,pairsOf]
   | cons c cs ih =>
    intro hk
    have h1 := ih (fun e he => hk e (List.mem_cons_of_mem _ he))
    have h2 := (hk c (List.mem_cons_self ..)).2.count (hk c (List.mem_cons_self ..)).1
    simp only [homesOf,pairsOf,List.flatMap_cons,List.length_append,List.length_cons] at h1 ⊢
    omega
  have := key cs hi.kids
  rw [List.length_cons]
  omega
theorem Lies.count1 {v : Nat → List UInt8} : ∀ {d s h : Nat} {hs : List Nat} {ps : List PairT},Lies v d s h hs ps → 1 ≤ s → hs.length ≤ ps.length
 | 0,s,h,hs,ps,⟨e,_,h1,_⟩,h3 => by rw [e,h1];simpa using h3
 | d + 1,s,h,hs,ps,hl,h3 => by
  obtain ⟨ks,cs,hi,hv,hks,hcs,h6,rfl,rfl⟩ := hl.inner
  have key : ∀ cs : List Sub,(∀ c ∈ cs,3 ≤ c.s ∧ Lies v d c.s c.h c.hs c.ps) → 2 * (homesOf cs).length + cs.length ≤ (pairsOf cs).length := by
   intro cs
   induction cs with
   | nil => intro _;simp [homesOf,pairsOf]
   | cons c cs ih =>
    intro hk
    have h1 := ih (fun e he => hk e (List.mem_cons_of_mem _ he))
    have h2 := (hk c (List.mem_cons_self ..)).2.count (hk c (List.mem_cons_self ..)).1
    simp only [homesOf,pairsOf,List.flatMap_cons,List.length_append,List.length_cons] at h1 ⊢
    omega
  have := key cs hi.kids
  rw [List.length_cons]
  omega
def sumF (f : Nat → Nat) : Nat → Nat
 | 0 => f 0
 | n + 1 => sumF f n + f (n + 1)
theorem sumF_add (f g : Nat → Nat) : ∀ n,sumF (fun j => f j + g j) n = sumF f n + sumF g n
 | 0 => rfl
 | n + 1 => by simp only [sumF,sumF_add f g n];omega
theorem sumF_congr {f g : Nat → Nat} : ∀ n,(∀ j,j ≤ n → f j = g j) → sumF f n = sumF g n
 | 0,h => h 0 (Nat.le_refl _)
 | n + 1,h => by rw [sumF,sumF,sumF_congr n (fun j hj => h j (by omega)),h (n + 1) (Nat.le_refl _)]
theorem sumF_zero : ∀ n,sumF (fun _ => 0) n = 0
 | 0 => rfl
 | n + 1 => by rw [sumF,sumF_zero n]
structure Floors (d top hs ps : Nat) (f : Nat → Nat) : Prop where
 top : f d = top
 least : 3 * f 0 ≤ ps
 four : ∀ j,j < d → 4 * f (j + 1) ≤ f j
 sum : hs = sumF f d
theorem floors_kids {v : Nat → List UInt8} {d : Nat} (ih : ∀ {s h : Nat} {hs : List Nat} {ps : List PairT},Lies v d s h hs ps → 3 ≤ s → ∃ f,Floors d 1 hs.length ps.length f) : ∀ cs : List Sub,(∀ c ∈ cs,3 ≤ c.s ∧ Lies v d c.s c.h c.hs c.ps) → ∃ f,Floors d cs.length (homesOf cs).length (pairsOf cs).length f
 | [],_ => ⟨fun _ => 0,rfl,by simp [pairsOf],fun _ _ => Nat.le_refl _,by rw [sumF_zero];rfl⟩
 | c :: cs,hk => by
  obtain ⟨f,hf⟩ := ih (hk c (List.mem_cons_self ..)).2 (hk c (List.mem_cons_self ..)).1
  obtain ⟨g,hg⟩ := floors_kids ih cs (fun e he => hk e (List.mem_cons_of_mem _ he))
  refine ⟨fun j => f j + g j,by rw [List.length_cons,hf.top,hg.top];omega,?_,fun j hj => ?_,?_⟩
  ·have := hf.least;have := hg.least
   simp only [pairsOf,List.flatMap_cons,List.length_append] at *
   omega
  ·have := hf.four j hj;have := hg.four j hj;omega
  ·rw [sumF_add,← hf.sum,← hg.sum];simp [homesOf]
theorem Floors.up {d n hs ps : Nat} {f : Nat → Nat} (h : Floors d n hs ps f) : (∀ j,j < d + 1 → (if j = d + 1 then 1 else f j) = f j) ∧ sumF (fun j => if j = d + 1 then 1 else f j) (d + 1) = hs + 1 := by
 refine ⟨fun j hj => if_neg (by omega),?_⟩
 rw [sumF,if_pos rfl,sumF_congr (g := f) d (fun j hj => if_neg (by omega)),← h.sum]
theorem Lies.floors {v : Nat → List UInt8} : ∀ (d : Nat) {s h : Nat} {hs : List Nat} {ps : List PairT},Lies v d s h hs ps → 3 ≤ s → ∃ f,Floors d 1 hs.length ps.length f
 | 0,s,h,hs,ps,⟨e,_,h1,_⟩,h3 => ⟨fun _ => 1,rfl,by simp;omega,fun j hj => by omega,by rw [e];rfl⟩
 | d + 1,s,h,hs,ps,hl,h3 => by
  obtain ⟨ks,cs,hi,hv,hks,hcs,h6,rfl,rfl⟩ := hl.inner
  obtain ⟨f,hf⟩ := floors_kids (fun hl h3 => Lies.floors d hl h3) cs hi.kids
  have hu := hf.up
  refine ⟨fun j => if j = d + 1 then 1 else f j,if_pos rfl,?_,fun j hj => ?_,?_⟩
  ·rw [hu.1 0 (by omega)];exact hf.least
  ·rcases Nat.lt_or_ge j d with h | h
   ·rw [hu.1 j (by omega),hu.1 (j + 1) (by omega)];exact hf.four j h
   ·have : j = d := by omega
    subst this
    rw [if_pos rfl,hu.1 j (by omega),hf.top];omega
  ·rw [hu.2,List.length_cons]
theorem Lies.floors1 {v : Nat → List UInt8} : ∀ (d : Nat) {s h : Nat} {hs : List Nat} {ps : List PairT},Lies v d s h hs ps → 1 ≤ s → ∃ f,f d = 1 ∧ (∀ j,j < d → 2 ≤ f j) ∧ (0 < d → 3 * f 0 ≤ ps.length) ∧ (∀ j,j + 1 < d → 4 * f (j + 1) ≤ f j) ∧ hs.length = sumF f d
 | 0,s,h,hs,ps,⟨e,_,h1,_⟩,h3 => ⟨fun _ => 1,rfl,fun j hj => by omega,fun h => by omega,fun j hj => by omega,by rw [e];rfl⟩
 | d + 1,s,h,hs,ps,hl,h3 => by
  obtain ⟨ks,cs,hi,hv,hks,hcs,h6,rfl,rfl⟩ := hl.inner
  obtain ⟨f,hf⟩ := floors_kids (fun hl h3 => Lies.floors d hl h3) cs hi.kids
  have hu := hf.up
  refine ⟨fun j => if j = d + 1 then 1 else f j,if_pos rfl,fun j hj => ?_,fun _ => ?_,fun j hj => ?_,?_⟩
  ·show 2 ≤ (if j = d + 1 then 1 else f j)
   rw [hu.1 j hj]
   have htop := hf.top
   have : ∀ i,i ≤ d → 2 ≤ f (d - i) := by
    intro i
    induction i with
    | zero => intro _;rw [Nat.sub_zero,htop];omega
    | succ i ih =>
     intro hi
     have h1 := ih (by omega)
     have h2 := hf.four (d - (i + 1)) (by omega)
     rw [show d - (i + 1) + 1 = d - i by omega] at h2
     omega
   have h1 := this (d - j) (by omega)
   rw [show d - (d - j) = j by omega] at h1
   exact h1
  ·show 3 * (if 0 = d + 1 then 1 else f 0) ≤ _
   rw [hu.1 0 (by omega)];exact hf.least
  ·show 4 * (if j + 1 = d + 1 then 1 else f (j + 1)) ≤ (if j = d + 1 then 1 else f j)
   rw [hu.1 j (by omega),hu.1 (j + 1) hj];exact hf.four j (by omega)
  ·rw [hu.2,List.length_cons]
theorem Lies.depth {v : Nat → List UInt8} : ∀ {d s h : Nat} {hs : List Nat} {ps : List PairT},Lies v d s h hs ps → 3 ≤ s → 4 ^ d ≤ hs.length
 | 0,s,h,hs,ps,⟨e,_⟩,_ => by rw [e];exact Nat.le_refl 1
 | d + 1,s,h,hs,ps,hl,h3 => by
  obtain ⟨ks,cs,hi,hv,hks,hcs,h6,rfl,rfl⟩ := hl.inner
  have key : ∀ cs : List Sub,(∀ c ∈ cs,3 ≤ c.s ∧ Lies v d c.s c.h c.hs c.ps) → cs.length * 4 ^ d ≤ (homesOf cs).length := by
   intro cs
   induction cs with
   | nil => intro _;simp
   | cons c cs ih =>
    intro hk
    have h1 := ih (fun e he => hk e (List.mem_cons_of_mem _ he))
    have h2 := (hk c (List.mem_cons_self ..)).2.depth (hk c (List.mem_cons_self ..)).1
    simp only [homesOf,List.flatMap_cons,List.length_append,List.length_cons,Nat.succ_mul] at h1 ⊢
    omega
  have h1 := key cs hi.kids
  have h2 : 4 * 4 ^ d ≤ cs.length * 4 ^ d := Nat.mul_le_mul_right _ (by omega)
  rw [List.length_cons,Nat.pow_succ]
  omega
theorem Lies.depth6 {v : Nat → List UInt8} {d s h : Nat} {hs : List Nat} {ps : List PairT} (hl : Lies v d s h hs ps) (hn : hs.length ≤ 2000) : d ≤ 6 := by
 match d,hl with
 | 0,_ => omega
 | d + 1,hl =>
  obtain ⟨ks,cs,hi,hv,hks,hcs,h6,rfl,rfl⟩ := hl.inner
  match cs,hcs,hi with
  | c :: cs,hcs,hi =>
   have hc := hi.kids c (List.mem_cons_self ..)
   have h1 := hc.2.depth hc.1
   have h2 : c.hs.length ≤ 2000 := by
    simp only [homesOf,List.flatMap_cons,List.length_append,List.length_cons] at hn;omega
   have h3 : 4 ^ d < 4 ^ 6 := by
    have : (4 : Nat) ^ 6 = 4096 := rfl
    omega
   have := (Nat.pow_lt_pow_iff_right (by omega : 1 < 4)).1 h3
   omega
end Go.Proofs.YtlgciddnpinpbaaGreatDoor
