/- Texts of this proof, packed. -/
import Derived.Test.YtlgciddnpinpbaaGreatDoorPkBase4
import Derived.Test.YtlgciddnpinpbaaGreatDoorPqA
import Derived.Test.YtlgciddnpinpbaaGreatDoorPqB
import Derived.Test.YtlgciddnpinpbaaGreatDoorPqI
import Derived.Test.YtlgciddnpinpbaaGreatDoorPqQ
import Derived.Test.YtlgciddnpinpbaaGreatDoorPqT
import Derived.Test.YtlgciddnpinpbaaGreatDoorPqW
import Derived.Test.YtlgciddnpinpbaaGreatDoorPqX
set_option linter.unusedSimpArgs false
set_option linter.unusedVariables false
namespace Go.Proofs.YtlgciddnpinpbaaGreatDoor
open Go.RowKit
theorem scan_from {m : Int} {k : Nat} {a b : List PairT} (ha : ∀ p ∈ a,p.n < k) (hb : ∀ p ∈ b,k ≤ p.n) : scanOf m k (a ++ b) = b.take m.toNat := by
 have e1 : a.filter (fun p => decide (k ≤ p.n)) = [] := List.filter_eq_nil_iff.2 fun p hp => by have := ha p hp;simp only [decide_eq_true_eq];omega
 have e2 : b.filter (fun p => decide (k ≤ p.n)) = b := List.filter_eq_self.2 fun p hp => decide_eq_true (hb p hp)
 rw [scanOf,gather,List.filter_append,e1,e2]
 simp
theorem scan_all {m : Int} {ps : List PairT} (h : (ps.length : Int) ≤ m) : scanOf m 0 ps = ps := by
 have := scan_from (m := m) (k := 0) (a := []) (b := ps) (fun p hp => (List.not_mem_nil hp).elim) fun p _ => Nat.zero_le _
 rw [List.nil_append] at this
 rw [this,List.take_of_length_le (by omega)]
theorem scan_next {m : Int} {k : Nat} {a b : List PairT} {p : PairT} (hr : Ris (a ++ p :: b)) (hk : k = p.n + 1) : scanOf m k (a ++ p :: b) = b.take m.toNat := by
 have h1 := List.pairwise_append.1 hr
 have h2 := List.pairwise_cons.1 h1.2.1
 rw [show a ++ p :: b = (a ++ [p]) ++ b by simp]
 refine scan_from (fun q hq => ?_) fun q hq => ?_
 ·rcases List.mem_append.1 hq with hq | hq
  ·have := h1.2.2 q hq p (List.mem_cons_self ..);omega
  ·rw [List.mem_singleton.1 hq];omega
 ·have := h2.1 q hq;omega
end Go.Proofs.YtlgciddnpinpbaaGreatDoor
namespace Go.Proofs.YtlgciddnpinpbaaGreatDoor
open Go.RowKit
set_option maxRecDepth 40000
structure Grove2 (s : TX) (n ra : Nat) (ha : List Nat) (pa : List PairT) (rb : Nat) (hb : List Nat) (pb : List PairT) : Prop where
 ok : s.Ok 0
 cnt : s.n = n
 A : Root s ra ha pa
 B : Root s rb hb pb
 held : Held s (hb ++ ha)
 left : leftOf (s.v 1) n + (ha.length + hb.length) + 2 = n
theorem Grove2.swap {s : TX} {n ra rb : Nat} {ha hb : List Nat} {pa pb : List PairT} (G : Grove2 s n ra ha pa rb hb pb) : Grove2 s n rb hb pb ra ha pa :=
 ⟨G.ok,G.cnt,G.B,G.A,G.held.perm List.perm_append_comm,by have := G.left;omega⟩
theorem Grove2.start {s : TX} {n : Nat} (h : NewSpace s n) (h2 : 2 ≤ n) : Grove2 s n 0 [] [] 0 [] [] := by
 have G := Grove.start h h2
 exact ⟨G.ok,G.cnt,G.R,G.R,Held.nil s,by have := G.left;simpa using this⟩
theorem Grove2.moves {s s' : TX} {n ra rb r' : Nat} {ha hb hs' ws : List Nat} {pa pb ps' : List PairT} (G : Grove2 s n ra ha pa rb hb pb) (R' : Root s' r' hs' ps') (m : Moves s s' 0 ha hs' ws) : Grove2 s' n r' hs' ps' rb hb pb := by
 have hst := m.stay G.held
 have hap := G.held.apart
 refine ⟨m.ok,by rw [m.n,G.cnt],R',G.B.frame (fun x hx => ?_) hst.left,hst,?_⟩
 ·have ht := G.held.left.taken x hx
  exact m.v ht.2.1 (by omega) (hap x hx) (hst.apart x hx)
 ·have h1 := m.left
  have h2 := G.left
  rw [G.cnt] at h1
  omega
theorem put_grove2 {w : World} {s : TX} {n ra rb : Nat} {ha hb : List Nat} {pa pb : List PairT} {k v : List UInt8} (hbu : Bundle w (s.L ++ [errA])) (G : Grove2 s n ra ha pa rb hb pb) (hk : k.length = 32) (hv : v.length = 8) (hroom : pa.length + pb.length + 9 < n) (z : Int) (hz : (ra : Int) = z) :
  Calls Tryz.prog 40 #[.pointer (some ⟨s.g,0,none⟩),.int .u32 z,arrV k,arrV v] w fun e w' => ∃ (r' : Nat) (hs' : List Nat) (s' : TX),e = .returned (.tuple #[.int .u32 (r' : Int),.int .i64 0]) ∧ Grove2 s' n r' hs' (ins ⟨k,v⟩ pa) rb hb pb ∧ s'.g = s.g ∧ BunTo w (ownL (s.L ++ [errA])) (rdL (s.L ++ [errA])) (s'.L ++ [errA]) w' := by
 refine (Put_calls (c := 0) hbu G.ok G.A hk hv z hz).mono fun e w' h => ?_
 rcases h with ⟨r',hs',s',ws,rfl,R',h0,m,hl,hto⟩ | ⟨s',rfl,hl,_⟩
 ·exact ⟨r',hs',s',rfl,G.moves R' m,m.g,hto⟩
 ·exfalso
  have h1 := G.left
  have h2 := G.A.count
  have h3 := G.B.count
  rw [G.cnt] at hl
  omega
theorem ris_ext : ∀ {a b : List PairT},Ris a → Ris b → (∀ q,q ∈ a ↔ q ∈ b) → a = b
 | [],[],_,_,_ => rfl
 | [],y :: b,_,_,h => by have := (h y).2 (List.mem_cons_self ..);cases this
 | x :: a,[],_,_,h => by have := (h x).1 (List.mem_cons_self ..);cases this
 | x :: a,y :: b,ha,hb,h => by
  have ha' := List.pairwise_cons.1 ha
  have hb' := List.pairwise_cons.1 hb
  have e : x = y := by
   rcases List.mem_cons.1 ((h x).1 (List.mem_cons_self ..)) with h1 | h1
   ·exact h1
   ·rcases List.mem_cons.1 ((h y).2 (List.mem_cons_self ..)) with h2 | h2
    ·exact h2.symm
    ·have := hb'.1 x h1
     have := ha'.1 y h2
     omega
  subst e
  rw [ris_ext ha'.2 hb'.2 fun q => ?_]
  constructor
  ·intro hq
   rcases List.mem_cons.1 ((h q).1 (List.mem_cons_of_mem _ hq)) with h1 | h1
   ·have := ha'.1 q hq;subst h1;omega
   ·exact h1
  ·intro hq
   rcases List.mem_cons.1 ((h q).2 (List.mem_cons_of_mem _ hq)) with h1 | h1
   ·have := hb'.1 q hq;subst h1;omega
   ·exact h1
theorem mem_ins_iff {p q : PairT} {l : List PairT} : q ∈ ins p l ↔ q = p ∨ (q ∈ l ∧ q.n ≠ p.n) := by
 unfold ins
 simp only [List.mem_append,List.mem_cons,List.mem_filter,decide_eq_true_eq]
 constructor
 ·rintro (⟨h1,h2⟩ | h | ⟨h1,h2⟩)
  ·exact .inr ⟨h1,by omega⟩
  ·exact .inl h
  ·exact .inr ⟨h1,by omega⟩
 ·rintro (h | ⟨h1,h2⟩)
  ·exact .inr (.inl h)
  ·rcases Nat.lt_or_ge q.n p.n with h | h
   ·exact .inl ⟨h1,h⟩
   ·exact .inr (.inr ⟨h1,by omega⟩)
structure HasN (P : Nat → Prop) (ps : List PairT) : Prop where
 ris : Ris ps
 mem : ∀ q,q ∈ ps ↔ ∃ x,P x ∧ q = pairN x x
 lt : ∀ x,P x → x < 65536
theorem HasN.nil : HasN (fun _ => False) [] := ⟨List.Pairwise.nil,fun q => by simp,fun _ h => h.elim⟩
theorem HasN.put {P : Nat → Prop} {ps : List PairT} (h : HasN P ps) {x : Nat} (hx : x < 65536) : HasN (fun y => P y ∨ y = x) (ins ⟨keyN x,valN x⟩ ps) := by
 refine ⟨ris_ins h.ris _,fun q => ?_,fun y hy => hy.elim (h.lt y) (fun e => e ▸ hx)⟩
 rw [mem_ins_iff]
 constructor
 ·rintro (rfl | ⟨h1,h2⟩)
  ·exact ⟨x,.inr rfl,rfl⟩
  ·obtain ⟨y,hy,rfl⟩ := (h.mem q).1 h1
   exact ⟨y,.inl hy,rfl⟩
 ·rintro ⟨y,hy,rfl⟩
  rcases Decidable.em (y = x) with rfl | hne
  ·exact .inl rfl
  ·refine .inr ⟨(h.mem _).2 ⟨y,hy.resolve_right hne,rfl⟩,fun e => hne ?_⟩
   exact (keyN_eq (h.lt y (hy.resolve_right hne)) hx).1 e
theorem HasN.iff {P Q : Nat → Prop} {ps : List PairT} (h : HasN P ps) (e : ∀ x,P x ↔ Q x) : HasN Q ps :=
 ⟨h.ris,fun q => (h.mem q).trans ⟨fun ⟨x,hx,e1⟩ => ⟨x,(e x).1 hx,e1⟩,fun ⟨x,hx,e1⟩ => ⟨x,(e x).2 hx,e1⟩⟩,fun x hx => h.lt x ((e x).2 hx)⟩
theorem HasN.eq {P : Nat → Prop} {a b : List PairT} (ha : HasN P a) (hb : HasN P b) : a = b := ris_ext ha.ris hb.ris fun q => (ha.mem q).trans (hb.mem q).symm
def firstN (l : List Nat) (f : Nat → Nat) (i x : Nat) : Prop := ∃ j,j < i ∧ l[f j]? = some x
theorem firstN_more {l : List Nat} {f : Nat → Nat} {i x : Nat} (h : l[f i]? = some x) (y : Nat) : (firstN l f i y ∨ y = x) ↔ firstN l f (i + 1) y := by
 constructor
 ·rintro (⟨j,h1,h2⟩ | rfl)
  ·exact ⟨j,by omega,h2⟩
  ·exact ⟨i,by omega,h⟩
 ·rintro ⟨j,h1,h2⟩
  rcases Nat.lt_or_ge j i with h3 | h3
  ·exact .inl ⟨j,h3,h2⟩
  ·obtain rfl : j = i := by omega
   rw [h2] at h
   exact .inr (Option.some.inj h)
def backT (n k i : Nat) : Nat := n - 1 - (i + k) % n
theorem backT_lt {n k i : Nat} (hn : 0 < n) : backT n k i < n := by unfold backT;have := Nat.mod_lt (i + k) hn;omega
theorem firstN_back {l : List Nat} {k : Nat} (hk : k < l.length) (x : Nat) : firstN l (fun i => i) l.length x ↔ firstN l (backT l.length k) l.length x := by
 have hn : 0 < l.length := by omega
 constructor
 ·rintro ⟨j,h1,h2⟩
  refine ⟨(l.length - 1 - j + (l.length - k)) % l.length,Nat.mod_lt _ hn,?_⟩
  have e : backT l.length k ((l.length - 1 - j + (l.length - k)) % l.length) = j := by
   unfold backT
   rw [Nat.mod_add_mod,show l.length - 1 - j + (l.length - k) + k = (l.length - 1 - j) + l.length by omega,Nat.add_mod_right,Nat.mod_eq_of_lt (by omega)]
   omega
  rw [e];exact h2
 ·rintro ⟨j,h1,h2⟩
  exact ⟨_,backT_lt hn,h2⟩
end Go.Proofs.YtlgciddnpinpbaaGreatDoor
