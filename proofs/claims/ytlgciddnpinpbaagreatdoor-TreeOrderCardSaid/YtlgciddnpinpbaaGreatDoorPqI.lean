/- Texts of this proof, packed. -/
import Derived.Test.YtlgciddnpinpbaaGreatDoorPkBase4
import Derived.Test.YtlgciddnpinpbaaGreatDoorPqA
import Derived.Test.YtlgciddnpinpbaaGreatDoorPqB
set_option linter.unusedSimpArgs false
set_option linter.unusedVariables false
namespace Go.Proofs.YtlgciddnpinpbaaGreatDoor
open Go.RowKit
structure Moves (s s' : TX) (c : Nat) (hs hs' ws : List Nat) : Prop where
 ok : s'.Ok c
 t : s'.t = s.t
 g : s'.g = s.g
 gl : s'.x.gl = s.x.gl
 keep : ∀ k,k < s.n → k ≠ 1 → k ∉ hs → k ∉ hs' → s'.V k = s.V k
 bits : ∀ k,2 ≤ k → k < s.n → hasB (s'.v 1) k = if k ∈ hs' then true else if k ∈ hs then false else hasB (s.v 1) k
 fresh : ∀ k ∈ hs',k ∈ hs ∨ 2 ≤ k ∧ k < s.n ∧ hasB (s.v 1) k = false
 nodup : hs'.Nodup
 left : leftOf (s'.v 1) s.n + hs'.length = leftOf (s.v 1) s.n + hs.length
 wrote : ∀ k,k < s.n → (s'.V k).2 = true → (s.V k).2 = true ∨ k ∈ ws
theorem Moves.n {s s' : TX} {c : Nat} {hs hs' ws : List Nat} (h : Moves s s' c hs hs' ws) : s'.n = s.n := by unfold TX.n;rw [h.t]
theorem Moves.v {s s' : TX} {c : Nat} {hs hs' ws : List Nat} (h : Moves s s' c hs hs' ws) {k : Nat} (hk : k < s.n) (h1 : k ≠ 1) (h2 : k ∉ hs) (h3 : k ∉ hs') : s'.v k = s.v k := congrArg Prod.fst (h.keep k hk h1 h2 h3)
structure Held (s : TX) (hs : List Nat) : Prop where
 nodup : hs.Nodup
 taken : ∀ k ∈ hs,2 ≤ k ∧ k < s.n ∧ hasB (s.v 1) k = true
theorem Held.perm {s : TX} {hs hs2 : List Nat} (h : Held s hs) (p : hs.Perm hs2) : Held s hs2 := ⟨p.nodup_iff.1 h.nodup,fun k hk => h.taken k (p.mem_iff.2 hk)⟩
theorem Held.nil (s : TX) : Held s [] := ⟨List.nodup_nil,fun k hk => (List.not_mem_nil hk).elim⟩
theorem Held.left {s : TX} {a b : List Nat} (h : Held s (a ++ b)) : Held s a := ⟨(List.nodup_append.1 h.nodup).1,fun k hk => h.taken k (List.mem_append_left _ hk)⟩
theorem Held.right {s : TX} {a b : List Nat} (h : Held s (a ++ b)) : Held s b := ⟨(List.nodup_append.1 h.nodup).2.1,fun k hk => h.taken k (List.mem_append_right _ hk)⟩
theorem Held.apart {s : TX} {a b : List Nat} (h : Held s (a ++ b)) : ∀ k ∈ a,k ∉ b := fun k h1 h2 => (List.nodup_append.1 h.nodup).2.2 k h1 k h2 rfl
theorem Moves.held {s s' : TX} {c : Nat} {hs hs' ws : List Nat} (h : Moves s s' c hs hs' ws) (hh : Held s hs) : Held s' hs' :=
 ⟨h.nodup,fun k hk => by
  have h2 : 2 ≤ k ∧ k < s.n := by
   rcases h.fresh k hk with h1 | h1
   ·exact ⟨(hh.taken k h1).1,(hh.taken k h1).2.1⟩
   ·exact ⟨h1.1,h1.2.1⟩
  exact ⟨h2.1,by rw [h.n];exact h2.2,by rw [h.bits k h2.1 h2.2,if_pos hk]⟩⟩
theorem Moves.perm {s s' : TX} {c : Nat} {hs hs' hs2 hs2' ws ws2 : List Nat} (h : Moves s s' c hs hs' ws) (p : hs.Perm hs2) (p' : hs'.Perm hs2') (hw : ∀ k ∈ ws,k ∈ ws2) : Moves s s' c hs2 hs2' ws2 where
 ok := h.ok
 t := h.t
 g := h.g
 gl := h.gl
 keep := fun k hk h1 h2 h3 => h.keep k hk h1 (fun h4 => h2 (p.mem_iff.1 h4)) (fun h4 => h3 (p'.mem_iff.1 h4))
 bits := fun k h1 h2 => by rw [h.bits k h1 h2];simp only [p.mem_iff,p'.mem_iff]
 fresh := fun k hk => by have := h.fresh k (p'.mem_iff.2 hk);simpa only [p.mem_iff] using this
 nodup := p'.nodup_iff.1 h.nodup
 left := by rw [← p.length_eq,← p'.length_eq];exact h.left
 wrote := fun k hk h1 => (h.wrote k hk h1).imp id (hw k)
theorem Moves.beside {s s' : TX} {c : Nat} {hs hs' ws r : List Nat} (h : Moves s s' c hs hs' ws) (hr : Held s (r ++ hs)) : Moves s s' c (r ++ hs) (r ++ hs') ws := by
 have hap := hr.apart
 have hrr := hr.left
 have hn : ∀ k ∈ r,k ∉ hs' := fun k hk hk' => by
  rcases h.fresh k hk' with h1 | h1
  ·exact hap k hk h1
  ·rw [(hrr.taken k hk).2.2] at h1;exact absurd h1.2.2 (by simp)
 refine ⟨h.ok,h.t,h.g,h.gl,fun k hk h1 h2 h3 => h.keep k hk h1 (fun h4 => h2 (List.mem_append_right _ h4)) (fun h4 => h3 (List.mem_append_right _ h4)),fun k h1 h2 => ?_,fun k hk => ?_,?_,?_,h.wrote⟩
 ·rw [h.bits k h1 h2]
  by_cases hk : k ∈ r
  ·rw [if_neg (hn k hk),if_neg (hap k hk),if_pos (List.mem_append_left _ hk)];exact (hrr.taken k hk).2.2
  ·simp only [List.mem_append,hk,false_or]
 ·rcases List.mem_append.1 hk with hk | hk
  ·exact .inl (List.mem_append_left _ hk)
  ·exact (h.fresh k hk).imp (fun h1 => List.mem_append_right _ h1) id
 ·exact List.nodup_append.2 ⟨hrr.nodup,h.nodup,fun a ha b hb e => hn a ha (e ▸ hb)⟩
 ·have := h.left;simp only [List.length_append];omega
theorem Moves.stay {s s' : TX} {c : Nat} {hs hs' ws r : List Nat} (h : Moves s s' c hs hs' ws) (hr : Held s (r ++ hs)) : Held s' (r ++ hs') := (h.beside hr).held hr
theorem Moves.trans {s s1 s2 : TX} {c : Nat} {hs hs1 hs2 ws1 ws2 : List Nat} (h : Moves s s1 c hs hs1 ws1) (k : Moves s1 s2 c hs1 hs2 ws2) (hm : ∀ i ∈ hs1,i ∈ hs ∨ i ∈ hs2) : Moves s s2 c hs hs2 (ws1 ++ ws2) := by
 have hn := h.n
 refine ⟨k.ok,k.t.trans h.t,k.g.trans h.g,k.gl.trans h.gl,fun i hi h1 h2 h3 => ?_,fun i h1 h2 => ?_,fun i hi => ?_,k.nodup,?_,fun i hi h1 => ?_⟩
 ·have h4 : i ∉ hs1 := fun h5 => (hm i h5).elim h2 h3
  rw [k.keep i (by rw [hn];exact hi) h1 h4 h3,h.keep i hi h1 h2 h4]
 ·rw [k.bits i h1 (by rw [hn];exact h2),h.bits i h1 h2]
  by_cases h3 : i ∈ hs2
  ·rw [if_pos h3,if_pos h3]
  ·rw [if_neg h3,if_neg h3]
   by_cases h4 : i ∈ hs1
   ·rw [if_pos h4,if_pos ((hm i h4).resolve_right h3)]
   ·rw [if_neg h4,if_neg h4]
 ·rcases k.fresh i hi with h1 | ⟨h1,h2,h3⟩
  ·exact h.fresh i h1
  ·rw [hn] at h2
   rw [h.bits i h1 h2] at h3
   by_cases h4 : i ∈ hs
   ·exact .inl h4
   ·by_cases h5 : i ∈ hs1
    ·rw [if_pos h5] at h3;cases h3
    ·rw [if_neg h5,if_neg h4] at h3;exact .inr ⟨h1,h2,h3⟩
 ·have e1 := h.left
  have e2 := k.left
  rw [hn] at e2
  omega
 ·rcases k.wrote i (by rw [hn];exact hi) h1 with h2 | h2
  ·exact (h.wrote i hi h2).imp id (fun h3 => List.mem_append_left _ h3)
  ·exact .inr (List.mem_append_right _ h2)
theorem Moves.refl {s : TX} {c : Nat} (h : s.Ok c) (hs : List Nat) (hh : Held s hs) : Moves s s c hs hs [] :=
 ⟨h,rfl,rfl,rfl,fun _ _ _ _ _ => rfl,fun k h1 h2 => by
  by_cases hk : k ∈ hs
  ·rw [if_pos hk];exact (hh.taken k hk).2.2
  ·rw [if_neg hk,if_neg hk],fun k hk => .inl hk,hh.nodup,rfl,fun _ _ h => .inl h⟩
theorem Moves.write {s s' : TX} {c h : Nat} {l : List UInt8} {hs : List Nat} (hh : Held s hs) (hm : h ∈ hs) (k : s.To s' c (updV s.V h l)) : Moves s s' c hs hs [h] ∧ s'.v h = l := by
 have h2 := hh.taken h hm
 have h1 : s'.v 1 = s.v 1 := by
  by_cases e : 1 < s.n
  ·rw [k.v 1 e];unfold updV;rw [if_neg (by omega)];rfl
  ·omega
 refine ⟨⟨k.ok,k.t,k.g,k.gl,fun i hi h1 h3 h4 => ?_,fun i hi h3 => ?_,fun i hi => .inl hi,hh.nodup,by rw [h1],fun i hi h3 => ?_⟩,?_⟩
 ·rw [k.V i hi];unfold updV;rw [if_neg (fun (e : i = h) => h3 (by rw [e];exact hm))]
 ·rw [h1]
  by_cases hk : i ∈ hs
  ·rw [if_pos hk];exact (hh.taken i hk).2.2
  ·rw [if_neg hk,if_neg hk]
 ·rw [k.V i hi] at h3
  unfold updV at h3
  by_cases e : i = h
  ·subst e;exact .inr (List.mem_singleton_self _)
  ·rw [if_neg e] at h3;exact .inl h3
 ·rw [k.v h h2.2.1];unfold updV;rw [if_pos rfl]
theorem hasB_low {l : List UInt8} {k : Nat} (h : k < 2) : hasB l k = true := by simp [hasB,h]
theorem leftOf_turn {l : List UInt8} {n i : Nat} (hl : l.length = 248) (hn : n ≤ 1900) (h2 : 2 ≤ i) (hi : i < n) : (hasB l i = false → leftOf (turnB l i) n + 1 = leftOf l n) ∧ (hasB l i = true → leftOf (turnB l i) n = leftOf l n + 1) := by
 rw [leftOf_count,leftOf_count]
 have hb : ∀ k,k < n → hasB (turnB l i) k = if k = i then !hasB l k else hasB l k := fun k hk => by
  rcases Nat.lt_or_ge k 2 with h | h
  ·rw [hasB_low h,hasB_low h,if_neg (by omega)]
  ·exact hasB_turn hl (by omega) h
 refine ⟨fun h => ?_,fun h => ?_⟩
 ·exact count_one (h := i) (by simp [h]) n hi fun k hk => by
   rw [hb k hk]
   by_cases e : k = i
   ·subst e;simp [h]
   ·simp [e]
 ·exact (count_one (h := i) (r := fun k => !hasB (turnB l i) k) (by rw [hb i hi,if_pos rfl,h];rfl) n hi fun k hk => by
   rw [hb k hk]
   by_cases e : k = i
   ·subst e;simp [h]
   ·simp [e]).symm
theorem Moves.take {s s' : TX} {c i : Nat} (hc : s.Ok c) (h2 : 2 ≤ i) (hi : i < s.n) (hf : hasB (s.v 1) i = false) (k : s.To s' c (updV s.V 1 (turnB (s.v 1) i))) : Moves s s' c [] [i] [1] := by
 have hn := hc.nn
 have hl := hc.lens 1 (by omega)
 have h1 : s'.v 1 = turnB (s.v 1) i := by rw [k.v 1 (by omega)];unfold updV;rw [if_pos rfl]
 refine ⟨k.ok,k.t,k.g,k.gl,fun j hj h1 _ _ => ?_,fun j hj hjn => ?_,fun j hj => ?_,List.pairwise_singleton _ _,?_,fun j hj h3 => ?_⟩
 ·rw [k.V j hj];unfold updV;rw [if_neg h1]
 ·rw [h1,hasB_turn hl (by omega) hj]
  by_cases e : j = i
  ·subst e;simp [hf]
  ·simp [e]
 ·obtain rfl := List.mem_singleton.1 hj;exact .inr ⟨h2,hi,hf⟩
 ·rw [h1];exact (leftOf_turn hl hn.2 h2 hi).1 hf
 ·rw [k.V j hj] at h3
  unfold updV at h3
  by_cases e : j = 1
  ·exact .inr (by simp [e])
  ·rw [if_neg e] at h3;exact .inl h3
theorem Moves.free {s s' : TX} {c i : Nat} (hc : s.Ok c) (h2 : 2 ≤ i) (hi : i < s.n) (hf : hasB (s.v 1) i = true) (k : s.To s' c (updV s.V 1 (turnB (s.v 1) i))) : Moves s s' c [i] [] [1] := by
 have hn := hc.nn
 have hl := hc.lens 1 (by omega)
 have h1 : s'.v 1 = turnB (s.v 1) i := by rw [k.v 1 (by omega)];unfold updV;rw [if_pos rfl]
 refine ⟨k.ok,k.t,k.g,k.gl,fun j hj h1 _ _ => ?_,fun j hj hjn => ?_,fun j hj => (List.not_mem_nil hj).elim,List.nodup_nil,?_,fun j hj h3 => ?_⟩
 ·rw [k.V j hj];unfold updV;rw [if_neg h1]
 ·rw [h1,hasB_turn hl (by omega) hj]
  by_cases e : j = i
  ·subst e;simp [hf]
  ·simp [e]
 ·rw [h1];exact (leftOf_turn hl hn.2 h2 hi).2 hf
 ·rw [k.V j hj] at h3
  unfold updV at h3
  by_cases e : j = 1
  ·exact .inr (by simp [e])
  ·rw [if_neg e] at h3;exact .inl h3
theorem lowest {l : List UInt8} {n : Nat} (h : 0 < leftOf l n) : ∃ i,2 ≤ i ∧ i < n ∧ hasB l i = false ∧ ∀ j,2 ≤ j → j < i → hasB l j = true := by
 have hs := freeL_sorted l n
 rw [leftOf_free] at h
 match hf : freeL l n,h,hs with
 | i :: r,_,hs =>
  have hm : i ∈ freeL l n := by rw [hf];exact List.mem_cons_self ..
  have h1 := freeL_lt hm
  refine ⟨i,h1.1,h1.2.1,h1.2.2,fun j h2 h3 => ?_⟩
  rcases hb : hasB l j with _ | _
  ·have h4 : j ∈ freeL l n := freeL_mem (by omega) hb
   rw [hf] at h4
   rcases List.mem_cons.1 h4 with rfl | h4
   ·omega
   ·have := (List.pairwise_cons.1 hs).1 j h4;omega
  ·rfl
theorem none_left {l : List UInt8} {n : Nat} (h : leftOf l n = 0) : ∀ j,2 ≤ j → j < n → hasB l j = true := fun j h2 h3 => by
 rcases hb : hasB l j with _ | _
 ·have h4 : j ∈ freeL l n := freeL_mem h3 hb
  rw [leftOf_free,List.length_eq_zero_iff] at h
  rw [h] at h4;cases h4
 ·rfl
structure Tree (s : TX) (d sz h : Nat) (hs : List Nat) (ps : List PairT) : Prop where
 lies : Lies s.v d sz h hs ps
 held : Held s hs
 ris : Ris ps
end Go.Proofs.YtlgciddnpinpbaaGreatDoor
