/- Texts of this proof, packed. -/
import Derived.Test.YtlgciddnpinpbaaGreatDoorPkBase4
import Derived.Test.YtlgciddnpinpbaaGreatDoorPqA
import Derived.Test.YtlgciddnpinpbaaGreatDoorPqB
import Derived.Test.YtlgciddnpinpbaaGreatDoorPqD
import Derived.Test.YtlgciddnpinpbaaGreatDoorPqI
import Derived.Test.YtlgciddnpinpbaaGreatDoorPqO
import Derived.Shelf.Abstract
set_option linter.unusedSimpArgs false
set_option linter.unusedVariables false
namespace Go.Proofs.YtlgciddnpinpbaaGreatDoor
open Go.RowKit
structure Root (s : TX) (r : Nat) (hs : List Nat) (ps : List PairT) : Prop where
 is : (r = 0 ∧ hs = [] ∧ ps = []) ∨ ∃ d sz,1 ≤ sz ∧ Tree s d sz r hs ps
theorem Root.ris {s : TX} {r : Nat} {hs : List Nat} {ps : List PairT} (R : Root s r hs ps) : Ris ps := by
 rcases R.is with ⟨_,_,rfl⟩ | ⟨d,sz,_,T⟩
 ·exact List.Pairwise.nil
 ·exact T.ris
theorem Root.held {s : TX} {r : Nat} {hs : List Nat} {ps : List PairT} (R : Root s r hs ps) : Held s hs := by
 rcases R.is with ⟨_,rfl,_⟩ | ⟨d,sz,_,T⟩
 ·exact Held.nil s
 ·exact T.held
theorem Root.good {s : TX} {r : Nat} {hs : List Nat} {ps : List PairT} (R : Root s r hs ps) : ∀ p ∈ ps,PairOk p := by
 rcases R.is with ⟨_,_,rfl⟩ | ⟨d,sz,_,T⟩
 ·intro p hp;cases hp
 ·exact T.lies.good
theorem Root.lt {s : TX} {r : Nat} {hs : List Nat} {ps : List PairT} (R : Root s r hs ps) (hn : s.n ≤ 1900) : r < 1900 := by
 rcases R.is with ⟨rfl,_,_⟩ | ⟨d,sz,_,T⟩
 ·omega
 ·have := (T.held.taken r T.lies.mem).2.1;omega
theorem Tree.two {s : TX} {d sz h : Nat} {hs : List Nat} {ps : List PairT} (T : Tree s d sz h hs ps) : 2 ≤ h ∧ h < s.n := ⟨(T.held.taken h T.lies.mem).1,(T.held.taken h T.lies.mem).2.1⟩
theorem Held.len {s : TX} {hs : List Nat} (h : Held s hs) : hs.length ≤ s.n := by
 have := count_turn (p := fun _ => true) (n := s.n) hs (fun k => !decide (k ∈ hs)) h.nodup (fun k hk => ⟨(h.taken k hk).2.1,rfl⟩) (fun k _ => by simp)
 simp only [List.countP_true,List.length_range] at this
 omega
theorem Tree.deep {s : TX} {d sz h : Nat} {hs : List Nat} {ps : List PairT} (T : Tree s d sz h hs ps) (hn : s.n ≤ 1900) : d ≤ 6 := T.lies.depth6 (by have := T.held.len;omega)
theorem Root.frame {s s' : TX} {r : Nat} {hs : List Nat} {ps : List PairT} (R : Root s r hs ps) (hv : ∀ x ∈ hs,s'.v x = s.v x) (hh : Held s' hs) : Root s' r hs ps := by
 rcases R.is with h | ⟨d,sz,h1,T⟩
 ·exact ⟨.inl h⟩
 ·exact ⟨.inr ⟨d,sz,h1,T.lies.frame d hv,hh,T.ris⟩⟩
theorem root_first {s s1 s' : TX} {c i : Nat} {p : PairT} (h0 : s.Ok c) (hp : PairOk p) (h2 : 2 ≤ i) (hi : i < s.n) (hf : hasB (s.v 1) i = false) (k1 : s.To s1 c (updV s.V 1 (turnB (s.v 1) i))) (k2 : s1.To s' c (updV s1.V i (encLeaf [p]))) :
  Root s' i [i] (ins p []) ∧ Moves s s' c [] [i] ([1] ++ [i]) := by
 have m1 := Moves.take h0 h2 hi hf k1
 have hh := m1.held (Held.nil s)
 obtain ⟨m2,hv⟩ := Moves.write hh (List.mem_singleton_self i) k2
 refine ⟨⟨.inr ⟨0,1,Nat.le_refl 1,⟨rfl,?_,rfl,by omega,fun q hq => ?_⟩,m2.held hh,?_⟩⟩,m1.trans m2 fun _ h => .inr h⟩
 ·simpa [ins] using hv
 ·have : q = p := by simpa [ins] using hq
  subst this;exact hp
 ·simp [Ris,ins]
theorem root_split {s s1 s2 s' : TX} {c d sz r i h2 : Nat} {hs ws : List Nat} {ps' : List PairT} {c1 c2 : Sub} {k : List UInt8} (hr : Ris ps') (hh0 : Held s hs) (hput : PutTo s1.v d sz r ps' (some (k,h2)) [c1,c2]) (m : Moves s s1 c hs (c1.hs ++ c2.hs) ws) (h2i : 2 ≤ i) (hi : i < s1.n) (hf : hasB (s1.v 1) i = false)
  (k1 : s1.To s2 c (updV s1.V 1 (turnB (s1.v 1) i))) (k2 : s2.To s' c (updV s2.V i (encInner [k] [r,h2]))) :
  Root s' i (i :: (c1.hs ++ c2.hs)) ps' ∧ Moves s s' c hs (i :: (c1.hs ++ c2.hs)) (ws ++ [1] ++ [i]) := by
 obtain ⟨g1,g2,g3,g4,g5,g6,g7,g8,g9,g10⟩ := hput
 have hh := m.held hh0
 have m1 := Moves.take m.ok h2i hi hf k1
 have hh1 : Held s1 ((c1.hs ++ c2.hs) ++ []) := by rw [List.append_nil];exact hh
 have m1b : Moves s1 s2 c (c1.hs ++ c2.hs) (i :: (c1.hs ++ c2.hs)) [1] := (m1.beside hh1).perm (by rw [List.append_nil]) List.perm_append_comm fun _ h => h
 have hh2 := m1b.held hh
 obtain ⟨m2,hv⟩ := Moves.write hh2 (List.mem_cons_self ..) k2
 have hne : ∀ x ∈ c1.hs ++ c2.hs,s'.v x = s1.v x := fun x hx => by
  have ht := hh.taken x hx
  have hxi : x ≠ i := fun e => by subst e;rw [hf] at ht;exact absurd ht.2.2 (by simp)
  rw [To.v_ne k2 (by rw [m1.n];exact ht.2.1) hxi]
  exact To.v_ne k1 ht.2.1 (by omega)
 refine ⟨⟨.inr ⟨d + 1,1,Nat.le_refl 1,⟨[k],[c1,c2],?_,rfl,by omega,?_,?_,?_,?_,?_⟩,m2.held hh2,hr⟩⟩,(m.trans m1b fun _ h => .inr (List.mem_cons_of_mem _ h)).trans m2 fun _ h => .inr h⟩
 ·show s'.v i = encInner [k] [c1.h,c2.h]
  rw [hv,g5,g6]
 ·intro z hz;rw [List.mem_singleton.1 hz];exact g8
 ·refine ⟨fun x hx k' hk' => ?_,fun q hq x hx => ?_,⟨c2.ns,rfl⟩⟩
  ·obtain rfl : k' = kn k := by simpa using hk'
   obtain ⟨q,hq,rfl⟩ := List.mem_map.1 hx;exact g9 q hq
  ·obtain rfl : q = c2.ns := by simpa using hq
   obtain ⟨q,hq,rfl⟩ := List.mem_map.1 hx;exact g10 q hq
 ·simp
 ·simp [g7]
 ·intro e he
  simp only [List.mem_cons,List.not_mem_nil,or_false] at he
  rcases he with rfl | rfl
  ·exact ⟨g1,g2.frame d fun x hx => hne x (List.mem_append_left _ hx)⟩
  ·exact ⟨g3,g4.frame d fun x hx => hne x (List.mem_append_right _ hx)⟩
theorem root_same {s s1 : TX} {c d sz r : Nat} {hs ws : List Nat} {ps' : List PairT} {c' : Sub} (h1 : 1 ≤ sz) (hr : Ris ps') (hh0 : Held s hs) (hput : PutTo s1.v d sz r ps' none [c']) (m : Moves s s1 c hs c'.hs ws) : Root s1 r c'.hs ps' := by
 obtain ⟨g1,g2,g3,g4⟩ := hput
 subst g4
 rw [← g2]
 exact ⟨.inr ⟨d,c'.s,by omega,g3,m.held hh0,hr⟩⟩
end Go.Proofs.YtlgciddnpinpbaaGreatDoor
namespace Go.Proofs.YtlgciddnpinpbaaGreatDoor
open Go.RowKit
set_option maxRecDepth 40000
inductive FoldR {α σ : Type} (R : α → σ → σ × Bool → Prop) : List α → σ → σ × Bool → Prop
 | nil (x : σ) : FoldR R [] x (x,true)
 | go {c : α} {cs : List α} {x x' : σ} {r : σ × Bool} (h : R c x (x',true)) (k : FoldR R cs x' r) : FoldR R (c :: cs) x r
 | stop {c : α} {cs : List α} {x x' : σ} (h : R c x (x',false)) : FoldR R (c :: cs) x (x',false)
theorem FoldR.snoc {α σ : Type} {R : α → σ → σ × Bool → Prop} : ∀ {cs : List α} {x x' : σ} {c : α} {r : σ × Bool},FoldR R cs x (x',true) → R c x' r → FoldR R (cs ++ [c]) x r
 | [],x,x',c,(x2,b),h,k => by
  cases h
  cases b with
  | true => exact .go k (.nil _)
  | false => exact .stop k
 | d :: cs,x,x',c,r,h,k => by
  cases h with
  | go h1 h2 => exact .go h1 (FoldR.snoc h2 k)
theorem FoldR.stopped {α σ : Type} {R : α → σ → σ × Bool → Prop} : ∀ {cs ds : List α} {x x' : σ},FoldR R cs x (x',false) → FoldR R (cs ++ ds) x (x',false)
 | [],ds,x,x',h => by cases h
 | c :: cs,ds,x,x',h => by
  cases h with
  | go h1 h2 => exact .go h1 h2.stopped
  | stop h1 => exact .stop h1
def WalkR {σ : Type} (st : σ → Nat → List PairT → Nat → σ × Bool → Prop) (frm : Nat) (v : Nat → List UInt8) : Nat → Nat → Nat → List Nat → List PairT → σ → σ × Bool → Prop
 | 0,deep,h,hs,ps,x,r => st x h ps deep r
 | d + 1,deep,h,hs,ps,x,r => ∃ ks1 ks2 a b,Inner v d (ks1 ++ ks2) (a ++ b) ∧ a.length = ks1.length ∧ Way ks1 ks2 frm ∧ hs = h :: homesOf (a ++ b) ∧ ps = pairsOf (a ++ b) ∧
   ((∃ x1,st x h [] deep (x1,false) ∧ r = (x1,false)) ∨ (∃ x1,st x h [] deep (x1,true) ∧ FoldR (fun (c : Sub) x r => WalkR st frm v d (deep + 1) c.h c.hs c.ps x r) b x1 r))
def SeeOk {σ : Type} (fn : Nat) (cb : Array Value) (A : σ → Asrt) (st : σ → Nat → List PairT → Nat → σ × Bool → Prop) (V : σ → Prop) : Prop :=
 ∀ (x : σ) (g home : Nat) (lf : Bool) (pp : Option Addr) (n cp : Nat) (b c : Value) (ps : List PairT) (deep : Nat) (z : Int) (W : World),V x → Bundle W [A x,nodeA g home lf (.slice pp n cp) b c,rdA pp (pairV ps)] → ps.length = n → n ≤ 6 → (∀ p ∈ ps,PairOk p) → deep ≤ 41 → (deep : Int) = z →
  Calls Tryz.prog fn (#[.pointer (some ⟨g,0,none⟩),.int .i64 z] ++ cb) W fun e w' => ∃ r,st x home ps deep r ∧ e = .returned (.bool r.2) ∧
   BunTo W (ownL [A x,nodeA g home lf (.slice pp n cp) b c,rdA pp (pairV ps)]) (rdL [A x,nodeA g home lf (.slice pp n cp) b c,rdA pp (pairV ps)]) [A r.1,nodeA g home lf (.slice pp n cp) b c,rdA pp (pairV ps)] w'
theorem rdA_nil {p : Option Addr} {W : World} : (rdA p []).prop W := .inl rfl
theorem St.addRd {M0 R0 : Nat → Prop} {w0 W : World} {L : List Asrt} (H : St M0 R0 w0 W L) : St M0 R0 w0 W (L ++ [rdA none []]) :=
 H.add (Fix.refl _ _) (rdA none []) rdA_nil (fun k hk => hk.elim) (fun k hk => absurd rfl hk.1)
set_option maxHeartbeats 4000000 in
theorem walk_leaf {σ : Type} {fn : Nat} {cb : Array Value} {A : σ → Asrt} {st : σ → Nat → List PairT → Nat → σ × Bool → Prop} {V : σ → Prop} (hS : SeeOk fn cb A st V) (eg : ∀ args w,(callFunc fn args).run Tryz.prog w = .ok (.enter fn args) w) {w : World} {s : TX} {c : Nat} {x : σ} (hb : Bundle w (s.L ++ [A x])) (hVx : V x) (h : s.Ok c)
  (home : Nat) (hn : home < s.n) (ps : List PairT) (hv : s.v home = encLeaf ps) (h1 : 1 ≤ ps.length) (h6 : ps.length ≤ 6) (hp : ∀ p ∈ ps,PairOk p) (frm : List UInt8) (deep : Nat) (hd : deep ≤ 40) (z1 z2 : Int) (hz1 : (home : Int) = z1) (hz2 : (deep : Int) = z2) :
  Calls Tryz.prog 118 #[.pointer (some ⟨s.g,0,none⟩),.int .i64 z1,arrV frm,.int .i64 z2,.func (.func fn) #[] cb] w fun e w' => ∃ r,st x home ps deep r ∧ e = .returned (.tuple #[.bool r.2,.nilIface]) ∧
   BunTo w (ownL (s.L ++ [A x])) (rdL (s.L ++ [A x])) (s.L ++ [A r.1]) w' := by
 subst hz1 hz2
 have H := hb.open_
 obtain ⟨O,hO⟩ : ∃ O,ownL (s.L ++ [A x]) = O := ⟨_,rfl⟩
 obtain ⟨R0,hR0⟩ : ∃ R,rdL (s.L ++ [A x]) = R := ⟨_,rfl⟩
 rw [hO,hR0] at H ⊢
 have HO := Lib.hid h
 have HVX := Lib.hid hVx
 have HN := Lib.hid hn
 have HV := Lib.hid hv
 have HL1 := Lib.hid h1
 have HL6 := Lib.hid h6
 have HP := Lib.hid hp
 have HS := Lib.hid hS
 have HD := Lib.hid hd
 obtain ⟨n,hnl⟩ : ∃ n,ps.length = n := ⟨_,rfl⟩
 have HNL := Lib.hid hnl
 obtain ⟨PP,hPP⟩ : ∃ PP : Ending → World → Prop,(fun e w' => ∃ r,st x home ps deep r ∧ e = .returned (.tuple #[.bool r.2,.nilIface]) ∧ BunTo w O R0 (s.L ++ [A r.1]) w') = PP := ⟨_,rfl⟩
 have HPP := Lib.hid hPP
 rw [hPP]
 have hd2 : ¬ (40 < (deep : Int)) := by omega
 have hd3 : 0 ≤ (deep : Int) := by omega
 clear hb h hn hv h1 h6 hp hS hd hnl hO hR0 hVx hPP
 have tok1 : True := trivial
 go_enter Tryz.func118,Tryz.ntmps118
 go_upto_region 6 with (first
  | (have _t := tok1;clear _t;refine wpList_box_st H rfl 67 _ rfl (arrV _) rfl ?_;clear H tok1;intro W gf H;(try simp only [cells_arrV,List.nil_append,List.cons_append,List.set_cons_zero,List.set_cons_succ] at H))
  | (go_at_call 124;go_loud ((refine (load_leaf (s := s) (H.take 7).bundle HO.out _ home rfl HN.out ps HV.out HL1.out HL6.out HP.out).mono ?_);rintro e W ⟨g,pp,cp,rfl,hto⟩;replace H := BunTo.front2 (R := [A x,blk gf (.cells (byteV frm).toArray 67 (0,0))]) hto H;clear hto;rw [HNL.out] at H)))
 replace H : St O R0 w W (s.L ++ [A x,blk gf (.cells (byteV frm).toArray 67 (0,0)),nodeA g home true (.slice pp n cp) (.slice none 0 0) (.slice none 0 0),rdA pp (pairV ps)]) := H.rdOf 10 rfl
 replace H : St O R0 w W (s.L ++ [blk gf (.cells (byteV frm).toArray 67 (0,0)),nodeA g home true (.slice pp n cp) (.slice none 0 0) (.slice none 0 0),rdA pp (pairV ps),A x]) := H.pull 7 rfl
 replace H : St O R0 w W (s.L ++ [blk gf (.cells (byteV frm).toArray 67 (0,0)),rdA pp (pairV ps),A x,nodeA g home true (.slice pp n cp) (.slice none 0 0) (.slice none 0 0)]) := H.pull 8 rfl
 replace H : St O R0 w W ((s.L ++ [blk gf (.cells (byteV frm).toArray 67 (0,0))]) ++ [A x,nodeA g home true (.slice pp n cp) (.slice none 0 0) (.slice none 0 0),rdA pp (pairV ps)]) := H.pull 8 rfl
 go_wp2_with (first
  | (go_at_fn fn;go_loud ((refine (HS.out x g home true pp n cp _ _ ps deep _ _ HVX.out H.lastB HNL.out (by rw [← HNL.out];exact HL6.out) HP.out (by have := HD.out;omega) rfl).mono ?_);rintro e W ⟨⟨x1,b1⟩,hst,rfl,hto⟩;have HST := Lib.hid hst;clear hst;replace H := BunTo.last hto H;clear hto;replace H : St O R0 w W (s.L ++ [A x1,nodeA g home true (.slice pp n cp) (.slice none 0 0) (.slice none 0 0),rdA pp (pairV ps),blk gf (.cells (byteV frm).toArray 67 (0,0))]) := H.pull 7 rfl;have hf := row_cell (H.at 8 rfl) (nRow1 _ _ _ _ _))))
 all_goals (rw [← HPP.out];refine ⟨(x1,b1),HST.out,?_,St.bunTo (H.take 8)⟩;cases b1 <;> first | rfl | (rename_i hb;exact absurd hb (by simp)) | (rename_i hb _;exact absurd hb (by simp)) | (rename_i hb _ _;exact absurd hb (by simp)) | (rename_i hb _ _ _;exact absurd hb (by simp)))
def WalkOk {σ : Type} (fn : Nat) (cb : Array Value) (A : σ → Asrt) (st : σ → Nat → List PairT → Nat → σ × Bool → Prop) (V : σ → Prop) (frm : List UInt8) (d : Nat) : Prop :=
 ∀ (w : World) (s : TX) (c sz h deep : Nat) (hs : List Nat) (ps : List PairT) (x : σ),Bundle w (s.L ++ [A x]) → V x → s.Ok c → Lies s.v d sz h hs ps → (∀ k ∈ hs,k < s.n) → 1 ≤ sz → deep + d ≤ 40 → ∀ z1 z2 : Int,(h : Int) = z1 → (deep : Int) = z2 →
  Calls Tryz.prog 118 #[.pointer (some ⟨s.g,0,none⟩),.int .i64 z1,arrV frm,.int .i64 z2,.func (.func fn) #[] cb] w fun e w' => ∃ r,WalkR st (kn frm) s.v d deep h hs ps x r ∧ e = .returned (.tuple #[.bool r.2,.nilIface]) ∧ (r.2 = true → V r.1) ∧
   BunTo w (ownL (s.L ++ [A x])) (rdL (s.L ++ [A x])) (s.L ++ [A r.1]) w'
theorem walk_ok0 {σ : Type} {fn : Nat} {cb : Array Value} {A : σ → Asrt} {st : σ → Nat → List PairT → Nat → σ × Bool → Prop} {V : σ → Prop} (hS : SeeOk fn cb A st V) (eg : ∀ args w,(callFunc fn args).run Tryz.prog w = .ok (.enter fn args) w) (hV : ∀ x h ps deep x',V x → st x h ps deep (x',true) → V x') (frm : List UInt8) : WalkOk fn cb A st V frm 0 := by
 intro w s c sz h deep hs ps x hb hVx h0 hl hlt h1 hd z1 z2 hz1 hz2
 obtain ⟨e,hv,hsz,h6,hp⟩ := hl
 refine (walk_leaf hS eg hb hVx h0 h (hlt h (by rw [e];exact List.mem_singleton_self _)) ps hv (by omega) (by omega) hp frm deep (by omega) z1 z2 hz1 hz2).mono ?_
 rintro e2 w' ⟨⟨x',b⟩,hst,rfl,hto⟩
 exact ⟨_,hst,rfl,fun h2 => hV _ _ _ _ _ hVx (by cases h2;exact hst),hto⟩
end Go.Proofs.YtlgciddnpinpbaaGreatDoor
