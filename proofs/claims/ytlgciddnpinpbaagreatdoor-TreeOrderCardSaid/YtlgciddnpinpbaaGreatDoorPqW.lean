/- Texts of this proof, packed. -/
import Derived.Test.YtlgciddnpinpbaaGreatDoorPkBase4
import Derived.Test.YtlgciddnpinpbaaGreatDoorPqB
import Derived.Test.YtlgciddnpinpbaaGreatDoorPqE
import Derived.Test.YtlgciddnpinpbaaGreatDoorPqD
import Derived.Test.YtlgciddnpinpbaaGreatDoorPqI
import Derived.Test.YtlgciddnpinpbaaGreatDoorPqK
import Derived.Test.YtlgciddnpinpbaaGreatDoorPqQ
import Derived.Test.YtlgciddnpinpbaaGreatDoorPqV
set_option linter.unusedSimpArgs false
set_option linter.unusedVariables false
namespace Go.Proofs.YtlgciddnpinpbaaGreatDoor
open Go.RowKit
set_option maxRecDepth 40000
theorem size_val8 (v : List UInt8) (h : v.length = 8) : (Tryz.prog.info? 69).map (·.size) = some (byteV v).toArray.size := by
 have : (Tryz.prog.info? 69).map (·.size) = some 8 := by kernel_rfl
 rw [this];simp [h]
theorem foldl_layc {α : Type} (c : Nat) : ∀ (l : List α) (s : Nat) (base : List α),c + s + l.length ≤ base.length → (l.zipIdx s).foldl (fun (acc : Array α) p => acc.setIfInBounds (c + p.2) p.1) base.toArray = (base.take (c + s) ++ l ++ base.drop (c + s + l.length)).toArray
 | [],s,base,h => by simp
 | x :: l,s,base,h => by
  rw [List.zipIdx_cons,List.foldl_cons,List.setIfInBounds_toArray,foldl_layc c l (s + 1) (base.set (c + s) x) (by simp at h ⊢;omega)]
  congr 1
  simp at h
  have h1 : (base.set (c + s) x).take (c + (s + 1)) = base.take (c + s) ++ [x] := by
   rw [← Nat.add_assoc,List.take_add_one,List.getElem?_set_self (by omega),List.take_set_of_le (Nat.le_refl _)];rfl
  have h2 : (base.set (c + s) x).drop (c + (s + 1) + l.length) = base.drop (c + s + (l.length + 1)) := by
   rw [List.drop_set_of_lt (by omega)];congr 1;omega
  rw [h1,h2];simp
theorem pair_built (k v : List UInt8) (hk : k.length = 32) (hv : v.length = 8) (base : Array Value) (hb : base = (List.replicate 40 (Value.int .u8 0)).toArray) :
  List.foldl (fun cs x => cs.setIfInBounds (32 + x.snd) x.fst) (List.foldl (fun cs x => cs.setIfInBounds x.snd x.fst) base (byteV k).zipIdx) (byteV v).zipIdx = (byteV (PairT.b ⟨k,v⟩)).toArray := by
 subst hb
 have e1 := foldl_lay (byteV k) 0 (List.replicate 40 (Value.int .u8 0)) (by rw [byteV_length,hk,List.length_replicate];omega)
 rw [show List.foldl (fun cs x => cs.setIfInBounds x.snd x.fst) (List.replicate 40 (Value.int .u8 0)).toArray (byteV k).zipIdx = _ from e1]
 obtain ⟨B,hB⟩ : ∃ B,(List.replicate 40 (Value.int .u8 0)).take 0 ++ byteV k ++ (List.replicate 40 (Value.int .u8 0)).drop (0 + (byteV k).length) = B := ⟨_,rfl⟩
 have hl : B.length = 40 := by rw [← hB,byteV_length,hk];simp [hk]
 have ht : B.take 32 = byteV k := by
  rw [← hB,List.take_zero,List.nil_append,List.take_append_of_le_length (by rw [byteV_length,hk];omega),List.take_of_length_le (by rw [byteV_length,hk];omega)]
 rw [hB]
 refine (foldl_layc 32 (byteV v) 0 B (by rw [hl,byteV_length,hv];omega)).trans ?_
 rw [show B.drop (32 + 0 + (byteV v).length) = [] from List.drop_eq_nil_of_le (by rw [hl,byteV_length,hv];omega),Nat.add_zero,ht]
 simp [PairT.b,byteV]
theorem foldl_size (l : List (Value × Nat)) : ∀ base : Array Value,(List.foldl (fun (cs : Array Value) x => cs.setIfInBounds x.snd x.fst) base l).size = base.size := by
 induction l with
 | nil => intro base;rfl
 | cons x l ih => intro base;rw [List.foldl_cons,ih];simp
def PutPostT (s : TX) (c : Nat) (hs : List Nat) (ps' : List PairT) (w : World) (own rd : Nat → Prop) (e : Ending) (w' : World) : Prop :=
 (∃ (r' : Nat) (hs' : List Nat) (s' : TX) (ws : List Nat),e = .returned (.tuple #[.int .u32 (r' : Int),.int .i64 0]) ∧ Root s' r' hs' ps' ∧ r' ≠ 0 ∧ Moves s s' c hs hs' ws ∧ ws.length ≤ 23 ∧ BunTo w own rd (s'.L ++ [errA]) w') ∨
 (∃ (s' : TX),e = .returned (.tuple #[.int .u32 0,.int .i64 9]) ∧ leftOf (s.v 1) s.n ≤ 7 ∧ s'.Ok c ∧ s'.t = s.t ∧ s'.g = s.g ∧ s'.x.gl = s.x.gl ∧ BunTo w own rd (s'.L ++ [errA]) w')
theorem PutsPostR.vals {s : TX} {c : Nat} {hs : List Nat} {ps' : List PairT} {w w' : World} {own rd : Nat → Prop} {e : Ending} (hp : PutsPostR s c hs ps' w own rd e w') :
  ∃ v1 v2,e = .returned (.tuple #[v1,v2]) ∧ PutsPostR s c hs ps' w own rd (.returned (.tuple #[v1,v2])) w' := by
 have hp0 := hp
 rcases hp with ⟨_,_,_,_,rfl,_⟩ | ⟨_,_,_,_,rfl,_⟩ <;> exact ⟨_,_,rfl,hp0⟩
theorem puts_any {w : World} {s : TX} {c r : Nat} {hs : List Nat} {ps : List PairT} {p : PairT} (hb : Bundle w (s.L ++ [errA])) (h0 : s.Ok c) (R : Root s r hs ps) (hp : PairOk p) (z : Int) (hz : (r : Int) = z) :
  Calls Tryz.prog 79 #[.pointer (some ⟨s.g,0,none⟩),.int .i64 z,.agg (byteV p.b).toArray] w (PutsPostR s c hs (ins p ps) w (ownL (s.L ++ [errA])) (rdL (s.L ++ [errA]))) := by
 subst hz
 rcases R.is with ⟨rfl,rfl,rfl⟩ | ⟨d,sz,h1,T⟩
 ·exact puts_first hb h0 hp
 ·exact puts_more hb h0 T h1 hp _ rfl
set_option maxHeartbeats 4000000 in
theorem Put_calls {w : World} {s : TX} {c r : Nat} {hs : List Nat} {ps : List PairT} {k v : List UInt8} (hb : Bundle w (s.L ++ [errA])) (h0 : s.Ok c) (R : Root s r hs ps) (hk : k.length = 32) (hv : v.length = 8) (z : Int) (hz : (r : Int) = z) :
  Calls Tryz.prog 40 #[.pointer (some ⟨s.g,0,none⟩),.int .u32 z,arrV k,arrV v] w (PutPostT s c hs (ins ⟨k,v⟩ ps) w (ownL (s.L ++ [errA])) (rdL (s.L ++ [errA]))) := by
 subst hz
 have H := hb.open_
 obtain ⟨O,hO⟩ : ∃ O,ownL (s.L ++ [errA]) = O := ⟨_,rfl⟩
 obtain ⟨R0,hR0⟩ : ∃ R,rdL (s.L ++ [errA]) = R := ⟨_,rfl⟩
 rw [hO,hR0] at H ⊢
 have HO := Lib.hid h0
 have HR := Lib.hid R
 have HK := Lib.hid hk
 have HV := Lib.hid hv
 have hr0 : 0 ≤ (r : Int) := by omega
 have hr9 : (r : Int) < 1900 := by have := R.lt h0.nn.2;omega
 have tok1 : True := trivial
 obtain ⟨PP,hPP⟩ : ∃ PP,PutPostT s c hs (ins ⟨k,v⟩ ps) w O R0 = PP := ⟨_,rfl⟩
 have HPP := Lib.hid hPP
 rw [hPP]
 have hfs := foldl_size (byteV k).zipIdx
 clear hb h0 R hO hR0 hPP
 go_enter Tryz.func40,Tryz.ntmps40
 go_upto_region 2 with (first
  | (refine wpList_box_st H rfl 67 _ rfl (arrV k) rfl ?_;clear H;intro W gk H;replace H : St O R0 w W (s.L ++ [errA,blk gk (.cells (byteV k).toArray 67 (0,0))]) := H)
  | (refine wpList_box_st H rfl 69 _ rfl (arrV v) rfl ?_;clear H;intro W gv H;replace H : St O R0 w W (s.L ++ [errA,blk gk (.cells (byteV k).toArray 67 (0,0)),blk gv (.cells (byteV v).toArray 69 (0,0))]) := H)
  | (refine wpList_loadrow_st rfl 67 _ rfl gk rfl _ _ _ (H.at 8 rfl) _ Tryz.underlying67 rfl (size_key32 k HK.out) ?_)
  | (refine wpList_loadrow_st rfl 69 _ rfl gv rfl _ _ _ (H.at 9 rfl) _ Tryz.underlying69 rfl (size_val8 v HV.out) ?_)
  | (go_at_call 79;go_loud (rw [pair_built k v HK.out HV.out];(case hb => rfl);(refine (puts_any (s := s) (p := ⟨k,v⟩) (H.take 8).bundle HO.out HR.out ⟨HK.out,HV.out⟩ _ rfl).mono ?_);intro e W hpost;obtain ⟨v1,v2,rfl,hpost2⟩ := hpost.vals;have HPO := Lib.hid hpost2;clear hpost hpost2)))
 try clear hfs
 rcases HPO.out with (⟨r',hs',s1,ws,he,hr,hr0,hmv,hws,hto⟩ | ⟨ge,inner,z,s1,he,hge,hlo,hok,ht1,hg1,hgl1,hto⟩)
 ·obtain ⟨rfl,rfl⟩ := ret2_inj he
  have HA := Lib.hid (And.intro hr (And.intro hr0 (And.intro hmv hws)))
  have hr9' : (r' : Int) < 1900 := by have h1 := hr.lt hmv.ok.nn.2;omega
  have hr0' : 0 ≤ (r' : Int) := by omega
  clear hr hmv hws he HPO hr0
  replace H := BunTo.front (R := [_,_]) hto H
  clear hto
  go_wp2
  rw [← HPP.out]
  exact .inl ⟨r',hs',s1,ws,rfl,HA.out.1,HA.out.2.1,HA.out.2.2.1,HA.out.2.2.2,St.bunTo (H.take 8)⟩
 ·obtain ⟨rfl,rfl⟩ := ret2_inj he
  have HA := Lib.hid (And.intro hge (And.intro hlo (And.intro hok (And.intro ht1 (And.intro hg1 hgl1)))))
  clear hge hlo hok ht1 hg1 hgl1 he HPO
  replace H := BunTo.front (R := [_,_]) hto H
  clear hto
  unfold faultVR
  go_wp2_with (first
   | (go_at_call 80;go_loud ((refine (code_faultR ge 9 inner _ (H.at 7 rfl) HA.out.1).mono ?_);rintro e W2 ⟨rfl,hbl⟩;replace H := H.stay (Fix.of_below hbl _);clear hbl)))
  rw [← HPP.out]
  exact .inr ⟨s1,rfl,HA.out.2.1,HA.out.2.2.1,HA.out.2.2.2.1,HA.out.2.2.2.2.1,HA.out.2.2.2.2.2,St.bunTo (H.take 8)⟩
end Go.Proofs.YtlgciddnpinpbaaGreatDoor
