/- Texts of this proof, packed. -/
import Derived.Test.YtlgciddnpinpbaaGreatDoorPkBase4
import Derived.Test.YtlgciddnpinpbaaGreatDoorPqA
import Derived.Test.YtlgciddnpinpbaaGreatDoorPqB
import Derived.Test.YtlgciddnpinpbaaGreatDoorPqI
import Derived.Test.YtlgciddnpinpbaaGreatDoorPqQ
import Derived.Test.YtlgciddnpinpbaaGreatDoorPqS
import Derived.Test.YtlgciddnpinpbaaGreatDoorPqX
import Derived.Test.YtlgciddnpinpbaaGreatDoorPqY
import Derived.Test.YtlgciddnpinpbaaGreatDoorPqAg
set_option linter.unusedSimpArgs false
set_option linter.unusedVariables false
namespace Go.Proofs.YtlgciddnpinpbaaGreatDoor
open Go.RowKit
set_option maxRecDepth 40000
theorem deep_root {s : TX} {r m D : Nat} {hs : List Nat} {ps : List PairT} (R : Root s r hs ps) (hD : DepthIs s r hs ps D) (hm : ps.length ≤ m) : (m = 0 → D = 0 ∧ hs.length = 0) ∧ ∀ j,lAt m j ≤ 1 → D ≤ j + 1 ∧ hs.length ≤ sumF (lAt m) j := by
 rcases hD with ⟨_,rfl,rfl,rfl⟩ | ⟨d,sz,h1,T,rfl⟩
 ·exact ⟨fun _ => ⟨rfl,rfl⟩,fun j _ => ⟨Nat.zero_le _,Nat.zero_le _⟩⟩
 ·refine ⟨fun h => ?_,fun j hj => ?_⟩
  ·exact absurd (List.eq_nil_of_length_eq_zero (by omega)) (T.lies.some_ h1)
  ·have := deep_law T.lies h1 hm hj
   exact ⟨by omega,this.2⟩
theorem lAt_next {m j : Nat} (h : 1 < lAt m j) : lAt m (j + 1) < lAt m j := by
 show max (lAt m j / 4) 1 < lAt m j
 omega
theorem lAt_le (m : Nat) : ∀ j,lAt m j ≤ max (m / 3) 1
 | 0 => Nat.le_refl _
 | j + 1 => by
  have := lAt_le m j
  show max (lAt m j / 4) 1 ≤ _
  omega
theorem sumF_le_mul (m : Nat) : ∀ j,sumF (lAt m) j ≤ (j + 1) * max (m / 3) 1
 | 0 => by show lAt m 0 ≤ _;have := lAt_le m 0;omega
 | j + 1 => by
  have h1 := sumF_le_mul m j
  have h2 := lAt_le m (j + 1)
  have e : (j + 1 + 1) * max (m / 3) 1 = (j + 1) * max (m / 3) 1 + max (m / 3) 1 := Nat.succ_mul _ _
  rw [e]
  simp only [sumF]
  omega
def DeepAt (m deep all l : Nat) : Prop := (m = 0 ∧ deep = 0 ∧ all = 0 ∧ l = 0) ∨ ∃ j,deep = j + 1 ∧ all = sumF (lAt m) j ∧ l = lAt m j ∧ j + l ≤ 70
theorem DeepAt.next {m deep all l : Nat} (h : DeepAt m deep all l) (hl : 1 < l) : DeepAt m (deep + 1) (all + max (l / 4) 1) (max (l / 4) 1) := by
 rcases h with ⟨_,_,_,e⟩ | ⟨j,rfl,rfl,rfl,h2⟩
 ·omega
 ·exact .inr ⟨j + 1,rfl,rfl,rfl,by show j + 1 + lAt m (j + 1) ≤ 70;have := lAt_next hl;omega⟩
theorem DeepAt.small {m deep all l : Nat} (h : DeepAt m deep all l) (hm : m < 200) : deep ≤ 71 ∧ l ≤ 70 ∧ all ≤ 71 * 66 := by
 rcases h with ⟨_,rfl,rfl,rfl⟩ | ⟨j,rfl,rfl,rfl,h2⟩
 ·exact ⟨Nat.zero_le _,Nat.zero_le _,Nat.zero_le _⟩
 ·refine ⟨by omega,by omega,?_⟩
  have h3 := sumF_le_mul m j
  have h4 : (j + 1) * max (m / 3) 1 ≤ 71 * 66 := Nat.mul_le_mul (by omega) (by omega)
  omega
theorem DeepAt.end_ {m deep all l D : Nat} {s : TX} {r : Nat} {hs : List Nat} {ps : List PairT} (h : DeepAt m deep all l) (hl : ¬ 1 < l) (R : Root s r hs ps) (hD : DepthIs s r hs ps D) (hm : ps.length ≤ m) : D ≤ deep ∧ hs.length ≤ all := by
 have hk := deep_root R hD hm
 rcases h with ⟨h0,rfl,rfl,rfl⟩ | ⟨j,rfl,rfl,rfl,h2⟩
 ·have := hk.1 h0;omega
 ·exact hk.2 j (by omega)
set_option maxRecDepth 100000 in
set_option maxHeartbeats 32000000 in
theorem treeDeep_calls (n step : UInt8) (down : Bool) (w : World) (hg : errA.prop w) :
  Calls Tryz.prog 7 #[.int .u8 (n.toNat : Int),.int .u8 (step.toNat : Int),.bool down] w fun e w' => e = .returned (.bool true) ∧ Below w.heap.size w w' := by
 have H := St.err hg
 clear hg
 have hn0 : 0 ≤ (n.toNat : Int) := by omega
 have hn9 : (n.toNat : Int) < 256 := by have := n.toNat_lt;omega
 have hs0 : 0 ≤ (step.toNat : Int) := by omega
 have hs9 : (step.toNat : Int) < 256 := by have := step.toNat_lt;omega
 obtain ⟨m,hm,hm2⟩ : ∃ m : Nat,(n.toNat : Int).tmod 200 = (m : Int) ∧ m < 200 := ⟨n.toNat % 200,by rw [Int.tmod_eq_emod_of_nonneg (by omega)];omega,by omega⟩
 obtain ⟨q,hq,hq2⟩ : ∃ q : Nat,(step.toNat : Int).tmod 7 = (q : Int) ∧ q < 7 := ⟨step.toNat % 7,by rw [Int.tmod_eq_emod_of_nonneg (by omega)];omega,by omega⟩
 have hm0 : 0 ≤ (m : Int) := by omega
 have hm9 : (m : Int) < 200 := by omega
 have hq0 : 0 ≤ (q : Int) := by omega
 have hq9 : (q : Int) < 7 := by omega
 have HM2 := Lib.hid hm2
 have HQ2 := Lib.hid hq2
 clear hm2 hq2
 go_enter Tryz.func7,Tryz.ntmps7
 go_upto_region 7 with (first
  | (go_at_call 39;go_loud ((refine (begun21_calls _ (H.at 0 rfl)).mono ?_);rintro e W ⟨rfl,hb⟩;replace H := H.stay (Fix.of_below hb _);clear hb))
  | (go_at_call 29;go_loud ((refine (new21_calls H _ 300 274 rfl rfl (by omega) (by omega)).mono ?_);clear H;rintro e W ⟨s,rfl,hnew,H⟩;have HS := Lib.hid (Grove.start hnew (by omega));clear hnew)))
 clear hn0 hn9 hm
 obtain ⟨g0,hg0⟩ : ∃ g,s.g = g := ⟨_,rfl⟩
 rw [hg0]
 go_loopw [9,10] (fun rt u wr => ∃ (i r : Nat) (hs : List Nat) (ps : List PairT) (s : TX),rt = .int .u32 (r : Int) ∧ u = .int .i64 (i : Int) ∧ i ≤ m ∧ Hid (Grove s 274 r hs ps ∧ ps.length ≤ i) ∧ s.g = g0 ∧ St NoBlk (fun _ => True) w wr (s.L ++ [errA])) (fun _ u _ => m - (intOf u).toNat)
 case atStart => exact ⟨0,0,[],[],s,rfl,rfl,Nat.zero_le _,Lib.hid ⟨HS.out,Nat.le_refl _⟩,hg0,H⟩
 case round =>
  clear H HS hg0
  clear s
  obtain ⟨i,r,hs,ps,s,rfl,rfl,hi,HG,hg1,H⟩ := hrel
  subst hg1
  have hi0 : 0 ≤ (i : Int) := by omega
  rcases Nat.lt_or_ge i m with hlt | hge
  ·have hii : (i : Int) < (m : Int) := by omega
   have HI := Lib.hid hlt
   have HI9 := Lib.hid (show i < 199 by have := HM2.out;omega)
   obtain ⟨x,hx,hx2⟩ : ∃ x : Nat,(i : Int) * (1 + (q : Int)) = (x : Int) ∧ x ≤ 1400 := ⟨i * (1 + q),by rw [Int.natCast_mul];rfl,by
    have h1 : i * (1 + q) ≤ 200 * 7 := Nat.mul_le_mul (by have := HI9.out;omega) (by have := HQ2.out;omega)
    omega⟩
   have hx0 : 0 ≤ (x : Int) := by omega
   have hx9 : (x : Int) ≤ 1400 := by omega
   clear hi hlt
   cases down
   ·have HY := Lib.hid (show x < 65536 by omega)
    clear hx2
    go_wp2_with (first
     | (go_at_call 41;go_loud ((refine (key21_calls x HY.out _ (by first | rfl | omega) _).mono ?_);rintro e W ⟨rfl,hb⟩;replace H := H.stay (Fix.of_below hb _);clear hb))
     | (go_at_call 42;go_loud ((refine (val21_calls i (by have := HI9.out;omega) _ (by first | rfl | omega) _).mono ?_);rintro e W ⟨rfl,hb⟩;replace H := H.stay (Fix.of_below hb _);clear hb))
     | (go_at_call 40;go_loud ((refine (put_grove H.bundle HG.out.1 (keyN_len x) (valN_len i) (by have := HG.out.2;have := HI9.out;omega) _ rfl).mono ?_);rintro e W ⟨r',hs',s',ws,rfl,hgr,h0,hm,hws,hto⟩;replace H := hto.front (R := []) (by rw [List.append_nil];exact H);rw [List.append_nil] at H;have HG' := Lib.hid hgr;have HSG := Lib.hid hm.g;clear hgr h0 hm hws hto)))
    go_roundw
    case rel => exact ⟨i + 1,r',hs',_,s',rfl,congrArg _ (by omega),HI.out,Lib.hid ⟨HG'.out,by have h1 := HG.out.2;have h2 := ins_len (p := ⟨keyN x,valN i⟩) (l := ps);omega⟩,HSG.out,H⟩
    case measure => have := HI.out;simp [intOf];omega
   ·obtain ⟨y,hy,hy2⟩ : ∃ y : Nat,2000 - (x : Int) = (y : Int) ∧ y ≤ 2000 := ⟨2000 - x,by omega,by omega⟩
    have hy0 : 0 ≤ (y : Int) := by omega
    have hy9 : (y : Int) ≤ 2000 := by omega
    have HY := Lib.hid (show y < 65536 by omega)
    clear hy2 hx2
    go_wp2_with (first
     | (go_at_call 41;go_loud ((refine (key21_calls y HY.out _ (by first | rfl | omega) _).mono ?_);rintro e W ⟨rfl,hb⟩;replace H := H.stay (Fix.of_below hb _);clear hb))
     | (go_at_call 42;go_loud ((refine (val21_calls i (by have := HI9.out;omega) _ (by first | rfl | omega) _).mono ?_);rintro e W ⟨rfl,hb⟩;replace H := H.stay (Fix.of_below hb _);clear hb))
     | (go_at_call 40;go_loud ((refine (put_grove H.bundle HG.out.1 (keyN_len y) (valN_len i) (by have := HG.out.2;have := HI9.out;omega) _ rfl).mono ?_);rintro e W ⟨r',hs',s',ws,rfl,hgr,h0,hm,hws,hto⟩;replace H := hto.front (R := []) (by rw [List.append_nil];exact H);rw [List.append_nil] at H;have HG' := Lib.hid hgr;have HSG := Lib.hid hm.g;clear hgr h0 hm hws hto)))
    go_roundw
    case rel => exact ⟨i + 1,r',hs',_,s',rfl,congrArg _ (by omega),HI.out,Lib.hid ⟨HG'.out,by have h1 := HG.out.2;have h2 := ins_len (p := ⟨keyN y,valN i⟩) (l := ps);omega⟩,HSG.out,H⟩
    case measure => have := HI.out;simp [intOf];omega
  ·obtain rfl : i = m := by omega
   have HI9 := Lib.hid HM2.out
   clear hi hge hs0 hs9 hq hq0 hq9 HQ2
   go_upto_region 18 with (first
    | (go_at_call 43;go_loud ((refine (Depth_calls (c := 0) (H.take 7).bundle HG.out.1.ok HG.out.1.R _ rfl).mono ?_);rintro e W ⟨D,hD,rfl,hto⟩;have HD := Lib.hid hD;replace H := hto.front (R := [errA]) H;clear hto hD))
    | (go_at_call 44;go_loud ((refine (Nodes_calls (c := 0) (H.take 7).bundle HG.out.1.ok HG.out.1.R _ rfl).mono ?_);rintro e W ⟨pn,cn,rfl,hto⟩;replace H := hto.front (R := [errA]) H;clear hto)))
   obtain ⟨K,hK⟩ : ∃ K,hs.length = K := ⟨_,rfl⟩
   have HK := Lib.hid hK
   rw [hK]
   clear hK
   obtain ⟨t,ht⟩ : ∃ t,i / 3 = t := ⟨_,rfl⟩
   have ht1 : (i : Int).tdiv 3 = (t : Int) := by rw [Int.tdiv_eq_ediv_of_nonneg (by omega)];omega
   have HT := Lib.hid ht
   have ht9 : (t : Int) ≤ 66 := by omega
   have ht0 : 0 ≤ (t : Int) := by omega
   clear ht
   rcases Nat.eq_zero_or_pos i with hz | hz
   ·have hi1 : ¬ (0 < (i : Int)) := by omega
    obtain rfl : i = 0 := by omega
    obtain rfl : t = 0 := by have := HT.out;omega
    go_upto_region 21 with fail
    go_loopw [18,19,20] (fun dv av lv wr => ∃ (deep all l : Nat),dv = .int .i64 (deep : Int) ∧ av = .int .i64 (all : Int) ∧ lv = .int .i64 (l : Int) ∧ Hid (DeepAt 0 deep all l) ∧ St NoBlk (fun _ => True) w wr (s.L ++ [ownS 3 1 pn hs.length cn (intsV (sortN hs))] ++ [errA])) (fun _ _ lv _ => (intOf lv).toNat)
    case atStart => exact ⟨0,0,0,rfl,rfl,rfl,Lib.hid (.inl ⟨rfl,rfl,rfl,rfl⟩),H⟩
    case round =>
     clear H
     obtain ⟨deep,all,l,rfl,rfl,rfl,HA,H⟩ := hrel
     have hsm := HA.out.small HI9.out
     have hd0 : 0 ≤ (deep : Int) := by omega
     have hd9 : (deep : Int) ≤ 71 := by omega
     have ha0 : 0 ≤ (all : Int) := by omega
     have ha9 : (all : Int) ≤ 4686 := by omega
     have hl0 : 0 ≤ (l : Int) := by omega
     have hl7 : (l : Int) ≤ 70 := by omega
     clear hsm
     rcases Nat.lt_or_ge 1 l with hlt | hge
     ·have hll : 1 < (l : Int) := by omega
      have HL := Lib.hid hlt
      obtain ⟨u,hu⟩ : ∃ u,l / 4 = u := ⟨_,rfl⟩
      have hu1 : (l : Int).tdiv 4 = (u : Int) := by rw [Int.tdiv_eq_ediv_of_nonneg (by omega)];omega
      obtain ⟨l2,hl2⟩ : ∃ l2,max u 1 = l2 := ⟨_,rfl⟩
      have hmax2 : max (u : Int) 1 = (l2 : Int) := by omega
      have hu9 : (l2 : Int) ≤ 70 := by omega
      have hu8 : 0 ≤ (l2 : Int) := by omega
      have HN := Lib.hid (show DeepAt 0 (deep + 1) (all + l2) l2 by have h := HA.out.next hlt;rw [hu,hl2] at h;exact h)
      have HLL := Lib.hid (show l2 < l by omega)
      clear hlt hu hl2
      go_wp2
      go_roundw
      case rel => exact ⟨deep + 1,all + l2,l2,congrArg _ (by omega),congrArg _ (by omega),rfl,HN.out,H⟩
      case measure => have := HLL.out;simp [intOf];omega
     ·have hll : ¬ (1 < (l : Int)) := by omega
      have hend := HA.out.end_ (by omega) HG.out.1.R HD.out HG.out.2
      rw [HK.out] at hend
      have he1 : (D : Int) ≤ (deep : Int) := by omega
      have he2 : (K : Int) ≤ (all : Int) := by omega
      clear hend hge
      go_wp2
      go_ret
      exact ⟨by simp,H.fix.below⟩
   ·have hi1 : 0 < (i : Int) := by omega
    obtain ⟨l0,hl0⟩ : ∃ l0,max t 1 = l0 := ⟨_,rfl⟩
    have hmax : max (t : Int) 1 = (l0 : Int) := by omega
    have hl9 : (l0 : Int) ≤ 66 := by omega
    have hl8 : 0 ≤ (l0 : Int) := by omega
    have HL0 := Lib.hid (show lAt i 0 = l0 by show max (i / 3) 1 = _;rw [HT.out,hl0])
    clear hl0
    go_upto_region 21 with fail
    go_loopw [18,19,20] (fun dv av lv wr => ∃ (deep all l : Nat),dv = .int .i64 (deep : Int) ∧ av = .int .i64 (all : Int) ∧ lv = .int .i64 (l : Int) ∧ Hid (DeepAt i deep all l) ∧ St NoBlk (fun _ => True) w wr (s.L ++ [ownS 3 1 pn hs.length cn (intsV (sortN hs))] ++ [errA])) (fun _ _ lv _ => (intOf lv).toNat)
    case atStart => exact ⟨1,l0,l0,rfl,rfl,rfl,Lib.hid (.inr ⟨0,rfl,HL0.out.symm,HL0.out.symm,by omega⟩),H⟩
    case round =>
     clear H
     obtain ⟨deep,all,l,rfl,rfl,rfl,HA,H⟩ := hrel
     have hsm := HA.out.small HI9.out
     have hd0 : 0 ≤ (deep : Int) := by omega
     have hd9 : (deep : Int) ≤ 71 := by omega
     have ha0 : 0 ≤ (all : Int) := by omega
     have ha9 : (all : Int) ≤ 4686 := by omega
     have hl0 : 0 ≤ (l : Int) := by omega
     have hl7 : (l : Int) ≤ 70 := by omega
     clear hsm
     rcases Nat.lt_or_ge 1 l with hlt | hge
     ·have hll : 1 < (l : Int) := by omega
      have HL := Lib.hid hlt
      obtain ⟨u,hu⟩ : ∃ u,l / 4 = u := ⟨_,rfl⟩
      have hu1 : (l : Int).tdiv 4 = (u : Int) := by rw [Int.tdiv_eq_ediv_of_nonneg (by omega)];omega
      obtain ⟨l2,hl2⟩ : ∃ l2,max u 1 = l2 := ⟨_,rfl⟩
      have hmax2 : max (u : Int) 1 = (l2 : Int) := by omega
      have hu9 : (l2 : Int) ≤ 70 := by omega
      have hu8 : 0 ≤ (l2 : Int) := by omega
      have HN := Lib.hid (show DeepAt i (deep + 1) (all + l2) l2 by have h := HA.out.next hlt;rw [hu,hl2] at h;exact h)
      have HLL := Lib.hid (show l2 < l by omega)
      clear hlt hu hl2
      go_wp2
      go_roundw
      case rel => exact ⟨deep + 1,all + l2,l2,congrArg _ (by omega),congrArg _ (by omega),rfl,HN.out,H⟩
      case measure => have := HLL.out;simp [intOf];omega
     ·have hll : ¬ (1 < (l : Int)) := by omega
      have hend := HA.out.end_ (by omega) HG.out.1.R HD.out HG.out.2
      rw [HK.out] at hend
      have he1 : (D : Int) ≤ (deep : Int) := by omega
      have he2 : (K : Int) ≤ (all : Int) := by omega
      clear hend hge
      go_wp2
      go_ret
      exact ⟨by simp,H.fix.below⟩
end Go.Proofs.YtlgciddnpinpbaaGreatDoor
