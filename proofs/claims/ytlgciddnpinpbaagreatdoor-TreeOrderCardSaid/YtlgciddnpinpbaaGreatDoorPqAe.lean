/- Texts of this proof, packed. -/
import Derived.Test.YtlgciddnpinpbaaGreatDoorPkBase4
import Derived.Test.YtlgciddnpinpbaaGreatDoorPqA
import Derived.Test.YtlgciddnpinpbaaGreatDoorPqR
import Derived.Test.YtlgciddnpinpbaaGreatDoorPqB
import Derived.Test.YtlgciddnpinpbaaGreatDoorPqC
import Derived.Test.YtlgciddnpinpbaaGreatDoorPqD
import Derived.Test.YtlgciddnpinpbaaGreatDoorPqG
import Derived.Test.YtlgciddnpinpbaaGreatDoorPqQ
import Derived.Test.YtlgciddnpinpbaaGreatDoorPqX
import Derived.Test.YtlgciddnpinpbaaGreatDoorPqZ
import Derived.Test.YtlgciddnpinpbaaGreatDoorPqAa
import Derived.Test.YtlgciddnpinpbaaGreatDoorPqAd
set_option linter.unusedSimpArgs false
set_option linter.unusedVariables false
namespace Go.Proofs.YtlgciddnpinpbaaGreatDoor
open Go.RowKit
set_option maxRecDepth 40000
set_option maxRecDepth 100000 in
set_option maxHeartbeats 32000000 in
theorem treeOrder_short (w : World) (pz : Option Addr) (l : List Nat) (n cz : Nat) (turn : UInt8) (hn : l.length = n) (h1 : 1 ≤ n) (h60 : n ≤ 60) (hl : ∀ x ∈ l,x < 65536) (hg : errA.prop w) (ha : (rdA pz (u16V l)).prop w) :
  Calls Tryz.prog 8 #[.slice pz n cz,.int .u8 (turn.toNat : Int)] w fun e w' => e = .returned (.bool true) ∧ Below w.heap.size w w' := by
 have H := St.reads_only (w := w) [errA,rdA pz (u16V l)] (by
  intro B hB
  simp only [List.mem_cons,List.not_mem_nil,or_false] at hB
  rcases hB with rfl | rfl
  ·exact ⟨hg,fun _ h => h⟩
  ·exact ⟨ha,fun _ h => h⟩)
 have hn0 : ¬ (n : Int) = 0 := by omega
 have hnb : ((n : Int) == 0) = false := beq_eq_false_iff_ne.2 hn0
 have hn1 : 0 < (n : Int) := by omega
 have hn6 : (n : Int) ≤ 60 := by omega
 have hn61 : ¬ (60 < (n : Int)) := by omega
 have ht0 : 0 ≤ (turn.toNat : Int) := by omega
 have ht9 : (turn.toNat : Int) < 256 := by have := turn.toNat_lt;omega
 obtain ⟨k,hk,hk2⟩ : ∃ k : Nat,(turn.toNat : Int).tmod (n : Int) = (k : Int) ∧ k < n := ⟨turn.toNat % n,by rw [Int.tmod_eq_emod_of_nonneg (by omega)];omega,Nat.mod_lt _ (by omega)⟩
 have hk0 : 0 ≤ (k : Int) := by omega
 have hkn : (k : Int) < (n : Int) := by omega
 have HN := Lib.hid hn
 have H6 := Lib.hid h60
 have H1 := Lib.hid h1
 have HK := Lib.hid hk2
 have HLT := Lib.hid hl
 clear hg ha h1 h60 hk2 hl hn
 go_enter Tryz.func8,Tryz.ntmps8
 go_upto_region 9 with (first
  | (go_at_call 39;go_loud ((refine (begun21_calls _ (H.at 0 rfl)).mono ?_);rintro e W ⟨rfl,hb⟩;replace H := H.stay (Fix.of_below hb _);clear hb))
  | (go_at_call 29;go_loud ((refine (new21_calls H _ 200 174 rfl rfl (by omega) (by omega)).mono ?_);clear H;rintro e W ⟨s,rfl,hnew,H⟩;have HS := Lib.hid (Grove2.start hnew (by omega));clear hnew)))
 obtain ⟨g0,hg0⟩ : ∃ g,s.g = g := ⟨_,rfl⟩
 rw [hg0]
 go_loopw [7,8,9] (fun at_ bt u wr => ∃ (i ra rb : Nat) (hsa hsb : List Nat) (pa pb : List PairT) (s : TX),at_ = .int .u32 (ra : Int) ∧ bt = .int .u32 (rb : Int) ∧ u = .int .i64 (i : Int) ∧ i ≤ n ∧ Hid (Grove2 s 174 ra hsa pa rb hsb pb) ∧ Hid (HasN (firstN l (fun j => j) i) pa ∧ HasN (firstN l (backT n k) i) pb ∧ pa.length ≤ i ∧ pb.length ≤ i) ∧ s.g = g0 ∧ St NoBlk (fun _ => True) w wr (s.L ++ [errA,rdA pz (u16V l)])) (fun _ _ u _ => n - (intOf u).toNat)
 case atStart => exact ⟨0,0,0,[],[],[],[],s,rfl,rfl,rfl,Nat.zero_le _,HS,Lib.hid ⟨HasN.nil.iff fun x => ⟨fun h => h.elim,fun ⟨j,h,_⟩ => absurd h (Nat.not_lt_zero _)⟩,HasN.nil.iff fun x => ⟨fun h => h.elim,fun ⟨j,h,_⟩ => absurd h (Nat.not_lt_zero _)⟩,Nat.le_refl _,Nat.le_refl _⟩,hg0,H⟩
 case round =>
  clear H HS hg0
  clear s
  obtain ⟨i,ra,rb,hsa,hsb,pa,pb,s,rfl,rfl,rfl,hi,HG,HP,hg1,H⟩ := hrel
  subst hg1
  have hi0 : 0 ≤ (i : Int) := by omega
  rcases Nat.lt_or_ge i n with hlt | hge
  ·have hii : (i : Int) < (n : Int) := by omega
   have HI := Lib.hid hlt
   obtain ⟨x,hx⟩ : ∃ x,l[i]? = some x := ⟨_,List.getElem?_eq_getElem (by rw [HN.out];exact hlt)⟩
   obtain ⟨j,hj⟩ : ∃ j,backT n k i = j := ⟨_,rfl⟩
   have hjn : j < n := by rw [← hj];exact backT_lt (by omega)
   obtain ⟨y,hy⟩ : ∃ y,l[j]? = some y := ⟨_,List.getElem?_eq_getElem (by rw [HN.out];exact hjn)⟩
   obtain ⟨m,hm,hm2⟩ : ∃ m : Nat,((i : Int) + (k : Int)).tmod (n : Int) = (m : Int) ∧ m = (i + k) % n := ⟨(i + k) % n,by rw [Int.tmod_eq_emod_of_nonneg (by omega),← Int.natCast_add];rfl,rfl⟩
   have hm0 : 0 ≤ (m : Int) := by omega
   have hmn : (m : Int) < (n : Int) := by have := Nat.mod_lt (i + k) (show 0 < n by omega);omega
   have hjm : (n : Int) - 1 - (m : Int) = (j : Int) := by rw [← hj];unfold backT;rw [← hm2];omega
   have hj0 : 0 ≤ (j : Int) := by omega
   have hjn' : (j : Int) < (n : Int) := by omega
   have hnz : ¬ n = 0 := by omega
   have hw4 : IntKind.i64.wrap (j : Int) = (j : Int) := by rw [IntKind.wrap_i64];omega
   have hw1 : IntKind.i64.wrap ((i : Int) + (k : Int)) = (i : Int) + (k : Int) := by rw [IntKind.wrap_i64];omega
   have hw2 : IntKind.i64.wrap ((n : Int) - 1) = (n : Int) - 1 := by rw [IntKind.wrap_i64];omega
   have hw3 : IntKind.i64.wrap ((n : Int) - 1 - (m : Int)) = (j : Int) := by rw [IntKind.wrap_i64];omega
   obtain ⟨gz,oz,hpz,hc⟩ : ∃ gz oz,pz = some ⟨gz,oz,none⟩ ∧ wr.cell? ⟨gz,oz + i,none⟩ = some (.int .u16 (x : Int)) := by
    obtain ⟨gz,oz,e,_⟩ := rdA_at (H.at 8 rfl) (u16V_at hx)
    subst e
    exact ⟨gz,oz,rfl,rdA_cell (H.at 8 rfl) (u16V_at hx)⟩
   subst hpz
   have hc2 := rdA_cell (H.at 8 rfl) (u16V_at hy)
   have HX := Lib.hid hx
   have HY := Lib.hid hy
   have HJ := Lib.hid hj
   have HXL := Lib.hid (HLT.out x (List.mem_of_getElem? hx))
   have HYL := Lib.hid (HLT.out y (List.mem_of_getElem? hy))
   have hx0 : 0 ≤ (x : Int) := by omega
   have hy0 : 0 ≤ (y : Int) := by omega
   have hx9 : (x : Int) < 65536 := by have := HXL.out;omega
   have hy9 : (y : Int) < 65536 := by have := HYL.out;omega
   clear hx hy hj hm2 hlt hi hjn
   go_upto_region 11 with fail
   replace H := H.drew
   refine wp_region_held_drew (S := fun w' => w'.cell? ⟨gz,oz + i,none⟩ = some (.int .u16 (x : Int)) ∧ w'.cell? ⟨gz,oz + j,none⟩ = some (.int .u16 (y : Int))) (by kernel_rfl) ⟨hc,hc2⟩ (fun hHeld => ?_)
   (refine wpAnyH_take (i := 0) (v := ?_) rfl (by kernel_rfl) (by kernel_rfl) (by kernel_rfl) (fun _ _ _ h => h) (Or.inl ⟨by rfl,?_⟩) (by assumption) ?_;rotate_left;focus (intro w hSw;(try dsimp only at hSw);go_simp;all_goals (with_reducible rfl)));(try simp only [Act.put,rp1,rp2,rp3,rp4,rp5,rp6])
   (refine wpAnyH_take (i := 1) (v := ?_) rfl (by kernel_rfl) (by kernel_rfl) (by kernel_rfl) (fun _ _ _ h => h) (Or.inl ⟨by rfl,?_⟩) (by assumption) ?_;rotate_left;focus (intro w hSw;(try dsimp only at hSw);go_simp;all_goals (with_reducible rfl)));(try simp only [Act.put,rp1,rp2,rp3,rp4,rp5,rp6])
   (refine wpAnyH_take (i := 2) (v := ?_) rfl (by kernel_rfl) (by kernel_rfl) (by kernel_rfl) (fun _ _ _ h => h) (Or.inl ⟨by rfl,?_⟩) (by assumption) ?_;rotate_left;focus (intro w hSw;(try dsimp only at hSw);go_simp;all_goals (with_reducible rfl)));(try simp only [Act.put,rp1,rp2,rp3,rp4,rp5,rp6])
   (refine wpAnyH_take (i := 3) rfl (by kernel_rfl) (by kernel_rfl) (by kernel_rfl) (fun _ _ _ h => h) (yieldsIf_load1 (by rfl) 57 _ rfl _ _ (by rfl) _ Tryz.underlying57 rfl _ (fun w h => h.1)) (by assumption) ?_);(try simp only [Act.put,rp1,rp2,rp3,rp4,rp5,rp6])
   (refine wpAnyH_take (i := 4) (v := ?_) rfl (by kernel_rfl) (by kernel_rfl) (by kernel_rfl) (fun _ _ _ h => h) (Or.inl ⟨by rfl,?_⟩) (by assumption) ?_;rotate_left;focus (intro w hSw;(try dsimp only at hSw);go_simp;all_goals (with_reducible rfl)));(try simp only [Act.put,rp1,rp2,rp3,rp4,rp5,rp6])
   (refine wpAnyH_take (i := 5) (v := ?_) rfl (by kernel_rfl) (by kernel_rfl) (by kernel_rfl) (fun _ _ _ h => h) (Or.inl ⟨by rfl,?_⟩) (by assumption) ?_;rotate_left;focus (intro w hSw;(try dsimp only at hSw);go_simp;all_goals (with_reducible rfl)));(try simp only [Act.put,rp1,rp2,rp3,rp4,rp5,rp6])
   (refine wpAnyH_take (i := 6) (v := ?_) rfl (by kernel_rfl) (by kernel_rfl) (by kernel_rfl) (fun _ _ _ h => h) (Or.inl ⟨by rfl,?_⟩) (by assumption) ?_;rotate_left;focus (intro w hSw;(try dsimp only at hSw);go_simp;all_goals (with_reducible rfl)));(try simp only [Act.put,rp1,rp2,rp3,rp4,rp5,rp6])
   (refine wpAnyH_take (i := 7) (v := ?_) rfl (by kernel_rfl) (by kernel_rfl) (by kernel_rfl) (fun _ _ _ h => h) (Or.inl ⟨by rfl,?_⟩) (by assumption) ?_;rotate_left;focus (intro w hSw;(try dsimp only at hSw);go_simp;all_goals (with_reducible rfl)));(try simp only [Act.put,rp1,rp2,rp3,rp4,rp5,rp6])
   (refine wpAnyH_take (i := 8) (v := ?_) rfl (by kernel_rfl) (by kernel_rfl) (by kernel_rfl) (fun _ _ _ h => h) (Or.inl ⟨by rfl,?_⟩) (by assumption) ?_;rotate_left;focus (intro w hSw;(try dsimp only at hSw);go_simp;all_goals (with_reducible rfl)));(try simp only [Act.put,rp1,rp2,rp3,rp4,rp5,rp6])
   (refine wpAnyH_take (i := 9) (v := ?_) rfl (by kernel_rfl) (by kernel_rfl) (by kernel_rfl) (fun _ _ _ h => h) (Or.inl ⟨by rfl,?_⟩) (by assumption) ?_;rotate_left;focus (intro w hSw;(try dsimp only at hSw);go_simp;all_goals (with_reducible rfl)));(try simp only [Act.put,rp1,rp2,rp3,rp4,rp5,rp6])
   (refine wpAnyH_take (i := 10) (v := ?_) rfl (by kernel_rfl) (by kernel_rfl) (by kernel_rfl) (fun _ _ _ h => h) (Or.inl ⟨by rfl,?_⟩) (by assumption) ?_;rotate_left;focus (intro w hSw;(try dsimp only at hSw);go_simp;all_goals (with_reducible rfl)));(try simp only [Act.put,rp1,rp2,rp3,rp4,rp5,rp6])
   (refine wpAnyH_take (i := 11) (v := ?_) rfl (by kernel_rfl) (by kernel_rfl) (by kernel_rfl) (fun _ _ _ h => h) (Or.inl ⟨by rfl,?_⟩) (by assumption) ?_;rotate_left;focus (intro w hSw;(try dsimp only at hSw);go_simp;all_goals (with_reducible rfl)));(try simp only [Act.put,rp1,rp2,rp3,rp4,rp5,rp6])
   (refine wpAnyH_take (i := 12) (v := ?_) rfl (by kernel_rfl) (by kernel_rfl) (by kernel_rfl) (fun _ _ _ h => h) (Or.inl ⟨by rfl,?_⟩) (by assumption) ?_;rotate_left;focus (intro w hSw;(try dsimp only at hSw);go_simp;all_goals (with_reducible rfl)));(try simp only [Act.put,rp1,rp2,rp3,rp4,rp5,rp6])
   (refine wpAnyH_take (i := 13) (v := ?_) rfl (by kernel_rfl) (by kernel_rfl) (by kernel_rfl) (fun _ _ _ h => h) (Or.inl ⟨by rfl,?_⟩) (by assumption) ?_;rotate_left;focus (intro w hSw;(try dsimp only at hSw);go_simp;all_goals (with_reducible rfl)));(try simp only [Act.put,rp1,rp2,rp3,rp4,rp5,rp6])
   (refine wpAnyH_take (i := 14) (v := ?_) rfl (by kernel_rfl) (by kernel_rfl) (by kernel_rfl) (fun _ _ _ h => h) (Or.inl ⟨by rfl,?_⟩) (by assumption) ?_;rotate_left;focus (intro w hSw;(try dsimp only at hSw);go_simp;all_goals (with_reducible rfl)));(try simp only [Act.put,rp1,rp2,rp3,rp4,rp5,rp6])
   (refine wpAnyH_take (i := 15) (v := ?_) rfl (by kernel_rfl) (by kernel_rfl) (by kernel_rfl) (fun _ _ _ h => h) (Or.inl ⟨by rfl,?_⟩) (by assumption) ?_;rotate_left;focus (intro w hSw;(try dsimp only at hSw);go_simp;all_goals (with_reducible rfl)));(try simp only [Act.put,rp1,rp2,rp3,rp4,rp5,rp6])
   (refine wpAnyH_take (i := 16) rfl (by kernel_rfl) (by kernel_rfl) (by kernel_rfl) (fun _ _ _ h => h) (yieldsIf_load1 (by rfl) 57 _ rfl _ _ (by rfl) _ Tryz.underlying57 rfl _ (fun w h => h.2)) (by assumption) ?_);(try simp only [Act.put,rp1,rp2,rp3,rp4,rp5,rp6])
   (refine wpAnyH_take (i := 17) (v := ?_) rfl (by kernel_rfl) (by kernel_rfl) (by kernel_rfl) (fun _ _ _ h => h) (Or.inl ⟨by rfl,?_⟩) (by assumption) ?_;rotate_left;focus (intro w hSw;(try dsimp only at hSw);go_simp;all_goals (with_reducible rfl)));(try simp only [Act.put,rp1,rp2,rp3,rp4,rp5,rp6])
   (refine wpAnyH_take (i := 18) (v := ?_) rfl (by kernel_rfl) (by kernel_rfl) (by kernel_rfl) (fun _ _ _ h => h) (Or.inl ⟨by rfl,?_⟩) (by assumption) ?_;rotate_left;focus (intro w hSw;(try dsimp only at hSw);go_simp;all_goals (with_reducible rfl)));(try simp only [Act.put,rp1,rp2,rp3,rp4,rp5,rp6])
   (refine wpAnyH_done (by kernel_rfl) ?_ _)
   clear hHeld hc hc2 hm hm0 hmn hjm hw1 hw2 hw3 hw4 hnz
   go_upto_region 13 with (first
    | (go_at_call 41;go_loud ((refine (key21_calls x HXL.out _ (by first | rfl | omega) _).mono ?_);rintro e W ⟨rfl,hb⟩;replace H := H.stay (Fix.of_below hb _);clear hb))
    | (go_at_call 42;go_loud ((refine (val21_calls x HXL.out _ (by first | rfl | omega) _).mono ?_);rintro e W ⟨rfl,hb⟩;replace H := H.stay (Fix.of_below hb _);clear hb))
    | (go_at_call 40;go_loud ((refine (put_grove2 (H.take 8).bundle HG.out (keyN_len x) (valN_len x) (by have h1 := HP.out.2.2.1;have h2 := HP.out.2.2.2;have h3 := H6.out;have h4 := HI.out;omega) _ rfl).mono ?_);rintro e W ⟨r1,q1,s1,rfl,hgr,hsg,hto⟩;replace H := hto.front (R := [rdA (some ⟨gz,oz,none⟩) (u16V l)]) H;have HG1 := Lib.hid hgr;have HSG1 := Lib.hid hsg;clear hgr hsg hto)))
   have HL1 := Lib.hid (ins_len (p := ⟨keyN x,valN x⟩) (l := pa))
   go_wp2_with (first
    | (go_at_call 41;go_loud ((refine (key21_calls y HYL.out _ (by first | rfl | omega) _).mono ?_);rintro e W ⟨rfl,hb⟩;replace H := H.stay (Fix.of_below hb _);clear hb))
    | (go_at_call 42;go_loud ((refine (val21_calls y HYL.out _ (by first | rfl | omega) _).mono ?_);rintro e W ⟨rfl,hb⟩;replace H := H.stay (Fix.of_below hb _);clear hb))
    | (go_at_call 40;go_loud ((have hput := put_grove2 (s := s1) (H.take 8).bundle HG1.out.swap (keyN_len y) (valN_len y) (by have h1 := HP.out.2.2.1;have h2 := HP.out.2.2.2;have h3 := H6.out;have h4 := HI.out;have h5 := HL1.out;omega) (rb : Int) rfl);rw [HSG1.out] at hput;refine hput.mono ?_;clear hput;rintro e W ⟨r2,q2,s2,rfl,hgr,hsg,hto⟩;replace H := hto.front (R := [rdA (some ⟨gz,oz,none⟩) (u16V l)]) H;have HG2 := Lib.hid hgr.swap;have HSG2 := Lib.hid hsg;clear hgr hsg hto)))
   go_roundw
   case rel =>
    refine ⟨i + 1,r1,r2,q1,q2,_,_,s2,rfl,rfl,congrArg _ (by omega),HI.out,Lib.hid HG2.out,Lib.hid ⟨?_,?_,?_,?_⟩,HSG2.out,H⟩
    ·exact (HP.out.1.put HXL.out).iff (firstN_more (f := fun j => j) HX.out)
    ·exact (HP.out.2.1.put HYL.out).iff (firstN_more (f := backT n k) (by rw [HJ.out];exact HY.out))
    ·have h1 := HP.out.2.2.1;have h2 := HL1.out;omega
    ·have h1 := HP.out.2.2.2;have h2 := ins_len (p := ⟨keyN y,valN y⟩) (l := pb);omega
   case measure => have := HI.out;simp [intOf];omega
  ·obtain rfl : i = n := by omega
   clear hi hge hk ht0 ht9
   have hb := fun x => firstN_back (l := l) (k := k) (by rw [HN.out];exact HK.out) x
   simp only [HN.out] at hb
   obtain rfl : pa = pb := HasN.eq (HP.out.1.iff hb) HP.out.2.1
   clear hb
   have HRS := Lib.hid HG.out.A.ris
   have HOK := Lib.hid HG.out.A.good
   obtain ⟨m,hm⟩ : ∃ m,pa.length = m := ⟨_,rfl⟩
   have HM := Lib.hid hm
   have hm6 : (m : Int) ≤ 60 := by have := HP.out.2.2.1;have := H6.out;omega
   have hm0 : 0 ≤ (m : Int) := by omega
   have HM6 := Lib.hid (show (m : Int) ≤ 1000 by omega)
   clear hm
   go_upto_region 18 with (first
    | (go_at_call 41;go_loud ((refine (key21_calls 0 (by omega) _ (by first | rfl | omega) _).mono ?_);rintro e W ⟨rfl,hb⟩;replace H := H.stay (Fix.of_below hb _);clear hb))
    | (go_at_call 45;go_loud ((have hsc := scan_all_calls (c := 0) (H.take 7).bundle HG.out.ok HG.out.A (ra : Int) rfl (keyN 0) (keyN_len 0) kn_key0 1000 (by rw [HM.out];exact HM6.out));rw [HM.out] at hsc;refine hsc.mono ?_;clear hsc;rintro e W ⟨pp,cp,rfl,hto⟩;replace H := hto.front2 (R := [errA,rdA pz (u16V l)]) H;clear hto)))
   replace H : St NoBlk (fun _ => True) w _ (s.L ++ [errA,rdA pz (u16V l),ownS 80 40 pp m cp (pairV pa)]) := H
   go_upto_region 22 with (first
    | (go_at_call 41;go_loud ((refine (key21_calls 0 (by omega) _ (by first | rfl | omega) _).mono ?_);rintro e W ⟨rfl,hb⟩;replace H := H.stay (Fix.of_below hb _);clear hb))
    | (go_at_call 45;go_loud ((have hsc := scan_all_calls (c := 0) (H.take 7).bundle HG.out.ok HG.out.B (rb : Int) rfl (keyN 0) (keyN_len 0) kn_key0 1000 (by rw [HM.out];exact HM6.out));rw [HM.out] at hsc;refine hsc.mono ?_;clear hsc;rintro e W ⟨pq,cq,rfl,hto⟩;replace H := hto.front2 (R := [errA,rdA pz (u16V l),ownS 80 40 pp m cp (pairV pa)]) H;clear hto)))
   replace H : St NoBlk (fun _ => True) w _ (s.L ++ [errA,rdA pz (u16V l),ownS 80 40 pp m cp (pairV pa),ownS 80 40 pq m cq (pairV pa)]) := H
   go_loopw [20] (fun u wr => ∃ (i : Nat),u = .int .i64 (i : Int) ∧ i ≤ m ∧ St NoBlk (fun _ => True) w wr (s.L ++ [errA,rdA pz (u16V l),ownS 80 40 pp m cp (pairV pa),ownS 80 40 pq m cq (pairV pa)])) (fun u _ => m - (intOf u).toNat)
   case atStart => exact ⟨0,rfl,Nat.zero_le _,H⟩
   case round =>
    clear H
    obtain ⟨j,rfl,hj,H⟩ := hrel
    have hj0 : 0 ≤ (j : Int) := by omega
    rcases Nat.lt_or_ge j m with hlt | hge
    ·have hjj : (j : Int) < (m : Int) := by omega
     have HJ := Lib.hid hlt
     obtain ⟨p,hp⟩ : ∃ p,pa[j]? = some p := ⟨_,List.getElem?_eq_getElem (by rw [HM.out];exact hlt)⟩
     have HPJ := Lib.hid hp
     have HPK := Lib.hid (HOK.out p (List.mem_of_getElem? hp))
     obtain ⟨gp,op,e1,hc1⟩ := pairV_at (ownS_rd (H.at 9 rfl)) HOK.out j p hp
     obtain ⟨gq,oq,e2,hc2⟩ := pairV_at (ownS_rd (H.at 10 rfl)) HOK.out j p hp
     subst e1 e2
     have HPB := Lib.hid (show (byteV p.b).length = 40 by rw [byteV_length];exact sizePairs p HPK.out)
     clear hj hlt hp
     go_upto_region 24 with fail
     replace H := H.drew
     rcases Nat.eq_zero_or_pos j with hz | hz
     ·subst hz
      have hc3 : ∀ i u,(byteV p.b)[i]? = some u → wr.cell? ((⟨gp,op,none⟩ : Addr).add i) = some u := by simpa using hc1
      have hc4 : ∀ i u,(byteV p.b)[i]? = some u → wr.cell? ((⟨gq,oq,none⟩ : Addr).add i) = some u := by simpa using hc2
      have h0m : 0 < m := by have := HJ.out;omega
      refine wp_region_held_drew (S := fun w' => (∀ i u,(byteV p.b)[i]? = some u → w'.cell? ((⟨gp,op,none⟩ : Addr).add i) = some u) ∧ ∀ i u,(byteV p.b)[i]? = some u → w'.cell? ((⟨gq,oq,none⟩ : Addr).add i) = some u) (by kernel_rfl) ⟨hc3,hc4⟩ (fun hHeld => ?_)
      clear hc1 hc2 hc3 hc4
      (refine wpAnyH_take (i := 0) (v := ?_) rfl (by kernel_rfl) (by kernel_rfl) (by kernel_rfl) (fun _ _ _ h => h) (Or.inl ⟨by rfl,?_⟩) (by assumption) ?_;rotate_left;focus (intro w hSw;(try dsimp only at hSw);go_simp;all_goals (with_reducible rfl)));(try simp only [Act.put,rp1,rp2,rp3,rp4,rp5,rp6])
      (refine wpAnyH_take (i := 1) (v := ?_) rfl (by kernel_rfl) (by kernel_rfl) (by kernel_rfl) (fun _ _ _ h => h) (Or.inl ⟨by rfl,?_⟩) (by assumption) ?_;rotate_left;focus (intro w hSw;(try dsimp only at hSw);go_simp;all_goals (with_reducible rfl)));(try simp only [Act.put,rp1,rp2,rp3,rp4,rp5,rp6])
      (refine wpAnyH_take (i := 2) (v := ?_) rfl (by kernel_rfl) (by kernel_rfl) (by kernel_rfl) (fun _ _ _ h => h) (Or.inl ⟨by rfl,?_⟩) (by assumption) ?_;rotate_left;focus (intro w hSw;(try dsimp only at hSw);go_simp;all_goals (with_reducible rfl)));(try simp only [Act.put,rp1,rp2,rp3,rp4,rp5,rp6])
      (refine wpAnyH_take (i := 3) rfl (by kernel_rfl) (by kernel_rfl) (by kernel_rfl) (fun _ _ _ h => h) ((yieldsIf_cells (by rfl) 80 _ rfl ⟨gp,op,none⟩ (by rfl) (byteV p.b) _ Tryz.underlying80 rfl (by rw [sizeP,HPB.out]) (fun w h => h.1))) (by assumption) ?_);(try simp only [Act.put,rp1,rp2,rp3,rp4,rp5,rp6])
      (refine wpAnyH_take (i := 4) (v := ?_) rfl (by kernel_rfl) (by kernel_rfl) (by kernel_rfl) (fun _ _ _ h => h) (Or.inl ⟨by rfl,?_⟩) (by assumption) ?_;rotate_left;focus (intro w hSw;(try dsimp only at hSw);go_simp;all_goals (with_reducible rfl)));(try simp only [Act.put,rp1,rp2,rp3,rp4,rp5,rp6])
      (refine wpAnyH_take (i := 5) (v := ?_) rfl (by kernel_rfl) (by kernel_rfl) (by kernel_rfl) (fun _ _ _ h => h) (Or.inl ⟨by rfl,?_⟩) (by assumption) ?_;rotate_left;focus (intro w hSw;(try dsimp only at hSw);go_simp;all_goals (with_reducible rfl)));(try simp only [Act.put,rp1,rp2,rp3,rp4,rp5,rp6])
      (refine wpAnyH_take (i := 6) (v := ?_) rfl (by kernel_rfl) (by kernel_rfl) (by kernel_rfl) (fun _ _ _ h => h) (Or.inl ⟨by rfl,?_⟩) (by assumption) ?_;rotate_left;focus (intro w hSw;(try dsimp only at hSw);go_simp;all_goals (with_reducible rfl)));(try simp only [Act.put,rp1,rp2,rp3,rp4,rp5,rp6])
      (refine wpAnyH_take (i := 7) rfl (by kernel_rfl) (by kernel_rfl) (by kernel_rfl) (fun _ _ _ h => h) ((yieldsIf_cells (by rfl) 80 _ rfl ⟨gq,oq,none⟩ (by rfl) (byteV p.b) _ Tryz.underlying80 rfl (by rw [sizeP,HPB.out]) (fun w h => h.2))) (by assumption) ?_);(try simp only [Act.put,rp1,rp2,rp3,rp4,rp5,rp6])
      (refine wpAnyH_take (i := 8) rfl (by kernel_rfl) (by kernel_rfl) (by kernel_rfl) (fun _ _ _ h => h) ((yieldsIf_neqpair (by rfl) _ _ _ rfl p HPK.out (by rfl) (by rfl))) (by assumption) ?_);(try simp only [Act.put,rp1,rp2,rp3,rp4,rp5,rp6])
      (refine wpAnyH_take (i := 9) (v := ?_) rfl (by kernel_rfl) (by kernel_rfl) (by kernel_rfl) (fun _ _ _ h => h) (Or.inl ⟨by rfl,?_⟩) (by assumption) ?_;rotate_left;focus (intro w hSw;(try dsimp only at hSw);go_simp;all_goals (with_reducible rfl)));(try simp only [Act.put,rp1,rp2,rp3,rp4,rp5,rp6])
      (refine wpAnyH_take (i := 10) (v := ?_) rfl (by kernel_rfl) (by kernel_rfl) (by kernel_rfl) (fun _ _ _ h => h) (Or.inl ⟨by rfl,?_⟩) (by assumption) ?_;rotate_left;focus (intro w hSw;(try dsimp only at hSw);go_simp;all_goals (with_reducible rfl)));(try simp only [Act.put,rp1,rp2,rp3,rp4,rp5,rp6])
      (refine wpAnyH_take (i := 11) (v := ?_) rfl (by kernel_rfl) (by kernel_rfl) (by kernel_rfl) (fun _ _ _ h => h) (Or.inl ⟨by rfl,?_⟩) (by assumption) ?_;rotate_left;focus (intro w hSw;(try dsimp only at hSw);go_simp;all_goals (with_reducible rfl)));(try simp only [Act.put,rp1,rp2,rp3,rp4,rp5,rp6])
      (refine wpAnyH_take (i := 12) (v := ?_) rfl (by kernel_rfl) (by kernel_rfl) (by kernel_rfl) (fun _ _ _ h => h) (Or.inl ⟨by rfl,?_⟩) (by assumption) ?_;rotate_left;focus (intro w hSw;(try dsimp only at hSw);go_simp;all_goals (with_reducible rfl)));(try simp only [Act.put,rp1,rp2,rp3,rp4,rp5,rp6])
      (refine wpAnyH_take (i := 13) (v := undef) rfl (by kernel_rfl) (by kernel_rfl) (by kernel_rfl) (fun _ _ _ h => h) (Or.inr ⟨by rfl,rfl⟩) (by assumption) ?_);(try simp only [Act.put,rp1,rp2,rp3,rp4,rp5,rp6])
      (refine wpAnyH_take (i := 14) (v := undef) rfl (by kernel_rfl) (by kernel_rfl) (by kernel_rfl) (fun _ _ _ h => h) (Or.inr ⟨by rfl,rfl⟩) (by assumption) ?_);(try simp only [Act.put,rp1,rp2,rp3,rp4,rp5,rp6])
      (refine wpAnyH_take (i := 15) (v := undef) rfl (by kernel_rfl) (by kernel_rfl) (by kernel_rfl) (fun _ _ _ h => h) (Or.inr ⟨by rfl,rfl⟩) (by assumption) ?_);(try simp only [Act.put,rp1,rp2,rp3,rp4,rp5,rp6])
      (refine wpAnyH_take (i := 16) (v := undef) rfl (by kernel_rfl) (by kernel_rfl) (by kernel_rfl) (fun _ _ _ h => h) (Or.inr ⟨by rfl,rfl⟩) (by assumption) ?_);(try simp only [Act.put,rp1,rp2,rp3,rp4,rp5,rp6])
      (refine wpAnyH_take (i := 17) (v := undef) rfl (by kernel_rfl) (by kernel_rfl) (by kernel_rfl) (fun _ _ _ h => h) (Or.inr ⟨by rfl,rfl⟩) (by assumption) ?_);(try simp only [Act.put,rp1,rp2,rp3,rp4,rp5,rp6])
      (refine wpAnyH_take (i := 18) (v := undef) rfl (by kernel_rfl) (by kernel_rfl) (by kernel_rfl) (fun _ _ _ h => h) (Or.inr ⟨by rfl,rfl⟩) (by assumption) ?_);(try simp only [Act.put,rp1,rp2,rp3,rp4,rp5,rp6])
      (refine wpAnyH_take (i := 19) (v := undef) rfl (by kernel_rfl) (by kernel_rfl) (by kernel_rfl) (fun _ _ _ h => h) (Or.inr ⟨by rfl,rfl⟩) (by assumption) ?_);(try simp only [Act.put,rp1,rp2,rp3,rp4,rp5,rp6])
      (refine wpAnyH_take (i := 20) (v := undef) rfl (by kernel_rfl) (by kernel_rfl) (by kernel_rfl) (fun _ _ _ h => h) (Or.inr ⟨by rfl,rfl⟩) (by assumption) ?_);(try simp only [Act.put,rp1,rp2,rp3,rp4,rp5,rp6])
      (refine wpAnyH_take (i := 21) (v := undef) rfl (by kernel_rfl) (by kernel_rfl) (by kernel_rfl) (fun _ _ _ h => h) (Or.inr ⟨by rfl,rfl⟩) (by assumption) ?_);(try simp only [Act.put,rp1,rp2,rp3,rp4,rp5,rp6])
      (refine wpAnyH_take (i := 22) (v := undef) rfl (by kernel_rfl) (by kernel_rfl) (by kernel_rfl) (fun _ _ _ h => h) (Or.inr ⟨by rfl,rfl⟩) (by assumption) ?_);(try simp only [Act.put,rp1,rp2,rp3,rp4,rp5,rp6])
      (refine wpAnyH_take (i := 23) (v := undef) rfl (by kernel_rfl) (by kernel_rfl) (by kernel_rfl) (fun _ _ _ h => h) (Or.inr ⟨by rfl,rfl⟩) (by assumption) ?_);(try simp only [Act.put,rp1,rp2,rp3,rp4,rp5,rp6])
      (refine wpAnyH_take (i := 24) (v := undef) rfl (by kernel_rfl) (by kernel_rfl) (by kernel_rfl) (fun _ _ _ h => h) (Or.inr ⟨by rfl,rfl⟩) (by assumption) ?_);(try simp only [Act.put,rp1,rp2,rp3,rp4,rp5,rp6])
      (refine wpAnyH_take (i := 25) (v := undef) rfl (by kernel_rfl) (by kernel_rfl) (by kernel_rfl) (fun _ _ _ h => h) (Or.inr ⟨by rfl,rfl⟩) (by assumption) ?_);(try simp only [Act.put,rp1,rp2,rp3,rp4,rp5,rp6])
      (refine wpAnyH_take (i := 26) (v := ?_) rfl (by kernel_rfl) (by kernel_rfl) (by kernel_rfl) (fun _ _ _ h => h) (Or.inl ⟨by rfl,?_⟩) (by assumption) ?_;rotate_left;focus (intro w hSw;(try dsimp only at hSw);go_simp;all_goals (with_reducible rfl)));(try simp only [Act.put,rp1,rp2,rp3,rp4,rp5,rp6])
      (refine wpAnyH_take (i := 27) (v := ?_) rfl (by kernel_rfl) (by kernel_rfl) (by kernel_rfl) (fun _ _ _ h => h) (Or.inl ⟨by rfl,?_⟩) (by assumption) ?_;rotate_left;focus (intro w hSw;(try dsimp only at hSw);go_simp;all_goals (with_reducible rfl)));(try simp only [Act.put,rp1,rp2,rp3,rp4,rp5,rp6])
      (refine wpAnyH_done (by kernel_rfl) ?_ _)
      clear hHeld
      go_wp2
      go_roundw
      case rel => exact ⟨1,rfl,HJ.out,H⟩
      case measure => have := HJ.out;simp [intOf];omega
     ·have hjz : 0 < (j : Int) := by omega
      have hjd : decide (0 < (j : Int)) = true := decide_eq_true hjz
      obtain ⟨j0,hj0e⟩ : ∃ j0,j0 + 1 = j := ⟨j - 1,by omega⟩
      have hjs : (j : Int) - 1 = (j0 : Int) := by omega
      have hj00 : 0 ≤ (j0 : Int) := by omega
      have hw0 : IntKind.i64.wrap (j0 : Int) = (j0 : Int) := by rw [IntKind.wrap_i64];omega
      have hj0m : (j0 : Int) < (m : Int) := by omega
      obtain ⟨p0,hp0⟩ : ∃ p,pa[j0]? = some p := ⟨_,List.getElem?_eq_getElem (by rw [HM.out];have := HJ.out;omega)⟩
      have HPK0 := Lib.hid (HOK.out p0 (List.mem_of_getElem? hp0))
      have HLS := Lib.hid (show decide (kn p0.k < kn p.k) = true by
       have h1 := List.pairwise_iff_getElem.1 HRS.out j0 j (by rw [HM.out];have := HJ.out;omega) (by rw [HM.out];exact HJ.out) (by omega)
       rw [(List.getElem?_eq_some_iff.1 hp0).2,(List.getElem?_eq_some_iff.1 HPJ.out).2] at h1
       exact decide_eq_true h1)
      have hd1 := pairV_cells (ownS_rd (H.at 9 rfl)) HOK.out j0 p0 hp0
      have HP0 := Lib.hid hp0
      clear hp0 hz
      refine wp_region_held_drew (S := fun w' => ((∀ i u,(byteV p.b)[i]? = some u → w'.cell? ((⟨gp,op + j * 40,none⟩ : Addr).add i) = some u) ∧ ∀ i u,(byteV p.b)[i]? = some u → w'.cell? ((⟨gq,oq + j * 40,none⟩ : Addr).add i) = some u) ∧ ∀ i u,(byteV p0.b)[i]? = some u → w'.cell? ((⟨gp,op + j0 * 40,none⟩ : Addr).add i) = some u) (by kernel_rfl) ⟨⟨hc1,hc2⟩,hd1⟩ (fun hHeld => ?_)
      clear hc1 hc2 hd1
      (refine wpAnyH_take (i := 0) (v := ?_) rfl (by kernel_rfl) (by kernel_rfl) (by kernel_rfl) (fun _ _ _ h => h) (Or.inl ⟨by rfl,?_⟩) (by assumption) ?_;rotate_left;focus (intro w hSw;(try dsimp only at hSw);go_simp;all_goals (with_reducible rfl)));(try simp only [Act.put,rp1,rp2,rp3,rp4,rp5,rp6])
      (refine wpAnyH_take (i := 1) (v := ?_) rfl (by kernel_rfl) (by kernel_rfl) (by kernel_rfl) (fun _ _ _ h => h) (Or.inl ⟨by rfl,?_⟩) (by assumption) ?_;rotate_left;focus (intro w hSw;(try dsimp only at hSw);go_simp;all_goals (with_reducible rfl)));(try simp only [Act.put,rp1,rp2,rp3,rp4,rp5,rp6])
      (refine wpAnyH_take (i := 2) (v := ?_) rfl (by kernel_rfl) (by kernel_rfl) (by kernel_rfl) (fun _ _ _ h => h) (Or.inl ⟨by rfl,?_⟩) (by assumption) ?_;rotate_left;focus (intro w hSw;(try dsimp only at hSw);go_simp;all_goals (with_reducible rfl)));(try simp only [Act.put,rp1,rp2,rp3,rp4,rp5,rp6])
      (refine wpAnyH_take (i := 3) rfl (by kernel_rfl) (by kernel_rfl) (by kernel_rfl) (fun _ _ _ h => h) ((yieldsIf_cells (by rfl) 80 _ rfl ⟨gp,op + j * 40,none⟩ (by rfl) (byteV p.b) _ Tryz.underlying80 rfl (by rw [sizeP,HPB.out]) (fun w h => h.1.1))) (by assumption) ?_);(try simp only [Act.put,rp1,rp2,rp3,rp4,rp5,rp6])
      (refine wpAnyH_take (i := 4) (v := ?_) rfl (by kernel_rfl) (by kernel_rfl) (by kernel_rfl) (fun _ _ _ h => h) (Or.inl ⟨by rfl,?_⟩) (by assumption) ?_;rotate_left;focus (intro w hSw;(try dsimp only at hSw);go_simp;all_goals (with_reducible rfl)));(try simp only [Act.put,rp1,rp2,rp3,rp4,rp5,rp6])
      (refine wpAnyH_take (i := 5) (v := ?_) rfl (by kernel_rfl) (by kernel_rfl) (by kernel_rfl) (fun _ _ _ h => h) (Or.inl ⟨by rfl,?_⟩) (by assumption) ?_;rotate_left;focus (intro w hSw;(try dsimp only at hSw);go_simp;all_goals (with_reducible rfl)));(try simp only [Act.put,rp1,rp2,rp3,rp4,rp5,rp6])
      (refine wpAnyH_take (i := 6) (v := ?_) rfl (by kernel_rfl) (by kernel_rfl) (by kernel_rfl) (fun _ _ _ h => h) (Or.inl ⟨by rfl,?_⟩) (by assumption) ?_;rotate_left;focus (intro w hSw;(try dsimp only at hSw);go_simp;all_goals (with_reducible rfl)));(try simp only [Act.put,rp1,rp2,rp3,rp4,rp5,rp6])
      (refine wpAnyH_take (i := 7) rfl (by kernel_rfl) (by kernel_rfl) (by kernel_rfl) (fun _ _ _ h => h) ((yieldsIf_cells (by rfl) 80 _ rfl ⟨gq,oq + j * 40,none⟩ (by rfl) (byteV p.b) _ Tryz.underlying80 rfl (by rw [sizeP,HPB.out]) (fun w h => h.1.2))) (by assumption) ?_);(try simp only [Act.put,rp1,rp2,rp3,rp4,rp5,rp6])
      (refine wpAnyH_take (i := 8) rfl (by kernel_rfl) (by kernel_rfl) (by kernel_rfl) (fun _ _ _ h => h) ((yieldsIf_neqpair (by rfl) _ _ _ rfl p HPK.out (by rfl) (by rfl))) (by assumption) ?_);(try simp only [Act.put,rp1,rp2,rp3,rp4,rp5,rp6])
      (refine wpAnyH_take (i := 9) (v := ?_) rfl (by kernel_rfl) (by kernel_rfl) (by kernel_rfl) (fun _ _ _ h => h) (Or.inl ⟨by rfl,?_⟩) (by assumption) ?_;rotate_left;focus (intro w hSw;(try dsimp only at hSw);go_simp;all_goals (with_reducible rfl)));(try simp only [Act.put,rp1,rp2,rp3,rp4,rp5,rp6])
      (refine wpAnyH_take (i := 10) (v := ?_) rfl (by kernel_rfl) (by kernel_rfl) (by kernel_rfl) (fun _ _ _ h => h) (Or.inl ⟨by rfl,?_⟩) (by assumption) ?_;rotate_left;focus (intro w hSw;(try dsimp only at hSw);go_simp;all_goals (with_reducible rfl)));(try simp only [Act.put,rp1,rp2,rp3,rp4,rp5,rp6])
      (refine wpAnyH_take (i := 11) (v := .bool true) rfl (by kernel_rfl) (by kernel_rfl) (by kernel_rfl) (fun _ _ _ h => h) (Or.inl ⟨by rfl,?_⟩) (by assumption) ?_;focus (intro w hSw;(try dsimp only at hSw);go_simp;all_goals (first | (with_reducible rfl) | (simp [hjz];done) | (rw [hjd];rfl) | omega)));(try simp only [Act.put,rp1,rp2,rp3,rp4,rp5,rp6])
      (refine wpAnyH_take (i := 12) (v := ?_) rfl (by kernel_rfl) (by kernel_rfl) (by kernel_rfl) (fun _ _ _ h => h) (Or.inl ⟨by rfl,?_⟩) (by assumption) ?_;rotate_left;focus (intro w hSw;(try dsimp only at hSw);go_simp;all_goals (with_reducible rfl)));(try simp only [Act.put,rp1,rp2,rp3,rp4,rp5,rp6])
      (refine wpAnyH_take (i := 13) (v := ?_) rfl (by kernel_rfl) (by kernel_rfl) (by kernel_rfl) (fun _ _ _ h => h) (Or.inl ⟨by rfl,?_⟩) (by assumption) ?_;rotate_left;focus (intro w hSw;(try dsimp only at hSw);go_simp;all_goals (with_reducible rfl)));(try simp only [Act.put,rp1,rp2,rp3,rp4,rp5,rp6])
      (refine wpAnyH_take (i := 14) (v := ?_) rfl (by kernel_rfl) (by kernel_rfl) (by kernel_rfl) (fun _ _ _ h => h) (Or.inl ⟨by rfl,?_⟩) (by assumption) ?_;rotate_left;focus (intro w hSw;(try dsimp only at hSw);go_simp;all_goals (with_reducible rfl)));(try simp only [Act.put,rp1,rp2,rp3,rp4,rp5,rp6])
      (refine wpAnyH_take (i := 15) (v := ?_) rfl (by kernel_rfl) (by kernel_rfl) (by kernel_rfl) (fun _ _ _ h => h) (Or.inl ⟨by rfl,?_⟩) (by assumption) ?_;rotate_left;focus (intro w hSw;(try dsimp only at hSw);go_simp;all_goals (with_reducible rfl)));(try simp only [Act.put,rp1,rp2,rp3,rp4,rp5,rp6])
      (refine wpAnyH_take (i := 16) (v := ?_) rfl (by kernel_rfl) (by kernel_rfl) (by kernel_rfl) (fun _ _ _ h => h) (Or.inl ⟨by rfl,?_⟩) (by assumption) ?_;rotate_left;focus (intro w hSw;(try dsimp only at hSw);go_simp;all_goals (with_reducible rfl)));(try simp only [Act.put,rp1,rp2,rp3,rp4,rp5,rp6])
      (refine wpAnyH_take (i := 17) (v := ?_) rfl (by kernel_rfl) (by kernel_rfl) (by kernel_rfl) (fun _ _ _ h => h) (Or.inl ⟨by rfl,?_⟩) (by assumption) ?_;rotate_left;focus (intro w hSw;(try dsimp only at hSw);go_simp;all_goals (with_reducible rfl)));(try simp only [Act.put,rp1,rp2,rp3,rp4,rp5,rp6])
      (refine wpAnyH_take (i := 18) rfl (by kernel_rfl) (by kernel_rfl) (by kernel_rfl) (fun _ _ _ h => h) ((yieldsIf_cells (by rfl) 67 _ rfl ⟨gp,op + j0 * 40,none⟩ (by rfl) (byteV p0.k) _ Tryz.underlying67 rfl (by rw [sizeK,byteV_length,HPK0.out.k]) (fun w h => key_of_cells h.2))) (by assumption) ?_);(try simp only [Act.put,rp1,rp2,rp3,rp4,rp5,rp6])
      (refine wpAnyH_take (i := 19) (v := ?_) rfl (by kernel_rfl) (by kernel_rfl) (by kernel_rfl) (fun _ _ _ h => h) (Or.inl ⟨by rfl,?_⟩) (by assumption) ?_;rotate_left;focus (intro w hSw;(try dsimp only at hSw);go_simp;all_goals (with_reducible rfl)));(try simp only [Act.put,rp1,rp2,rp3,rp4,rp5,rp6])
      (refine wpAnyH_take (i := 20) (v := ?_) rfl (by kernel_rfl) (by kernel_rfl) (by kernel_rfl) (fun _ _ _ h => h) (Or.inl ⟨by rfl,?_⟩) (by assumption) ?_;rotate_left;focus (intro w hSw;(try dsimp only at hSw);go_simp;all_goals (with_reducible rfl)));(try simp only [Act.put,rp1,rp2,rp3,rp4,rp5,rp6])
      (refine wpAnyH_take (i := 21) (v := ?_) rfl (by kernel_rfl) (by kernel_rfl) (by kernel_rfl) (fun _ _ _ h => h) (Or.inl ⟨by rfl,?_⟩) (by assumption) ?_;rotate_left;focus (intro w hSw;(try dsimp only at hSw);go_simp;all_goals (with_reducible rfl)));(try simp only [Act.put,rp1,rp2,rp3,rp4,rp5,rp6])
      (refine wpAnyH_take (i := 22) (v := ?_) rfl (by kernel_rfl) (by kernel_rfl) (by kernel_rfl) (fun _ _ _ h => h) (Or.inl ⟨by rfl,?_⟩) (by assumption) ?_;rotate_left;focus (intro w hSw;(try dsimp only at hSw);go_simp;all_goals (with_reducible rfl)));(try simp only [Act.put,rp1,rp2,rp3,rp4,rp5,rp6])
      (refine wpAnyH_take (i := 23) rfl (by kernel_rfl) (by kernel_rfl) (by kernel_rfl) (fun _ _ _ h => h) ((yieldsIf_cells (by rfl) 67 _ rfl ⟨gp,op + j * 40,none⟩ (by rfl) (byteV p.k) _ Tryz.underlying67 rfl (by rw [sizeK,byteV_length,HPK.out.k]) (fun w h => key_of_cells h.1.1))) (by assumption) ?_);(try simp only [Act.put,rp1,rp2,rp3,rp4,rp5,rp6])
      (refine wpAnyH_ready (rs := [24]) (by kernel_rfl) (by simp) (AllReadyH.cons rfl (fun K hK => ?_) AllReadyH.nil));(rw [if_pos (by rfl)]);(go_simp;go_at_call 46;(refine (less21_calls p0.k p.k HPK0.out.k HPK.out.k _).mono ?_);rintro e W1 ⟨rfl,hb⟩;rw [HLS.out];replace H := H.stay (Fix.of_below hb _);clear hb;(try go_wp2_with fail);refine hK.out _ _ ⟨⟨pairV_cells (ownS_rd (H.at 9 rfl)) HOK.out j p HPJ.out,pairV_cells (ownS_rd (H.at 10 rfl)) HOK.out j p HPJ.out⟩,pairV_cells (ownS_rd (H.at 9 rfl)) HOK.out j0 p0 HP0.out⟩ (fun hHeld2 => ?_);clear hK K)
      (try simp only [Act.put,rp1,rp2,rp3,rp4,rp5,rp6])
      (refine wpAnyH_take (i := 25) (v := ?_) rfl (by kernel_rfl) (by kernel_rfl) (by kernel_rfl) (fun _ _ _ h => h) (Or.inl ⟨by rfl,?_⟩) (by assumption) ?_;rotate_left;focus (intro w hSw;(try dsimp only at hSw);go_simp;all_goals (with_reducible rfl)));(try simp only [Act.put,rp1,rp2,rp3,rp4,rp5,rp6])
      (refine wpAnyH_take (i := 26) (v := ?_) rfl (by kernel_rfl) (by kernel_rfl) (by kernel_rfl) (fun _ _ _ h => h) (Or.inl ⟨by rfl,?_⟩) (by assumption) ?_;rotate_left;focus (intro w hSw;(try dsimp only at hSw);go_simp;all_goals (with_reducible rfl)));(try simp only [Act.put,rp1,rp2,rp3,rp4,rp5,rp6])
      (refine wpAnyH_take (i := 27) (v := ?_) rfl (by kernel_rfl) (by kernel_rfl) (by kernel_rfl) (fun _ _ _ h => h) (Or.inl ⟨by rfl,?_⟩) (by assumption) ?_;rotate_left;focus (intro w hSw;(try dsimp only at hSw);go_simp;all_goals (with_reducible rfl)));(try simp only [Act.put,rp1,rp2,rp3,rp4,rp5,rp6])
      (refine wpAnyH_done (by kernel_rfl) ?_ _)
      clear hHeld hHeld2
      go_wp2
      go_roundw
      case rel => exact ⟨j + 1,congrArg _ (by omega),HJ.out,H⟩
      case measure => have := HJ.out;simp [intOf];omega
    ·obtain rfl : j = m := by omega
     go_wp2
     go_ret
     exact ⟨rfl,H.fix.below⟩
end Go.Proofs.YtlgciddnpinpbaaGreatDoor
