/- Texts of this proof, packed. -/
import Derived.Test.YtlgciddnpinpbaaGreatDoorPkBase4
import Derived.Test.YtlgciddnpinpbaaGreatDoorPqC
set_option linter.unusedSimpArgs false
set_option linter.unusedVariables false
namespace Go.Proofs.YtlgciddnpinpbaaGreatDoor
open Go.RowKit
set_option maxRecDepth 40000
set_option maxHeartbeats 8000000 in
theorem cloneP {M0 R0 : Nat → Prop} {w0 w : World} {L : List Asrt} (H : St M0 R0 w0 w L) (ix : Nat) {A : Asrt} (hA : L[ix]? = some A) (ad : Addr) (n cap : Nat) (xs : List Value) (hn : 0 < n) (hn9 : n ≤ 100) (hxl : xs.length = n * 40) (hx : ∀ W,A.prop W → ∀ j u,xs[j]? = some u → W.cell? (ad.add j) = some u) (hx1 : ∀ u ∈ xs,u.oneCell' = true) :
  Calls Tryz.prog 181 #[.slice (some ad) n cap] w fun e w' => ∃ g' cap',e = .returned (.slice (some ⟨g',0,none⟩) n cap') ∧ St M0 R0 w0 w' (L ++ [ownS 80 40 (some ⟨g',0,none⟩) n cap' xs]) := by
 have HX := Lib.hid hx
 have HXL := Lib.hid hxl
 have HA := Lib.hid hA
 have hil : ix < L.length := (List.getElem?_eq_some_iff.1 hA).1
 clear hx hxl hA
 have tok1 : True := trivial
 go_enter Tryz.func181,Tryz.ntmps181
 go_upto_region 3 with (first
  | (refine wpList_eqlnil rfl 76 _ _ _ rfl _ _ _ rfl rfl _ Tryz.underlying76 ?_))
 go_wp2_with (first
  | (have _t := tok1;clear _t;refine wpList_buildslice0_st H rfl 76 80 rfl Tryz.underlying76 _ sizeP ?_;go_loud (clear H tok1;intro W g H;replace H := St.blkOwn (e := 80) (g := g) H L.length (cs := []) 40 0 0 (by rw [List.getElem?_append_right (Nat.le_refl _),Nat.sub_self];rfl) (Nat.le_refl _) (by simp only [maxLen];omega) (by rw [Nat.zero_mul];rfl);have HA2 := H.at ix (A := A) (by rw [List.getElem?_set_ne (by omega),List.getElem?_append_left hil];exact HA.out)))
  | (at_builtin;go_loud (refine wpList_append_ownS H L.length rfl _ _ 76 rfl _ Tryz.underlying76 _ 40 40 infoP rfl (by omega) (some ⟨g,0,none⟩) 0 0 rfl [] (by simp) ad n _ rfl xs (by have := HXL.out;omega) (fun j u hu => HX.out _ HA2 j u hu) hx1 hn (by simp only [maxLen];omega) (by omega) ?_);clear H;intro W1 g' cap' H))
 go_ret
 refine ⟨g',cap',by first | rfl | rw [Nat.zero_add] | simp,?_⟩
 rw [List.nil_append,Nat.zero_add] at H
 have e : ((L ++ [blk g (Obj.cells #[] 80)]).set L.length (ownS 80 40 (some ⟨g,0,none⟩) 0 0 (List.take (0 * 40) []))).set L.length (ownS 80 40 (some ⟨g',0,none⟩) n cap' xs) = L ++ [ownS 80 40 (some ⟨g',0,none⟩) n cap' xs] := by simp
 rw [e] at H
 exact H
set_option maxHeartbeats 8000000 in
theorem cloneK {M0 R0 : Nat → Prop} {w0 w : World} {L : List Asrt} (H : St M0 R0 w0 w L) (ix : Nat) {A : Asrt} (hA : L[ix]? = some A) (ad : Addr) (n cap : Nat) (xs : List Value) (hn : 0 < n) (hn9 : n ≤ 100) (hxl : xs.length = n * 32) (hx : ∀ W,A.prop W → ∀ j u,xs[j]? = some u → W.cell? (ad.add j) = some u) (hx1 : ∀ u ∈ xs,u.oneCell' = true) :
  Calls Tryz.prog 182 #[.slice (some ad) n cap] w fun e w' => ∃ g' cap',e = .returned (.slice (some ⟨g',0,none⟩) n cap') ∧ St M0 R0 w0 w' (L ++ [ownS 67 32 (some ⟨g',0,none⟩) n cap' xs]) := by
 have HX := Lib.hid hx
 have HXL := Lib.hid hxl
 have HA := Lib.hid hA
 have hil : ix < L.length := (List.getElem?_eq_some_iff.1 hA).1
 clear hx hxl hA
 have tok1 : True := trivial
 go_enter Tryz.func182,Tryz.ntmps182
 go_upto_region 3 with (first
  | (refine wpList_eqlnil rfl 147 _ _ _ rfl _ _ _ rfl rfl _ Tryz.underlying147 ?_))
 go_wp2_with (first
  | (have _t := tok1;clear _t;refine wpList_buildslice0_st H rfl 147 67 rfl Tryz.underlying147 _ sizeK ?_;go_loud (clear H tok1;intro W g H;replace H := St.blkOwn (e := 67) (g := g) H L.length (cs := []) 32 0 0 (by rw [List.getElem?_append_right (Nat.le_refl _),Nat.sub_self];rfl) (Nat.le_refl _) (by simp only [maxLen];omega) (by rw [Nat.zero_mul];rfl);have HA2 := H.at ix (A := A) (by rw [List.getElem?_set_ne (by omega),List.getElem?_append_left hil];exact HA.out)))
  | (at_builtin;go_loud (refine wpList_append_ownS H L.length rfl _ _ 147 rfl _ Tryz.underlying147 _ 32 32 infoK rfl (by omega) (some ⟨g,0,none⟩) 0 0 rfl [] (by simp) ad n _ rfl xs (by have := HXL.out;omega) (fun j u hu => HX.out _ HA2 j u hu) hx1 hn (by simp only [maxLen];omega) (by omega) ?_);clear H;intro W1 g' cap' H))
 go_ret
 refine ⟨g',cap',by first | rfl | rw [Nat.zero_add] | simp,?_⟩
 rw [List.nil_append,Nat.zero_add] at H
 have e : ((L ++ [blk g (Obj.cells #[] 67)]).set L.length (ownS 67 32 (some ⟨g,0,none⟩) 0 0 (List.take (0 * 32) []))).set L.length (ownS 67 32 (some ⟨g',0,none⟩) n cap' xs) = L ++ [ownS 67 32 (some ⟨g',0,none⟩) n cap' xs] := by simp
 rw [e] at H
 exact H
set_option maxHeartbeats 8000000 in
theorem cloneI {M0 R0 : Nat → Prop} {w0 w : World} {L : List Asrt} (H : St M0 R0 w0 w L) (ix : Nat) {A : Asrt} (hA : L[ix]? = some A) (ad : Addr) (n cap : Nat) (xs : List Value) (hn : 0 < n) (hn9 : n ≤ 100) (hxl : xs.length = n) (hx : ∀ W,A.prop W → ∀ j u,xs[j]? = some u → W.cell? (ad.add j) = some u) (hx1 : ∀ u ∈ xs,u.oneCell' = true) :
  Calls Tryz.prog 183 #[.slice (some ad) n cap] w fun e w' => ∃ g' cap',e = .returned (.slice (some ⟨g',0,none⟩) n cap') ∧ St M0 R0 w0 w' (L ++ [ownS 3 1 (some ⟨g',0,none⟩) n cap' xs]) := by
 have HX := Lib.hid hx
 have HXL := Lib.hid hxl
 have HA := Lib.hid hA
 have hil : ix < L.length := (List.getElem?_eq_some_iff.1 hA).1
 clear hx hxl hA
 have tok1 : True := trivial
 go_enter Tryz.func183,Tryz.ntmps183
 go_upto_region 3 with (first
  | (refine wpList_eqlnil rfl 72 _ _ _ rfl _ _ _ rfl rfl _ Tryz.underlying72 ?_))
 go_wp2_with (first
  | (have _t := tok1;clear _t;refine wpList_buildslice0_st H rfl 72 3 rfl Tryz.underlying72 _ sizeI ?_;go_loud (clear H tok1;intro W g H;replace H := St.blkOwn (e := 3) (g := g) H L.length (cs := []) 1 0 0 (by rw [List.getElem?_append_right (Nat.le_refl _),Nat.sub_self];rfl) (Nat.le_refl _) (by simp only [maxLen];omega) (by rw [Nat.zero_mul];rfl);have HA2 := H.at ix (A := A) (by rw [List.getElem?_set_ne (by omega),List.getElem?_append_left hil];exact HA.out)))
  | (at_builtin;go_loud (refine wpList_append_ownS H L.length rfl _ _ 72 rfl _ Tryz.underlying72 _ 1 8 infoI rfl (by omega) (some ⟨g,0,none⟩) 0 0 rfl [] (by simp) ad n _ rfl xs (by have := HXL.out;omega) (fun j u hu => HX.out _ HA2 j u hu) hx1 hn (by simp only [maxLen];omega) (by omega) ?_);clear H;intro W1 g' cap' H))
 go_ret
 refine ⟨g',cap',by first | rfl | rw [Nat.zero_add] | simp,?_⟩
 rw [List.nil_append,Nat.zero_add] at H
 have e : ((L ++ [blk g (Obj.cells #[] 3)]).set L.length (ownS 3 1 (some ⟨g,0,none⟩) 0 0 (List.take (0 * 1) []))).set L.length (ownS 3 1 (some ⟨g',0,none⟩) n cap' xs) = L ++ [ownS 3 1 (some ⟨g',0,none⟩) n cap' xs] := by simp
 rw [e] at H
 exact H
end Go.Proofs.YtlgciddnpinpbaaGreatDoor
