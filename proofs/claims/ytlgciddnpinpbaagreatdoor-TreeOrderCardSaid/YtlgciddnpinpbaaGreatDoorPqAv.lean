/- Texts of this proof, packed. -/
import Derived.Test.YtlgciddnpinpbaaGreatDoorPkBase4
set_option linter.unusedSimpArgs false
set_option linter.unusedVariables false
namespace Go.Proofs.YtlgciddnpinpbaaGreatDoor
open Go.ChangeShapes Go.WideShapes Go.ChangeAt Go.RowKit
set_option maxRecDepth 40000
theorem open_u16A {H : Type} {enc : TypeId × Value → H} {W : World} {base : Nat} {v : Value} {d : DataW H} {p : List MemPlace} (hval : Value.okWide Tryz.prog W .any base 53 v) (h : DataW.Trod enc Tryz.prog W 0 (fun _ => true) true 53 v d p) :
  ∃ q l cap,v = .slice q (List.length l) cap ∧ (rdA q (l.map (Value.int .u16))).prop W ∧ ∀ z ∈ l,0 ≤ z ∧ z ≤ 65535 := by
 obtain ⟨a1,len,cap,rfl⟩ := okWide_slice Tryz.underlying53 hval
 obtain ⟨fuel,hf⟩ := h
 have hc : Tryz.prog.cellsOf 57 = 1 := by kernel_rfl
 rcases open_ints Tryz.underlying53 Tryz.underlying57 hc hf with ⟨hcs,hx⟩ | ⟨a,len',cap',zs,hcs,_,hl,hm,hz,hx,hcell,hwz⟩
 ·simp [Value.cells] at hcs
  obtain ⟨rfl,rfl,rfl⟩ := hcs
  exact ⟨none,[],0,rfl,.inl rfl,fun z hz => (List.not_mem_nil hz).elim⟩
 ·simp [Value.cells] at hcs
  obtain ⟨rfl,rfl,rfl⟩ := hcs
  simp only [if_true] at hz
  have hlen : (zs.take len).length = len := by simp;omega
  refine ⟨some a,zs.take len,cap,by rw [hlen],?_,fun z hz => bounds_u16 (hwz z (List.mem_of_mem_take hz))⟩
  by_cases h0 : len = 0
  ·left;subst h0;simp
  ·obtain ⟨ab,ao,spot⟩ := a
   have hspot : spot = none := by simpa [Addr.add] using World.cell?_spot (hcell 0 (by omega))
   subst hspot
   refine .inr ⟨ab,ao,rfl,?_,fun i x hi => ?_⟩
   ·have := World.block_lt_of_cell? W _ (hcell 0 (by omega))
    simpa [Addr.add] using this
   ·have hi1 : i < len := by have := (List.getElem?_eq_some_iff.1 hi).1;simp only [List.length_map] at this;simp at this;omega
    have hci := hcell i (by omega)
    rw [Addr.add_lit] at hci
    rw [hci]
    have hzi : i < zs.length := by omega
    simp only [List.getElem?_map,List.getElem?_take_of_lt hi1,List.getElem?_eq_getElem hzi,Option.map_some,Option.some.injEq] at hi
    rw [← hi,List.getD_eq_getElem?_getD,List.getElem?_eq_getElem hzi,Option.getD_some]
end Go.Proofs.YtlgciddnpinpbaaGreatDoor
