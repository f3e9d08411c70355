/- NamesKeys: for every 32 bytes the law returns true, and they read as they did. The card is tied: the two tables of package utf8 are what the text of the program lays. -/
import Derived.Test.YtoomcbmaahhldaaDoorNmL2
import Derived.Test.YtoomcbmaahhldaaDoorCards
import Derived.Test.YtoomcbmaahhldaaDoorTie
import Derived.ProofKit
import Derived.OpenShut
import Derived.LaidMore
import Derived.Lay
import Derived.SevenTiedAt
import Derived.Stop.Joined
namespace Go.Proofs.YtoomcbmaahhldaaDoor
open Go.ChangeShapes Go.WideShapes Go.ChangeAt Go.RowKit
open Go.ChangeMaps (open_string shut_string)
set_option linter.unusedSimpArgs false
set_option linter.unusedVariables false

theorem own : ownKnob Tryd.prog.godebug = none := by kernel_rfl
theorem laidOut : laidOutB Tryd.prog = true := by kernel_rfl

theorem open_arr32 {H : Type} {enc : TypeId × Value → H} {W : World} {r : Reach} {b0 base : Nat} {spare : Nat → Bool} {held : Bool} {v : Value} {d : DataW H} {p : List MemPlace}
    (hv : Value.okWide Tryd.prog W r b0 23 v) (h : DataW.Trod enc Tryd.prog W base spare held 23 v d p) : ∃ l : List UInt8, v = arrV l ∧ l.length = 32 := by
  have hv' : ∃ cs, v = .agg cs ∧ cs.size = Tryd.prog.cellsOf 23 ∧ Row.okWide Tryd.prog W r b0 23 cs := by
    unfold Value.okWide at hv; rw [Tryd.underlying23] at hv; exact hv
  obtain ⟨cs, rfl, hsz, _⟩ := hv'
  have h32 : Tryd.prog.cellsOf 23 = 32 := by kernel_rfl
  have h1 : Tryd.prog.cellsOf 5 = 1 := by kernel_rfl
  rw [h32] at hsz
  obtain ⟨fuel, hf⟩ := h
  obtain ⟨xs, m, _, _, _, _, hel⟩ := DataW.trod_array Tryd.underlying23 hf
  have hcell : ∀ i, (hi : i < 32) → ∃ u : UInt8, cs.toList[i]? = some (.int .u8 (u.toNat : Int)) := by
    intro i hi
    have hE := hel i hi
    rw [h1, Nat.mul_one] at hE
    have hxi : i < xs.length := by omega
    rw [List.getElem?_eq_getElem hxi] at hE
    obtain ⟨z, e1, e2, e3⟩ := DataW.trod_int Tryd.underlying5 hE
    have hz := bounds_u8 (by simpa using e3)
    refine ⟨UInt8.ofNat z.toNat, ?_⟩
    have hz' : ((UInt8.ofNat z.toNat).toNat : Int) = z := by rw [UInt8.toNat_ofNat']; omega
    rw [hz']
    have h0 : ((cs.toList.drop i).take 1)[0]? = some (.int .u8 z) := by
      have : (Value.agg cs).cells.toList = cs.toList := rfl
      rw [← this, e1]; rfl
    simpa using h0
  refine ⟨(List.range 32).map fun i => match cs.toList[i]? with | some (Value.int _ z) => UInt8.ofNat z.toNat | _ => 0, ?_, by simp⟩
  unfold arrV
  congr 1
  apply Array.ext'
  apply List.ext_getElem?
  intro i
  by_cases hi : i < 32
  · obtain ⟨u, hu⟩ := hcell i hi
    have hu' : cs[i]? = some (.int .u8 (u.toNat : Int)) := by simpa using hu
    rw [hu]
    simp [byteV, hi, hu']
  · rw [List.getElem?_eq_none (by simp [hsz]; omega), List.getElem?_eq_none (by simp [byteV]; omega)]

set_option maxRecDepth 100000 in
theorem namesKeys_lifted (os : Os) (started : os.Started) (H : Type) (enc : TypeId × Value → H) :
    ReturnsInHanded {} Tryd.checked os 4 .any (fun w args => (Rows.namesKeysSpec.pre enc Tryd.prog Tryd.f4 Rows.namesKeysRow.domain false w args ∧ laidMetH Tryd.prog Rows.namesKeysRow.laid w) ∧ sizedMet enc Tryd.prog Tryd.f4 (OpenSpec.ofChange Rows.namesKeysSpec) false w args)
      (Rows.namesKeysSpec.post enc Tryd.prog Tryd.f4 false true false false) := by
  refine returnsInHanded_of_change_and (C := Tryd.checked) (X := fun w _ => laidMetH Tryd.prog Rows.namesKeysRow.laid w) (fun _ _ _ hh h => h.of_heap hh) own started (by kernel_rfl) Tryd.func4
    (ChangeSpec.witness_shaped (enc := enc) (C := Tryd.checked) (os := os) (X := fun w _ => laidMetH Tryd.prog Rows.namesKeysRow.laid w) false (World.laidAll Tryd.prog os Rows.namesKeysRow.laid) #[arrV noKey] 8 (World.laidAll_os _ _ _)
      (World.shaped_of_ZipB (by kernel_rfl) (by kernel_rfl)) (by kernel_rfl) (by kernel_rfl) (by kernel_rfl)
      (by rw [MakeChecks.laidMetH_plain _ _ _ (by kernel_rfl)]; exact laidMet_laidAll _ (by kernel_rfl) (by kernel_rfl))) ?_
  intro W base args ds gs before hval0 hW hc _ hL _
  have hval : ∀ (j : Nat) t v, Tryd.f4.params[j]? = some t → args[j]? = some v → Value.okWide Tryd.prog W .any base t v := hval0
  have hW' := hW
  obtain ⟨p, q, hA0, hV, rfl, _, _⟩ := hW
  have hA : DataW.TrodAll enc Tryd.prog W 0 (fun _ => true) true Tryd.f4.params.toList args.toList ds p := hA0
  rw [Tryd.params4] at hA hval
  obtain ⟨v0, vs0, d0, ds0, p0, q0, hargs, rfl, rfl, h0, r0⟩ := trodAll_cons hA
  obtain ⟨rfl, rfl, rfl⟩ := trodAll_nil r0
  have hargs' : args = #[v0] := Array.toList_inj.1 hargs
  subst hargs'
  obtain ⟨rfl, rfl⟩ := trodVars_none hV
  simp only [List.append_nil] at hW'
  have hlt0 : ∀ x ∈ p0, x.block < W.heap.size := fun x hx => hW'.lt x (by simp [hx])
  have k0 := h0
  obtain ⟨x0, rfl, w0⟩ := open_arr32 (hval 0 23 v0 rfl rfl) h0
  refine (namesKeys_calls x0 w0 W).mono fun e W' ⟨he, hb⟩ => ?_
  subst he
  refine ⟨_, rfl, _, _, _, [], (p0 ++ []), [], hW', ?_, ?_, ?_, hb.frame _, fun h => by cases h⟩
  · exact trodAll_mk1 (shut_bool Tryd.underlying4 true)
  · exact (trodAll_cons_mk (Below.trod laidOut (by kernel_rfl) (of_decide_eq_true (by kernel_rfl)) k0 hb hlt0) trodAll_mk0)
  · rfl

theorem namesKeys_holds : Rows.NamesKeysSaid :=
  OpenClaim.holds_of_wide 4 Tryd.f4 rfl rfl rfl rfl rfl rfl rfl ⟨rfl, rfl, rfl, rfl, rfl⟩ rfl rfl rfl rfl rfl (by kernel_rfl) Tryd.func4 (by kernel_rfl)
    (of_decide_eq_true (by kernel_rfl)) (by unfold Func.isWrapper; rw [if_neg (of_decide_eq_false (by kernel_rfl))]; exact ⟨rfl, rfl⟩)
    (fun os started H enc _ => namesKeys_lifted os started H enc)

theorem namesKeys_card : Rows.NamesKeysCardSaid :=
  Claim7.holds_tied_plain_at .later [] [.data, .pinned] true (true, "32203f3f3715aa455ea2405b0c4d50bd6eab7af9639ffb41f881fd965578d015") false namesKeys_holds (fun _ h => by cases h) (by kernel_rfl) (fun _ h => by cases h) namesKeys_row_tie rfl ⟨rfl, rfl⟩ (by kernel_rfl) rfl
    (fun f fn hf hfn => by
      obtain rfl : f = 4 := Option.some.inj ((show Tryd.prog.funcNamed "scriptory/scriptorylaw3.NamesKeys" = some 4 by kernel_rfl).symm.trans hf) |>.symm
      obtain rfl : fn = Tryd.f4 := (Option.some.inj (Tryd.func4.symm.trans hfn)).symm
      exact ⟨by kernel_rfl, fun j t ht => by
        rw [Tryd.params4] at ht
        have hm : t ∈ [23] := by simpa using Array.mem_of_getElem? ht
        have hall : ([23].all fun u => !Tryd.prog.wantsStandIn u) = true := by kernel_rfl
        exact (show Tryd.prog.wantsStandIn t = false by simpa using List.all_eq_true.1 hall t hm)⟩)
    (by kernel_rfl)
#print axioms namesKeys_card

end Go.Proofs.YtoomcbmaahhldaaDoor
