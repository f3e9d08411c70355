/- New disks, walked. -/
import Derived.Test.YtajlhloapglafaaGreatDoorDkF
namespace Go.Proofs.YtajlhloapglafaaGreatDoor
open Go.RowKit
set_option linter.unusedSimpArgs false
set_option linter.unusedVariables false
set_option maxRecDepth 4000

def noSect : List UInt8 := List.replicate 256 0

theorem noSect_len : noSect.length = 256 := List.length_replicate

def DS.new (n : Nat) : DS := { last := List.replicate n noSect, wait := fun _ => none, dead := false, armed := false, n := 0, part := 0, way := -1, torn := [], writes := 0, lives := 0 }

theorem zero_row : (Tryz.prog.info? 22).bind (·.zero) = some (.slice none 0 0) := by kernel_rfl
theorem size_row : (Tryz.prog.info? 22).map (·.size) = some 1 := by kernel_rfl
theorem info_row : (Tryz.prog.info? 22).map (fun i => (i.zero, i.size, i.bytes)) = some (some (.slice none 0 0), 1, 24) := by kernel_rfl
theorem byteV_noSect : List.replicate 256 (Value.int .u8 0) = byteV noSect := by simp [byteV, noSect]

theorem fill_row (g : Nat) : Instr.fill (fun i => some (i * 1, 1)) ((Array.range (1 * 1)).map ((Value.slice none 0 0).cells[· % (Value.slice none 0 0).cells.size]!)) [(0, .slice (some ⟨g, 0, none⟩) 256 256)] = some #[.slice (some ⟨g, 0, none⟩) 256 256] := by kernel_rfl

set_option maxHeartbeats 1000000 in
theorem new_calls (n : Nat) (h1 : 32 ≤ n) (h2 : n ≤ 1900) (w : World) :
    Calls Tryz.prog 11 #[.int .i64 (n : Int)] w fun e w' => ∃ g own rd, e = .returned (.pointer (some ⟨g, 0, none⟩)) ∧ DiskIs w' g (DS.new n) own rd ∧ Below w.heap.size w w' ∧ ∀ k, own k ∨ rd k → w.heap.size ≤ k := by
  have H := St.nil NoBlk NoBlk w
  have n1 : ¬ ((n : Int) < 32) := by omega
  have n2 : ¬ (1900 < (n : Int)) := by omega
  have b1 : decide ((n : Int) < 32) = false := by simp; omega
  have b2 : decide (1900 < (n : Int)) = false := by simp; omega
  go_enter Tryz.func11, Tryz.ntmps11
  go_wp2_with (first
    | (refine wpList_makemap_st H rfl 74 rfl ?_; clear H; intro WN gm H; simp only [List.nil_append, List.cons_append] at H)
    | (refine wpList_box_st H rfl 77 _ rfl (.agg (dRow (.slice none 0 0) (.map (some gm)) false false 0 0 (-1) (.slice none 0 0) 0 0).toArray) rfl ?_; clear H; intro WD g H; simp only [List.nil_append, List.cons_append] at H))
  have hp0 : PayIs WD NoBlk [] [] (.map []) (fun _ => none) (.slice none 0 0) [] :=
    ⟨fun i hi => by simp at hi, fun kl hkl => (by cases hkl), fun k => .inl ⟨rfl, rfl⟩, .inl ⟨rfl, rfl⟩, fun k hk => hk.elim⟩
  replace H := H.add (Fix.refl _ _) (ownA 22 none 0 0 []) (World.ownsRow_nil _ _ _ _) (fun k hk => by obtain ⟨_, e, _⟩ := hk; cases e) (fun k hk => hk.elim)
  replace H := H.add (Fix.refl _ _) (payA NoBlk [] [] (.map []) (fun _ => none) (.slice none 0 0) []) hp0 (fun k hk => hk.elim) (fun k hk => hk.elim)
  simp only [List.nil_append, List.cons_append] at H
  clear hp0
  go_loopw [14] (fun x wr => ∃ (j : Nat) (p : Option Addr) (cap : Nat) (rows : List Value) (rd : Nat → Prop), x = .int .i64 (j : Int) ∧ j ≤ n ∧ rows.length = j ∧ St NoBlk NoBlk w wr [mapA gm 0 (.map []),
      blk g (.cells (dRow (.slice p j cap) (.map (some gm)) false false 0 0 (-1) (.slice none 0 0) 0 0).toArray 77 (0, 0)), ownA 22 p j cap rows, payA rd rows (List.replicate j noSect) (.map []) (fun _ => none) (.slice none 0 0) []]) (fun x _ => n - (intOf x).toNat)
  case atStart => exact ⟨0, none, 0, [], NoBlk, rfl, Nat.zero_le _, rfl, H⟩
  case round =>
    obtain ⟨j, p, cap, rows, rd, rfl, hj, hr, H⟩ := hrel
    have HR := Lib.hid hr
    clear hr
    rcases Nat.lt_or_ge j n with hlt | hge
    · have hji : (j : Int) < (n : Int) := by omega
      have hj0 : 0 ≤ (j : Int) := by omega
      go_wp2
      replace H := H.drew
      have hc0 := row_cell (H.at 1 rfl) (dRow0 _ _ _ _ _ _ _ _ _ _)
      obtain ⟨WM, gM, hmk, HM⟩ := H.make_run (P := Tryz.prog) 22 _ Tryz.underlying22 _ _ info_u8 rfl 256 (by omega) (by simp [maxLen])
      rw [byteV_noSect] at HM
      replace hmk : (Instr.makeSlice 22 (.int .i64 256) (.int .i64 256)).run Tryz.prog wr.drew = .ok (.slice (some ⟨gM, 0, none⟩) 256 256) WM := hmk
      have HB := HM.alloc (.cells #[.slice (some ⟨gM, 0, none⟩) 256 256] 22)
      simp only [List.nil_append, List.cons_append] at HM HB
      have hc1 := row_cell (HM.at 1 rfl) (dRow0 _ _ _ _ _ _ _ _ _ _)
      have hc2 := row_cell (HB.at 1 rfl) (dRow0 _ _ _ _ _ _ _ _ _ _)
      clear H HM
      go_region_law (first
        | (refine step_want rfl (wp_append_ownA HB 2 _ _ 75 rfl _ Tryz.underlying75 _ _ info_row rfl p j cap rfl rows rfl ⟨WM.heap.size, 0, none⟩ 1 1 rfl [.slice (some ⟨gM, 0, none⟩) 256 256] rfl (World.news_of_block (HB.at 5 rfl)) (by simp [Value.oneCell']) (by omega) (by simp only [maxLen]; omega) (by omega) ?_); intro W4 g4 cap4 H4; simp only [List.set_cons_zero, List.set_cons_succ] at H4; have hcS := row_cell (H4.at 1 rfl) (dRow0 _ _ _ _ _ _ _ _ _ _); have hfS := frozen_of_row _ g 0 _ _ (H4.at 1 rfl); have HV := H4.setCell 1 rfl 0 (.slice (some ⟨g4, 0, none⟩) (j + 1) cap4)))
      all_goals
        rw [dSet0] at HV
        simp only [List.set_cons_zero, List.set_cons_succ] at HV
        clear HB H4 hc0 hc1 hc2 hmk hcS hfS
        generalize W4.setCell ⟨g, 0, none⟩ (.slice (some ⟨g4, 0, none⟩) (j + 1) cap4) = W5 at *
        have hP := (HV.at 3 rfl : PayIs _ rd rows (List.replicate j noSect) (.map []) (fun _ => none) (.slice none 0 0) []).more (by simp [HR.out]) (l := noSect) (n := 256) (capc := 256) noSect_len (Nat.le_refl _) (HV.at 4 rfl)
        have J := (HV.join 4 3 (A' := payA (fun k => rd k ∨ k = gM) (rows ++ [Value.slice (some ⟨gM, 0, none⟩) 256 256]) (List.replicate j noSect ++ [noSect]) (.map []) (fun _ => none) (.slice none 0 0) []) rfl rfl hP (fun k hk => hk.elim) (fun k hk => by
          rcases hk with hk | rfl
          · exact .inl (.inr hk)
          · exact .inr (.inl rfl))).take 4
        simp only [List.set_cons_zero, List.set_cons_succ, List.take_succ_cons, List.take_zero] at J
        clear HV
        go_wp2
        go_roundw
        case rel => exact ⟨j + 1, some ⟨g4, 0, none⟩, cap4, rows ++ [Value.slice (some ⟨gM, 0, none⟩) 256 256], fun k => rd k ∨ k = gM, congrArg _ (by omega), by omega, by rw [List.length_append, HR.out]; rfl, by rw [List.replicate_succ']; exact J⟩
        case measure => simp [intOf]; omega
    · obtain rfl : j = n := by omega
      have hji : ¬ ((j : Int) < (j : Int)) := by omega
      go_wp2
      go_ret
      obtain ⟨gl, junk, rfl, hgl, hl1, hl2⟩ := ownA_blk (H.at 2 rfl) (by omega)
      have J := H.step 2 rfl (A' := blk gl (.cells (rows ++ junk).toArray 22 (0, 0))) (Fix.refl _ _) hgl ⟨fun k hk => .inl ⟨_, rfl, hk⟩, fun k hk => hk.elim⟩
      simp only [List.set_cons_zero, List.set_cons_succ] at J
      have hnl : (List.replicate j noSect).length = j := List.length_replicate
      have hdr : dRow (.slice (some ⟨gl, 0, none⟩) j cap) (.map (some gm)) false false 0 0 (-1) (.slice none 0 0) 0 0 = dRow (.slice (some ⟨gl, 0, none⟩) (List.replicate j noSect).length cap) (.map (some gm)) false false 0 0 (-1) (.slice none 0 0) 0 0 := by rw [hnl]
      rw [hdr] at J
      obtain ⟨own', rd', d1, d2, d3, d4⟩ := J.disk (D' := DS.new j) ⟨by show 32 ≤ (List.replicate j noSect).length; rw [hnl]; exact h1, by show (List.replicate j noSect).length ≤ 1900; rw [hnl]; exact h2, fun l hl => by rw [(List.mem_replicate.1 hl).2]; exact noSect_len, (by show (0 : Int) ≤ 0 ∧ (0 : Int) ≤ 256; decide), ⟨(by show (-1 : Int) ≤ -1; decide), by show (-1 : Int) < _; omega⟩, (by show ([] : List UInt8).length ≤ 256; decide), (by show (-9223372036854775808 : Int) ≤ 0; decide), (by show (0 : Int) ≤ 9223372036854775807; decide)⟩
        gl gm cap rows junk (.map []) (.slice none 0 0) rd (by show rows.length = (List.replicate j noSect).length; rw [hnl, hl1]) hl2 1 2 0 3 rfl rfl rfl rfl (by decide) (by decide) (by decide) (by decide) (by decide) (by decide)
      refine ⟨g, rfl, own', rd', d1, d2.below, fun k hk => ?_⟩
      rcases hk with hk | hk
      · rcases d3 k hk with h | h
        · exact h.elim
        · exact h
      · rcases d4 k hk with h | h | h
        · exact h.elim
        · exact h.elim
        · exact h

end Go.Proofs.YtajlhloapglafaaGreatDoor
