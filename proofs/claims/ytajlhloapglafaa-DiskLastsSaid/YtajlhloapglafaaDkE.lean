/- The disk's Power, walked: the loop. -/
import Derived.Test.YtajlhloapglafaaDkD
namespace Go.Proofs.Ytajlhloapglafaa
open Go.RowKit
set_option linter.unusedSimpArgs false
set_option linter.unusedVariables false
set_option maxRecDepth 4000

set_option maxHeartbeats 2000000 in
theorem power_calls {w : World} {g : Nat} {D : DS} {own rd : Nat → Prop} (hd : DiskIs w g D own rd) (v : Value) (keep : List Bool) (hv : ArgL w own v (keep.map Value.bool)) (hlv : 0 ≤ D.lives ∧ D.lives < 1000000) :
    Calls Try.prog 16 #[.pointer (some ⟨g, 0, none⟩), v] w fun e w' => e = .returned (.tuple #[]) ∧ DiskTo w g own rd (D.power keep) w' := by
  obtain ⟨pk, capk, rfl, hk1, hk2⟩ := hv.is
  rw [List.length_map]
  have HL := Lib.hid (len_calls hd)
  have HW := Lib.hid (waiting_calls hd)
  obtain ⟨gl, gm, cap, rows, junk, M, tv, hf, h3, h4, H⟩ := hd.open_
  have HSL := Lib.hid (DS.pow_256 hf.len (hf.all (H.at 3 rfl : PayIs w rd rows D.last M D.wait tv D.torn)) keep)
  have b1 : ((D.last.length : Int) == 0) = false := beq_eq_false_iff_ne.2 (by have := hf.n1; omega)
  have HKP := Lib.hid hk1
  have HKN := Lib.hid hk2
  have HF := Lib.hid hf
  have HR := Lib.hid h3
  have H4 := Lib.hid h4
  obtain ⟨hlv1, hlv2⟩ := hlv
  clear hv hk1 hk2 hd hf h3 h4
  go_enter Try.func16, Try.ntmps16
  go_wp2_with (first
    | (go_at_call 32; (with_reducible refine (HL.out).mono ?_); rintro e W' ⟨rfl, rfl⟩)
    | (go_at_call 12; go_loud ((refine HW.out.mono ?_); rintro e W ⟨vw, rfl, hrow, hb⟩; obtain ⟨pw, capw, rfl, hw1, hw2⟩ := ownsRow_rd hrow; clear hrow; replace H := H.add (Fix.of_below hb NoBlk) (rdA pw _) hw1 (fun k hk => hk.elim) (fun k hk => .inl (hw2 k hk)); clear hw1 hw2 hb; simp only [List.nil_append, List.cons_append] at H)))
  obtain ⟨n, hn⟩ : ∃ n, D.waiting.length = n := ⟨_, rfl⟩
  have HN := Lib.hid hn
  have hnb : n ≤ 1900 := by rw [← hn]; have := HF.out.n2; have h2 : D.waiting.length ≤ D.last.length := (by have := List.length_filter_le (fun k => (D.wait k).isSome) (List.range D.last.length); rw [List.length_range] at this; exact this); omega
  rw [hn]
  clear hn HW HL
  go_loopw [4, 5, 13] (fun _ _ x wr => ∃ (j : Nat) (rows' : List Value), x = .int .i64 (j : Int) ∧ j ≤ n ∧ rows'.length = rows.length ∧ St own rd w wr [blk g (.cells (dRow (.slice (some ⟨gl, 0, none⟩) D.last.length cap) (.map (some gm)) D.dead D.armed D.n D.part D.way tv D.writes D.lives).toArray 59 (0, 0)),
        blk gl (.cells (rows' ++ junk).toArray 22 (0, 0)), mapA gm (Go.Maps.size M) M, payA rd rows' (D.pow keep j) M D.wait tv D.torn, rdA pw (D.waiting.map fun k : Nat => Value.int .i64 (k : Int))]) (fun _ _ x _ => n - (intOf x).toNat)
  case atStart => exact ⟨0, rows, rfl, Nat.zero_le _, rfl, H⟩
  case round =>
    obtain ⟨j, rows', rfl, hj, hr', H⟩ := hrel
    have HR' := Lib.hid hr'
    clear hr'
    rcases Nat.lt_or_ge j n with hlt | hge
    · obtain ⟨s, l, hs1, hs2, hs3, hs4, hs5⟩ := waiting_at D j (by rw [HN.out]; exact hlt)
      obtain ⟨gv, offv, rfl, hcell⟩ := rdA_at (H.at 4 rfl) hs2
      have hji : (j : Int) < (n : Int) := by omega
      have hj0 : 0 ≤ (j : Int) := by omega
      rcases Nat.lt_or_ge j keep.length with hlk | hlk
      · have hkx : (keep.map Value.bool)[j]? = some (.bool keep[j]) := by simp [hlk]
        obtain ⟨gk, offk, rfl, hcellk⟩ := rdA_at (rdA_fix HKP.out HKN.out H.fix) hkx
        have hlk2 : (j : Int) < (keep.length : Int) := by omega
        have bk : decide ((j : Int) < (keep.length : Int)) = true := by simp; omega
        cases hkj : keep[j] with
        | false =>
          rw [hkj] at hcellk
          have hps : D.pow keep (j + 1) = D.pow keep j := by rw [DS.pow_succ, List.getD_eq_getElem?_getD, List.getElem?_eq_getElem hlk, hkj]; rfl
          have HPS := Lib.hid hps
          clear hps hs1 hs2 hs4 hs5 hkx hkj
          go_wp2
          go_roundw
          case rel => exact ⟨j + 1, rows', congrArg _ (by omega), by omega, HR'.out, by rw [HPS.out]; exact H⟩
          case measure => simp [intOf]; omega
        | true =>
          rw [hkj] at hcellk
          have hps : D.pow keep (j + 1) = (D.pow keep j).set s l := by rw [DS.pow_succ, List.getD_eq_getElem?_getD, List.getElem?_eq_getElem hlk, hkj, hs1, hs5]; rfl
          have HPS := Lib.hid hps
          have HS4 := Lib.hid hs4
          clear hps hs1 hs2 hs4 hs5 hkx hkj
          have hn2 := HF.out.n2
          have hsr : s < rows'.length := by rw [HR'.out, HR.out]; exact hs3
          have hsi : (s : Int) < (D.last.length : Int) := by omega
          have hs0 : 0 ≤ (s : Int) := by omega
          clear hn2
          go_wp2
          replace H := H.drew
          obtain ⟨vs, _, hrun, hlen, hbs⟩ := (H.at 3 rfl : PayIs _ rd rows' (D.pow keep j) M D.wait tv D.torn).look_yes (H.at 2 rfl) s (by have := HF.out.n2; omega) HS4.out
          obtain ⟨gs, offs, caps, rfl, _, _, _⟩ := hbs.open_ hlen
          have HBS := Lib.hid hbs
          have H2 := H.setCell 1 rfl s (.slice (some ⟨gs, offs, none⟩) l.length caps)
          have hc0 := row_cell (H.at 0 rfl) (dRow0 _ _ _ _ _ _ _ _ _ _)
          have hc1 := row_cell (H.at 0 rfl) (dRow1 _ _ _ _ _ _ _ _ _ _)
          have hd0 := row_cell (H2.at 0 rfl) (dRow0 _ _ _ _ _ _ _ _ _ _)
          have hd1 := row_cell (H2.at 0 rfl) (dRow1 _ _ _ _ _ _ _ _ _ _)
          have hgl := row_cell (H.at 1 rfl) (off := s) (v := rows'[s]) (by rw [List.getElem?_toArray, List.getElem?_append_left hsr, List.getElem?_eq_getElem hsr])
          have hfz := frozen_of_row _ gl s _ _ (H.at 1 rfl)
          clear hbs hlen
          go_region_held3 (fun w' => w'.cell? ⟨g, 0, none⟩ = some (.slice (some ⟨gl, 0, none⟩) D.last.length cap) ∧ w'.cell? ⟨g, 1, none⟩ = some (.map (some gm))) (first | exact ⟨hc0, hc1⟩ | exact ⟨hd0, hd1⟩) (first | fail)
          rw [show (wr.setCell ⟨gl, s, none⟩ (.slice (some ⟨gs, offs, none⟩) l.length caps)).drew = wr.drew.setCell ⟨gl, s, none⟩ (.slice (some ⟨gs, offs, none⟩) l.length caps) from rfl]
          have hnrd := (H.apart 1 3 _ _ rfl rfl (by decide)).2.1 gl rfl
          have hbs2 := HBS.out.same (rd' := rd) (W' := wr.drew.setCell ⟨gl, s, none⟩ (.slice (some ⟨gs, offs, none⟩) l.length caps)) (fun k hk => ⟨Below.heap_setCell _ _ _ _ (fun e => hnrd (by rw [← show k = gl from e]; exact hk)), hk⟩)
          have hpl := DS.pow_length D keep j
          have H3 := H2.step 3 rfl (A' := payA rd (rows'.set s (.slice (some ⟨gs, offs, none⟩) l.length caps)) ((D.pow keep j).set s l) M D.wait tv D.torn) (Fix.refl _ _)
            ((H2.at 3 rfl : PayIs _ rd rows' (D.pow keep j) M D.wait tv D.torn).lay (by rw [HR'.out, HR.out, hpl]) s (by rw [hpl]; exact hs3) hbs2) ⟨fun _ h => h.elim, fun _ h => .inr (.inl h)⟩
          rw [set_front _ _ _ hsr] at H3
          simp only [List.set_cons_zero, List.set_cons_succ] at H3
          clear hc0 hc1 hd0 hd1 hgl hfz hbs2 H2 H hrun HBS
          generalize wr.drew.setCell ⟨gl, s, none⟩ (.slice (some ⟨gs, offs, none⟩) l.length caps) = W3 at *
          go_wp2
          go_roundw
          case rel => exact ⟨j + 1, rows'.set s (.slice (some ⟨gs, offs, none⟩) l.length caps), congrArg _ (by omega), by omega, by rw [List.length_set]; exact HR'.out, by rw [HPS.out]; exact H3⟩
          case measure => simp [intOf]; omega
      · have bk : decide ((j : Int) < (keep.length : Int)) = false := by simp; omega
        have hps : D.pow keep (j + 1) = D.pow keep j := by rw [DS.pow_succ, List.getD_eq_getElem?_getD, List.getElem?_eq_none hlk]; rfl
        have HPS := Lib.hid hps
        clear hps hs1 hs2 hs4 hs5
        go_wp2
        go_roundw
        case rel => exact ⟨j + 1, rows', congrArg _ (by omega), by omega, HR'.out, by rw [HPS.out]; exact H⟩
        case measure => simp [intOf]; omega
    · obtain rfl : j = n := by omega
      have hji : ¬ ((j : Int) < (j : Int)) := by omega
      have hpl := DS.pow_length D keep j
      by_cases hway : 0 ≤ D.way
      · have bw : decide (0 ≤ D.way) = true := by simp [hway]
        obtain ⟨y, hy⟩ : ∃ y : Nat, D.way = (y : Int) := ⟨D.way.toNat, by omega⟩
        have hyn : y < (D.pow keep j).length := by have := HF.out.way.2; rw [hy] at this; omega
        have HYN := Lib.hid hyn
        have HY := Lib.hid hy
        have hyi : (y : Int) < (D.last.length : Int) := by omega
        have hy0 : 0 ≤ (y : Int) := by omega
        have hyr : y < rows'.length := by rw [HR'.out, HR.out, ← hpl]; exact hyn
        rw [hy] at H bw
        clear hyn hy hway
        go_wp2_with (first | (refine wpList_load1_st rfl 3 _ rfl _ _ rfl _ _ _ (H.at 0 rfl) _ Try.underlying3 rfl _ (dRow6 _ _ _ _ _ _ _ _ _ _) ?_))
        replace H := H.drew
        obtain ⟨vy, hvy, hbs⟩ := (H.at 3 rfl : PayIs _ rd rows' (D.pow keep j) M D.wait tv D.torn).ByS_at (by rw [HR'.out, HR.out, hpl]) junk y HYN.out
        have hall : ((D.pow keep j)[y]'HYN.out).length = 256  := HSL.out j (by rw [HN.out]; exact Nat.le_refl _) _ (List.getElem_mem _)
        have HLY := Lib.hid hall
        have hrlt := (H.at 3 rfl : PayIs _ rd rows' (D.pow keep j) M D.wait tv D.torn).lt
        obtain ⟨gy, offy, capy, rfl, _, hrdy, hay⟩ := hbs.open_ hall
        rw [hall] at hvy
        have HAY := Lib.hid hay
        have HGY := Lib.hid (hrlt gy hrdy)
        have hc0 := row_cell (H.at 0 rfl) (dRow0 _ _ _ _ _ _ _ _ _ _)
        have hc6 := row_cell (H.at 0 rfl) (dRow6 _ _ _ _ _ _ _ _ _ _)
        have hcl := row_cell (H.at 1 rfl) hvy
        clear hbs hay hrlt hall
        go_region_held3 (fun w' => w'.cell? ⟨g, 0, none⟩ = some (.slice (some ⟨gl, 0, none⟩) D.last.length cap) ∧ w'.cell? ⟨g, 6, none⟩ = some (.int .i64 (y : Int)) ∧ w'.cell? ⟨gl, y, none⟩ = some (.slice (some ⟨gy, offy, none⟩) 256 capy)) (first | exact ⟨hc0, hc6, hcl⟩ | exact ⟨hd0, hd6, hdl⟩) (first
          | (go_at_call 35; go_loud ((refine (clone_256 HAY.out HLY.out HGY.out).mono ?_); rintro e W2 ⟨gc, capc, junkc, rfl, hc2, hcg, hcc, hbl⟩; replace H := H.add (Fix.of_below hbl _) (blk gc _) hcc (fun k hk => by rw [show k = gc from hk]; exact hcg) (fun k hk => hk.elim); simp only [List.nil_append, List.cons_append] at H; have hd0 := row_cell (H.at 0 rfl) (dRow0 _ _ _ _ _ _ _ _ _ _); have hd6 := row_cell (H.at 0 rfl) (dRow6 _ _ _ _ _ _ _ _ _ _); have hdl := row_cell (H.at 1 rfl) hvy; clear hcc hcg hbl)))
        clear hd0 hd6 hdl hc0 hc6 hcl
        go_wp2_with (first
          | (refine wpList_load1_st rfl 22 _ rfl _ _ rfl _ _ _ (H.at 0 rfl) _ Try.underlying22 rfl _ (dRow7 _ _ _ _ _ _ _ _ _ _) ?_)
          | (refine wpList_copy_bys H 5 rfl _ _ _ _ rfl _ Try.underlying22 size_u8 _ _ _ rfl _ rfl rd D.torn (H.at 3 rfl : PayIs _ rd rows' (D.pow keep j) M D.wait tv D.torn).torn _ _ rfl HF.out.torn (by have := HLY.out; have h2 := HF.out.torn; simp; omega) ?_; clear H; intro W4 H; simp only [List.set_cons_zero, List.set_cons_succ] at H))
        simp only [Act.put, List.setIfInBounds_toArray, List.set_cons_zero, List.set_cons_succ]
        replace H := H.drew
        have hc0 := row_cell (H.at 0 rfl) (dRow0 _ _ _ _ _ _ _ _ _ _)
        have hc6 := row_cell (H.at 0 rfl) (dRow6 _ _ _ _ _ _ _ _ _ _)
        have hgl := row_cell (H.at 1 rfl) (off := y) (v := rows'[y]) (by rw [List.getElem?_toArray, List.getElem?_append_left hyr, List.getElem?_eq_getElem hyr])
        have hfz := frozen_of_row _ gl y _ _ (H.at 1 rfl)
        have H2 := H.setCell 1 rfl y (.slice (some ⟨gc, 0, none⟩) 256 capc)
        have hd0 := row_cell (H2.at 0 rfl) (dRow0 _ _ _ _ _ _ _ _ _ _)
        have hd6 := row_cell (H2.at 0 rfl) (dRow6 _ _ _ _ _ _ _ _ _ _)
        go_region_held3 (fun w' => w'.cell? ⟨g, 0, none⟩ = some (.slice (some ⟨gl, 0, none⟩) D.last.length cap) ∧ w'.cell? ⟨g, 6, none⟩ = some (.int .i64 (y : Int))) (first | exact ⟨hc0, hc6⟩ | exact ⟨hd0, hd6⟩) (first | fail)
        rw [show (W4.setCell ⟨gl, y, none⟩ (.slice (some ⟨gc, 0, none⟩) 256 capc)).drew = W4.drew.setCell ⟨gl, y, none⟩ (.slice (some ⟨gc, 0, none⟩) 256 capc) from rfl]
        clear hc0 hc6 hgl hfz hd0 hd6 H
        generalize W4.drew.setCell ⟨gl, y, none⟩ (.slice (some ⟨gc, 0, none⟩) 256 capc) = W5 at *
        rw [set_front _ _ _ hyr] at H2
        simp only [List.set_cons_zero, List.set_cons_succ] at H2
        have H := H2
        clear H2
        go_wp2_with (first
          | (refine wpList_makemap_st H rfl 56 rfl ?_; clear H; intro WN gN H; simp only [List.nil_append, List.cons_append] at H)
          | (refine wpList_store1_st H 0 rfl 56 _ _ rfl _ _ (.map _) rfl rfl rfl _ _ rfl rfl (by simp [dRow]) ?_; clear H; intro W H; (try simp only [cells_arrV, List.nil_append, List.cons_append, List.set_cons_zero, List.set_cons_succ] at H); try simp only [dSet1, dSet2, dSet3, dSet4, dSet5, dSet6, dSet7, dSet8, dSet9] at H)
          | (refine wpList_store1_st H 0 rfl 4 _ _ rfl _ _ (.bool _) rfl rfl rfl _ _ rfl rfl (by simp [dRow]) ?_; clear H; intro W H; (try simp only [cells_arrV, List.nil_append, List.cons_append, List.set_cons_zero, List.set_cons_succ] at H); try simp only [dSet1, dSet2, dSet3, dSet4, dSet5, dSet6, dSet7, dSet8, dSet9] at H)
          | (refine wpList_load1_st rfl 3 _ rfl _ _ rfl _ _ _ (H.at 0 rfl) _ Try.underlying3 rfl _ (dRow9 _ _ _ _ _ _ _ _ _ _) ?_)
          | (refine wpList_store1_st H 0 rfl 3 _ _ rfl _ _ (.int .i64 _) rfl rfl rfl _ _ rfl rfl (by simp [dRow]) ?_; clear H; intro W H; (try simp only [cells_arrV, List.nil_append, List.cons_append, List.set_cons_zero, List.set_cons_succ] at H); try simp only [dSet1, dSet2, dSet3, dSet4, dSet5, dSet6, dSet7, dSet8, dSet9] at H)
          | (refine wpList_store1_st H 0 rfl 22 _ _ rfl _ _ (.slice _ _ _) rfl rfl rfl _ _ rfl rfl (by simp [dRow]) ?_; clear H; intro W H; (try simp only [cells_arrV, List.nil_append, List.cons_append, List.set_cons_zero, List.set_cons_succ] at H); try simp only [dSet1, dSet2, dSet3, dSet4, dSet5, dSet6, dSet7, dSet8, dSet9] at H))
        refine bodyPost_end (v := .tuple #[]) (results_none rfl) rfl ⟨rfl, ?_⟩
        have htl := HF.out.torn
        have hlx : (D.torn ++ ((D.pow keep j)[y]'HYN.out).drop D.torn.length).length = 256 := by have := HLY.out; simp; omega
        have hce : byteV D.torn ++ List.drop D.torn.length (byteV ((D.pow keep j)[y]'HYN.out) ++ junkc) = byteV (D.torn ++ ((D.pow keep j)[y]'HYN.out).drop D.torn.length) ++ junkc := by
          rw [List.drop_append_of_le_length (by rw [byteV_length, HLY.out]; exact htl)]
          simp [byteV]
        rw [hce] at H
        have hlast : D.powLast keep = (D.pow keep j).set y (D.torn ++ ((D.pow keep j)[y]'HYN.out).drop D.torn.length) := by
          have h1 := HYN.out
          simp [DS.powLast, HN.out, HY.out, h1]
        have hpw : D.power keep = { D with last := (D.pow keep j).set y (D.torn ++ ((D.pow keep j)[y]'HYN.out).drop D.torn.length), wait := fun _ => none, dead := false, armed := false, way := -1, torn := [], lives := D.lives + 1 } := by
          simp [DS.power, hlast]
        rw [hpw]
        have h256 : ∀ l ∈ (D.pow keep j).set y (D.torn ++ ((D.pow keep j)[y]'HYN.out).drop D.torn.length), l.length = 256 := by
          intro l hl
          rcases List.mem_or_eq_of_mem_set hl with hl | hl
          · exact HSL.out j (by rw [HN.out]; exact Nat.le_refl _) l hl
          · rw [hl]; exact hlx
        clear hce hlast hpw
        have hal : ((D.pow keep j).set y (D.torn ++ ((D.pow keep j)[y]'HYN.out).drop D.torn.length)).length = D.last.length := by rw [List.length_set]; exact hpl
        have HBF := BytesAt.front (H.at 5 rfl)
        generalize D.torn ++ ((D.pow keep j)[y]'HYN.out).drop D.torn.length = lx at *
        have HP := (H.at 3 rfl : PayIs W rd rows' (D.pow keep j) M D.wait tv D.torn).same (W' := W) (rd' := fun k => rd k ∨ k = gc) (fun k hk => ⟨rfl, .inl hk⟩) (fun k hk => by
          rcases hk with hk | rfl
          · exact (H.at 3 rfl : PayIs W rd rows' (D.pow keep j) M D.wait tv D.torn).lt k hk
          · exact (Array.getElem?_eq_some_iff.1 (H.at 5 rfl)).1)
        have J := H.join 5 3 (A' := payA (fun k => rd k ∨ k = gc) (rows'.set y (.slice (some ⟨gc, 0, none⟩) 256 capc)) ((D.pow keep j).set y lx) (.map []) (fun _ => none) (.slice none 0 0) []) rfl rfl
          (HP.lay (by rw [HR'.out, HR.out, hpl]) y HYN.out (l := lx) (v := .slice (some ⟨gc, 0, none⟩) 256 capc) (.inr ⟨gc, 0, capc, by rw [hlx], by omega, .inr (.inr rfl), HBF⟩)).power (fun k hk => hk.elim) (fun k hk => by
          rcases hk with hk | rfl
          · exact .inl (.inr hk)
          · exact .inr (.inl rfl))
        simp only [List.set_cons_zero, List.set_cons_succ] at J
        rw [← hal] at J
        refine J.disk (D' := { D with last := (D.pow keep j).set y lx, wait := fun _ => none, dead := false, armed := false, way := -1, torn := [], lives := D.lives + 1 })
          ⟨by show 32 ≤ ((D.pow keep j).set y lx).length; rw [hal]; exact HF.out.n1, by show ((D.pow keep j).set y lx).length ≤ 1900; rw [hal]; exact HF.out.n2, h256, HF.out.part, ⟨by show (-1 : Int) ≤ -1; omega, by show (-1 : Int) < _; omega⟩, by show ([] : List UInt8).length ≤ 256; simp, HF.out.nlo, HF.out.nhi⟩
          gl _ cap _ junk (.map []) _ _ (by show _ = ((D.pow keep j).set y lx).length; rw [List.length_set, hal, HR'.out, HR.out]) (by rw [← H4.out]; simp [HR'.out]) 0 1 6 3 rfl rfl rfl rfl (by decide) (by decide) (by decide) (by decide) (by decide) (by decide)
      · have bw : decide (0 ≤ D.way) = false := by simp [hway]
        go_wp2_with (first
          | (refine wpList_load1_st rfl 3 _ rfl _ _ rfl _ _ _ (H.at 0 rfl) _ Try.underlying3 rfl _ (dRow6 _ _ _ _ _ _ _ _ _ _) ?_)
          | (refine wpList_makemap_st H rfl 56 rfl ?_; clear H; intro WN gN H; simp only [List.nil_append, List.cons_append] at H)
          | (refine wpList_store1_st H 0 rfl 56 _ _ rfl _ _ (.map _) rfl rfl rfl _ _ rfl rfl (by simp [dRow]) ?_; clear H; intro W H; (try simp only [cells_arrV, List.nil_append, List.cons_append, List.set_cons_zero, List.set_cons_succ] at H); try simp only [dSet1, dSet2, dSet3, dSet4, dSet5, dSet6, dSet7, dSet8, dSet9] at H)
          | (refine wpList_store1_st H 0 rfl 4 _ _ rfl _ _ (.bool _) rfl rfl rfl _ _ rfl rfl (by simp [dRow]) ?_; clear H; intro W H; (try simp only [cells_arrV, List.nil_append, List.cons_append, List.set_cons_zero, List.set_cons_succ] at H); try simp only [dSet1, dSet2, dSet3, dSet4, dSet5, dSet6, dSet7, dSet8, dSet9] at H)
          | (refine wpList_load1_st rfl 3 _ rfl _ _ rfl _ _ _ (H.at 0 rfl) _ Try.underlying3 rfl _ (dRow9 _ _ _ _ _ _ _ _ _ _) ?_)
          | (refine wpList_store1_st H 0 rfl 3 _ _ rfl _ _ (.int .i64 _) rfl rfl rfl _ _ rfl rfl (by simp [dRow]) ?_; clear H; intro W H; (try simp only [cells_arrV, List.nil_append, List.cons_append, List.set_cons_zero, List.set_cons_succ] at H); try simp only [dSet1, dSet2, dSet3, dSet4, dSet5, dSet6, dSet7, dSet8, dSet9] at H)
          | (refine wpList_store1_st H 0 rfl 22 _ _ rfl _ _ (.slice _ _ _) rfl rfl rfl _ _ rfl rfl (by simp [dRow]) ?_; clear H; intro W H; (try simp only [cells_arrV, List.nil_append, List.cons_append, List.set_cons_zero, List.set_cons_succ] at H); try simp only [dSet1, dSet2, dSet3, dSet4, dSet5, dSet6, dSet7, dSet8, dSet9] at H))
        refine bodyPost_end (v := .tuple #[]) (results_none rfl) rfl ⟨rfl, ?_⟩
        have hlast : D.powLast keep = D.pow keep j := by simp [DS.powLast, HN.out, hway]; omega
        have hpw : D.power keep = { D with last := D.pow keep j, wait := fun _ => none, dead := false, armed := false, way := -1, torn := [], lives := D.lives + 1 } := by
          simp [DS.power, hlast]
        rw [hpw]
        have J := H.step 3 rfl (A' := payA rd rows' (D.pow keep j) (.map []) (fun _ => none) (.slice none 0 0) []) (Fix.refl _ _) (PayIs.power (H.at 3 rfl)) ⟨fun _ h => h.elim, fun _ h => .inr (.inl h)⟩
        simp only [List.set_cons_zero, List.set_cons_succ] at J
        rw [← hpl] at J
        refine J.disk (D' := { D with last := D.pow keep j, wait := fun _ => none, dead := false, armed := false, way := -1, torn := [], lives := D.lives + 1 })
          ⟨by show 32 ≤ (D.pow keep j).length; rw [hpl]; exact HF.out.n1, by show (D.pow keep j).length ≤ 1900; rw [hpl]; exact HF.out.n2, HSL.out j (by rw [HN.out]; exact Nat.le_refl _), HF.out.part, ⟨by show (-1 : Int) ≤ -1; omega, by show (-1 : Int) < _; omega⟩, by show ([] : List UInt8).length ≤ 256; simp, HF.out.nlo, HF.out.nhi⟩
          gl _ cap _ junk (.map []) _ _ (by show _ = (D.pow keep j).length; rw [hpl, HR'.out, HR.out]) (by rw [← H4.out]; simp [HR'.out]) 0 1 5 3 rfl rfl rfl rfl (by decide) (by decide) (by decide) (by decide) (by decide) (by decide)

end Go.Proofs.Ytajlhloapglafaa
