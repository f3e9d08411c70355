/- octet.Take, walked at 2, 4 and 8 bytes. -/
import Derived.Test.YtajlhloapglafaaGreatDoorRows
import Derived.Test.YtajlhloapglafaaGreatDoorOp
import Derived.Lib.EndianMore
import Derived.Lib.EndianBits
namespace Go.Proofs.YtajlhloapglafaaGreatDoor
open Go.RowKit
set_option linter.unusedSimpArgs false
set_option linter.unusedVariables false
set_option maxRecDepth 4000

theorem orH (i : Nat) (x y : Int) (hx0 : 0 ≤ x) (hx : x % 2 ^ i = 0) (hx1 : x < 2 ^ 64) (hy0 : 0 ≤ y) (hy : y < 2 ^ i) (hy1 : y < 2 ^ 64) : bits .or .u64 x y = x + y :=
  bits_join .u64 64 (by decide) wraps_u64 i x y hx0 hx hx1 hy0 hy hy1

/-- A number of bytes, the greatest first, as the code joins it. -/
theorem le_join (k : Nat) (hk : k ≤ 8) (hi : Int) (b : Nat) (i p : Nat) (hp : p = 2 ^ i) (hb : b < 256) (x : Int) (hx0 : 0 ≤ x) (hx : x % ((256 * p : Nat) : Int) = 0) (hx1 : x < 18446744073709551616) (hpp : p ≤ 72057594037927936) :
    bits .or .u64 x (IntKind.u64.wrap (IntKind.u64.wrap (b : Int) * (p : Int))) = x + (b : Int) * (p : Int) := by
  have hbp : (b : Int) * (p : Int) ≤ 255 * 72057594037927936 := by
    have h1 : b * p ≤ 255 * 72057594037927936 := Nat.mul_le_mul (by omega) hpp
    rw [← Int.natCast_mul]; omega
  have hbp0 : 0 ≤ (b : Int) * (p : Int) := by rw [← Int.natCast_mul]; omega
  have e1 : IntKind.u64.wrap (b : Int) = b := by rw [IntKind.wrap_u64]; omega
  have e2 : IntKind.u64.wrap ((b : Int) * (p : Int)) = (b : Int) * (p : Int) := by rw [IntKind.wrap_u64]; omega
  rw [e1, e2]
  have h256 : ((256 * p : Nat) : Int) = 2 ^ (i + 8) := by rw [hp]; push_cast; rw [Int.pow_add]; omega
  refine orH (i + 8) x _ hx0 (by rw [← h256]; exact hx) (by omega) hbp0 ?_ (by omega)
  rw [← h256]
  have h1 : b * p < 256 * p := Nat.mul_lt_mul_of_pos_right hb (by rw [hp]; exact Nat.two_pow_pos i)
  exact_mod_cast h1

theorem BytesAt.nth {W : World} {g off : Nat} {l : List UInt8} (h : BytesAt W g off l) (at_ j n : Nat) (hl : at_ + n ≤ l.length) (hj : j < n) : W.cell? ⟨g, off + at_ + j, none⟩ = some (.int .u8 (((l.drop at_).take n).getD j 0).toNat) := by
  have := h (at_ + j) (by omega)
  rw [← Nat.add_assoc] at this
  rw [this, List.getD_eq_getElem?_getD, List.getElem?_take, if_pos hj, List.getElem?_drop, List.getElem?_eq_getElem (by omega)]
  rfl

/-- The greatest byte alone. -/
theorem le_first (b p : Nat) (hb : b < 256) (hpp : p ≤ 72057594037927936) : IntKind.u64.wrap (IntKind.u64.wrap (b : Int) * (p : Int)) = (b : Int) * (p : Int) := by
  have hbp : (b : Int) * (p : Int) ≤ 255 * 72057594037927936 := by
    have h1 : b * p ≤ 255 * 72057594037927936 := Nat.mul_le_mul (by omega) hpp
    rw [← Int.natCast_mul]; omega
  have hbp0 : 0 ≤ (b : Int) * (p : Int) := by rw [← Int.natCast_mul]; omega
  have e1 : IntKind.u64.wrap (b : Int) = b := by rw [IntKind.wrap_u64]; omega
  rw [e1, IntKind.wrap_u64]; omega

theorem le_last (b : Nat) (hb : b < 256) (x : Int) (hx0 : 0 ≤ x) (hx : x % 256 = 0) (hx1 : x < 18446744073709551616) : bits .or .u64 x (IntKind.u64.wrap (b : Int)) = x + (b : Int) := by
  have e1 : IntKind.u64.wrap (b : Int) = b := by rw [IntKind.wrap_u64]; omega
  rw [e1]
  exact orH 8 x _ hx0 (by simpa using hx) (by omega) (by omega) (by omega) (by omega)

theorem le_val8 (b0 b1 b2 b3 b4 b5 b6 b7 : UInt8) :
    bits .or .u64 (bits .or .u64 (bits .or .u64 (bits .or .u64 (bits .or .u64 (bits .or .u64 (bits .or .u64 (IntKind.u64.wrap (IntKind.u64.wrap (b7.toNat : Int) * 72057594037927936)) (IntKind.u64.wrap (IntKind.u64.wrap (b6.toNat : Int) * 281474976710656))) (IntKind.u64.wrap (IntKind.u64.wrap (b5.toNat : Int) * 1099511627776)))
      (IntKind.u64.wrap (IntKind.u64.wrap (b4.toNat : Int) * 4294967296))) (IntKind.u64.wrap (IntKind.u64.wrap (b3.toNat : Int) * 16777216))) (IntKind.u64.wrap (IntKind.u64.wrap (b2.toNat : Int) * 65536))) (IntKind.u64.wrap (IntKind.u64.wrap (b1.toNat : Int) * 256))) (IntKind.u64.wrap (b0.toNat : Int)) =
    ((Lib.leNat [b0, b1, b2, b3, b4, b5, b6, b7] : Nat) : Int) := by
  have h0 := b0.toNat_lt; have h1 := b1.toNat_lt; have h2 := b2.toNat_lt; have h3 := b3.toNat_lt; have h4 := b4.toNat_lt; have h5 := b5.toNat_lt; have h6 := b6.toNat_lt; have h7 := b7.toNat_lt
  have g7 := le_first b7.toNat 72057594037927936 (by omega) (by omega)
  rw [show ((72057594037927936 : Nat) : Int) = 72057594037927936 from rfl] at g7
  rw [g7]
  have g6 := le_join 8 (by omega) 0 b6.toNat 48 281474976710656 (by decide) (by omega) ((b7.toNat : Int) * 72057594037927936) (by omega) (by omega) (by omega) (by omega)
  rw [show ((281474976710656 : Nat) : Int) = 281474976710656 from rfl] at g6
  rw [g6]
  have g5 := le_join 8 (by omega) 0 b5.toNat 40 1099511627776 (by decide) (by omega) _ (show 0 ≤ (b7.toNat : Int) * 72057594037927936 + (b6.toNat : Int) * 281474976710656 by omega) (by omega) (by omega) (by omega)
  rw [show ((1099511627776 : Nat) : Int) = 1099511627776 from rfl] at g5
  rw [g5]
  have g4 := le_join 8 (by omega) 0 b4.toNat 32 4294967296 (by decide) (by omega) _ (show 0 ≤ (b7.toNat : Int) * 72057594037927936 + (b6.toNat : Int) * 281474976710656 + (b5.toNat : Int) * 1099511627776 by omega) (by omega) (by omega) (by omega)
  rw [show ((4294967296 : Nat) : Int) = 4294967296 from rfl] at g4
  rw [g4]
  have g3 := le_join 8 (by omega) 0 b3.toNat 24 16777216 (by decide) (by omega) _ (show 0 ≤ (b7.toNat : Int) * 72057594037927936 + (b6.toNat : Int) * 281474976710656 + (b5.toNat : Int) * 1099511627776 + (b4.toNat : Int) * 4294967296 by omega) (by omega) (by omega) (by omega)
  rw [show ((16777216 : Nat) : Int) = 16777216 from rfl] at g3
  rw [g3]
  have g2 := le_join 8 (by omega) 0 b2.toNat 16 65536 (by decide) (by omega) _ (show 0 ≤ (b7.toNat : Int) * 72057594037927936 + (b6.toNat : Int) * 281474976710656 + (b5.toNat : Int) * 1099511627776 + (b4.toNat : Int) * 4294967296 + (b3.toNat : Int) * 16777216 by omega) (by omega) (by omega) (by omega)
  rw [show ((65536 : Nat) : Int) = 65536 from rfl] at g2
  rw [g2]
  have g1 := le_join 8 (by omega) 0 b1.toNat 8 256 (by decide) (by omega) _ (show 0 ≤ (b7.toNat : Int) * 72057594037927936 + (b6.toNat : Int) * 281474976710656 + (b5.toNat : Int) * 1099511627776 + (b4.toNat : Int) * 4294967296 + (b3.toNat : Int) * 16777216 + (b2.toNat : Int) * 65536 by omega) (by omega) (by omega) (by omega)
  rw [show ((256 : Nat) : Int) = 256 from rfl] at g1
  rw [g1]
  rw [le_last b0.toNat (by omega) _ (by omega) (by omega) (by omega)]
  simp only [Lib.leNat]
  omega

theorem or_none (x : Int) (h0 : 0 ≤ x) (h1 : x < 18446744073709551616) : bits .or .u64 0 x = x := by
  rw [orH 64 0 x (by omega) (by omega) (by omega) h0 (by omega) (by omega)]; omega

theorem le_val4 (b0 b1 b2 b3 : UInt8) :
    bits .or .u64 (bits .or .u64 (bits .or .u64 (bits .or .u64 0 (IntKind.u64.wrap (IntKind.u64.wrap (b3.toNat : Int) * 16777216))) (IntKind.u64.wrap (IntKind.u64.wrap (b2.toNat : Int) * 65536))) (IntKind.u64.wrap (IntKind.u64.wrap (b1.toNat : Int) * 256))) (IntKind.u64.wrap (b0.toNat : Int)) =
    ((Lib.leNat [b0, b1, b2, b3] : Nat) : Int) := by
  have h0 := b0.toNat_lt; have h1 := b1.toNat_lt; have h2 := b2.toNat_lt; have h3 := b3.toNat_lt
  have g3 := le_first b3.toNat 16777216 (by omega) (by omega)
  rw [show ((16777216 : Nat) : Int) = 16777216 from rfl] at g3
  rw [g3, or_none _ (by omega) (by omega)]
  have g2 := le_join 8 (by omega) 0 b2.toNat 16 65536 (by decide) (by omega) _ (show 0 ≤ (b3.toNat : Int) * 16777216 by omega) (by omega) (by omega) (by omega)
  rw [show ((65536 : Nat) : Int) = 65536 from rfl] at g2
  rw [g2]
  have g1 := le_join 8 (by omega) 0 b1.toNat 8 256 (by decide) (by omega) _ (show 0 ≤ (b3.toNat : Int) * 16777216 + (b2.toNat : Int) * 65536 by omega) (by omega) (by omega) (by omega)
  rw [show ((256 : Nat) : Int) = 256 from rfl] at g1
  rw [g1]
  rw [le_last b0.toNat (by omega) _ (by omega) (by omega) (by omega)]
  simp only [Lib.leNat]
  omega

theorem le_val2 (b0 b1 : UInt8) : bits .or .u64 (bits .or .u64 0 (IntKind.u64.wrap (IntKind.u64.wrap (b1.toNat : Int) * 256))) (IntKind.u64.wrap (b0.toNat : Int)) = ((Lib.leNat [b0, b1] : Nat) : Int) := by
  have h0 := b0.toNat_lt; have h1 := b1.toNat_lt
  have g1 := le_first b1.toNat 256 (by omega) (by omega)
  rw [show ((256 : Nat) : Int) = 256 from rfl] at g1
  rw [g1, or_none _ (by omega) (by omega)]
  rw [le_last b0.toNat (by omega) _ (by omega) (by omega) (by omega)]
  simp only [Lib.leNat]
  omega

theorem take8 (g off cap : Nat) (l : List UInt8) (at_ : Nat) (w : World) (hb : BytesAt w g off l) (hl : at_ + 8 ≤ l.length) (hc : l.length ≤ cap) (hm : l.length ≤ 1048576) :
    Calls Tryz.prog 122 #[.slice (some ⟨g, off, none⟩) l.length cap, .int .i64 (at_ : Int), .int .i64 8] w fun e w' => e = .returned (.tuple #[.int .u64 (Lib.leNat ((l.drop at_).take 8) : Int), .int .i64 0]) ∧ w = w' := by
  obtain ⟨s, hs⟩ : ∃ s, (l.drop at_).take 8 = s := ⟨_, rfl⟩
  have hsl : s.length = 8 := by rw [← hs, List.length_take, List.length_drop]; omega
  have h0 := hb.nth at_ 0 8 hl (by omega)
  have h1 := hb.nth at_ 1 8 hl (by omega)
  have h2 := hb.nth at_ 2 8 hl (by omega)
  have h3 := hb.nth at_ 3 8 hl (by omega)
  have h4 := hb.nth at_ 4 8 hl (by omega)
  have h5 := hb.nth at_ 5 8 hl (by omega)
  have h6 := hb.nth at_ 6 8 hl (by omega)
  have h7 := hb.nth at_ 7 8 hl (by omega)
  rw [hs] at *
  match s, hsl with
  | [b0, b1, b2, b3, b4, b5, b6, b7], _ =>
    simp only [List.getD_cons_zero, List.getD_cons_succ, Nat.add_zero] at h0 h1 h2 h3 h4 h5 h6 h7
    have e0 : 0 ≤ (at_ : Int) := by omega
    have e1 : (at_ : Int) ≤ (l.length : Int) := by omega
    have e2 : 8 ≤ (l.length : Int) - (at_ : Int) := by omega
    have e3 : (at_ : Int) + 8 ≤ (cap : Int) := by omega
    clear hs hb
    go_enter Tryz.func122, Tryz.ntmps122
    go_wp2
    refine bodyPost_ret (results_tmp2 rfl _ _ _) rfl ?_
    refine ⟨?_, rfl⟩
    rw [le_val8]; rfl

theorem take4 (g off cap : Nat) (l : List UInt8) (at_ : Nat) (w : World) (hb : BytesAt w g off l) (hl : at_ + 4 ≤ l.length) (hc : l.length ≤ cap) (hm : l.length ≤ 1048576) :
    Calls Tryz.prog 122 #[.slice (some ⟨g, off, none⟩) l.length cap, .int .i64 (at_ : Int), .int .i64 4] w fun e w' => e = .returned (.tuple #[.int .u64 (Lib.leNat ((l.drop at_).take 4) : Int), .int .i64 0]) ∧ w = w' := by
  obtain ⟨s, hs⟩ : ∃ s, (l.drop at_).take 4 = s := ⟨_, rfl⟩
  have hsl : s.length = 4 := by rw [← hs, List.length_take, List.length_drop]; omega
  have h0 := hb.nth at_ 0 4 hl (by omega)
  have h1 := hb.nth at_ 1 4 hl (by omega)
  have h2 := hb.nth at_ 2 4 hl (by omega)
  have h3 := hb.nth at_ 3 4 hl (by omega)
  rw [hs] at *
  match s, hsl with
  | [b0, b1, b2, b3], _ =>
    simp only [List.getD_cons_zero, List.getD_cons_succ, Nat.add_zero] at h0 h1 h2 h3
    have e0 : 0 ≤ (at_ : Int) := by omega
    have e1 : (at_ : Int) ≤ (l.length : Int) := by omega
    have e2 : 4 ≤ (l.length : Int) - (at_ : Int) := by omega
    have e3 : (at_ : Int) + 4 ≤ (cap : Int) := by omega
    clear hs hb
    go_enter Tryz.func122, Tryz.ntmps122
    go_wp2
    refine bodyPost_ret (results_tmp2 rfl _ _ _) rfl ?_
    refine ⟨?_, rfl⟩
    rw [le_val4]; rfl

theorem take2 (g off cap : Nat) (l : List UInt8) (at_ : Nat) (w : World) (hb : BytesAt w g off l) (hl : at_ + 2 ≤ l.length) (hc : l.length ≤ cap) (hm : l.length ≤ 1048576) :
    Calls Tryz.prog 122 #[.slice (some ⟨g, off, none⟩) l.length cap, .int .i64 (at_ : Int), .int .i64 2] w fun e w' => e = .returned (.tuple #[.int .u64 (Lib.leNat ((l.drop at_).take 2) : Int), .int .i64 0]) ∧ w = w' := by
  obtain ⟨s, hs⟩ : ∃ s, (l.drop at_).take 2 = s := ⟨_, rfl⟩
  have hsl : s.length = 2 := by rw [← hs, List.length_take, List.length_drop]; omega
  have h0 := hb.nth at_ 0 2 hl (by omega)
  have h1 := hb.nth at_ 1 2 hl (by omega)
  rw [hs] at *
  match s, hsl with
  | [b0, b1], _ =>
    simp only [List.getD_cons_zero, List.getD_cons_succ, Nat.add_zero] at h0 h1
    have e0 : 0 ≤ (at_ : Int) := by omega
    have e1 : (at_ : Int) ≤ (l.length : Int) := by omega
    have e2 : 2 ≤ (l.length : Int) - (at_ : Int) := by omega
    have e3 : (at_ : Int) + 2 ≤ (cap : Int) := by omega
    clear hs hb
    go_enter Tryz.func122, Tryz.ntmps122
    go_wp2
    refine bodyPost_ret (results_tmp2 rfl _ _ _) rfl ?_
    refine ⟨?_, rfl⟩
    rw [le_val2]; rfl

end Go.Proofs.YtajlhloapglafaaGreatDoor
