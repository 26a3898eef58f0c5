/- THE WALKS of package crc: More, Of. The table's cells are a hypothesis. -/
import Derived.Test.YtjjileokdikcmaaDoorTy
import Derived.Test.YtjjileokdikcmaaDoorAbs
import Derived.Test.YtjjileokdikcmaaDoorCrc
namespace Go.Proofs.YtjjileokdikcmaaDoor
open Go.RowKit

/-- the table of half bytes lies in the program's variable -/
def Table (w : World) : Prop := ∀ j, j < 16 → w.cell? ⟨0, j, none⟩ = some (.int .u32 ((Crc.tab j).toNat : Int))
theorem Table.below {B : Nat} {w w' : World} (h : Table w) (hb : Below B w w') (hB : 0 < B) : Table w' := fun j hj => (hb.cell (p := ⟨0, j, none⟩) hB).trans (h j hj)
theorem Table.pos {w : World} (h : Table w) : 0 < w.heap.size := World.block_lt_of_cell? w _ (h 0 (by omega))

theorem word_lt (c : Crc.W) : c.toNat < 4294967296 := c.isLt
theorem word_xor (a b : Crc.W) : bits BinOp.xor .u32 (a.toNat : Int) (b.toNat : Int) = ((a ^^^ b).toNat : Int) := by
  rw [u32_xor_nat _ _ (word_lt a) (word_lt b), BitVec.toNat_xor]

theorem word_not (a : Crc.W) : bits BinOp.xor .u32 IntKind.u32.max (a.toNat : Int) = ((~~~ a).toNat : Int) := by
  have h := word_xor (BitVec.allOnes 32) a
  rw [BitVec.allOnes_xor] at h
  exact h
theorem word_byte (a : Crc.W) (x : UInt8) : bits BinOp.xor .u32 (a.toNat : Int) (x.toNat : Int) = ((a ^^^ BitVec.ofNat 32 x.toNat).toNat : Int) := by
  have h := word_xor a (BitVec.ofNat 32 x.toNat)
  have hx := x.toNat_lt
  rw [BitVec.toNat_ofNat, Nat.mod_eq_of_lt (by omega)] at h
  exact h
theorem half_step (a : Crc.W) : ∃ Q T : Nat, Q < 16 ∧ T = (Crc.tab Q).toNat ∧ bits BinOp.and .u32 (a.toNat : Int) 15 = (Q : Int) ∧ bits BinOp.xor .u32 ((a.toNat : Int) / 16) (T : Int) = ((Crc.half a).toNat : Int) := by
  refine ⟨a.toNat % 16, _, Nat.mod_lt _ (by omega), rfl, ?_, ?_⟩
  · have h := u32_and_nat a.toNat 15 (word_lt a) (by omega)
    rw [nat_mask4] at h
    exact h
  · have e : (a.toNat : Int) / (16 : Int) = ((a >>> 4).toNat : Int) := by
      rw [BitVec.toNat_ushiftRight, Nat.shiftRight_eq_div_pow]; omega
    rw [e, word_xor]
    rfl
/-- one byte, by half bytes -/
theorem byte_step (a : Crc.W) (x : UInt8) : ∃ C1 Q1 T1 C2 Q2 T2 : Nat, Q1 < 16 ∧ Q2 < 16 ∧ T1 = (Crc.tab Q1).toNat ∧ T2 = (Crc.tab Q2).toNat ∧ C1 < 4294967296 ∧ C2 < 4294967296 ∧
    bits BinOp.xor .u32 (a.toNat : Int) (x.toNat : Int) = (C1 : Int) ∧ bits BinOp.and .u32 (C1 : Int) 15 = (Q1 : Int) ∧ bits BinOp.xor .u32 ((C1 : Int) / 16) (T1 : Int) = (C2 : Int) ∧
    bits BinOp.and .u32 (C2 : Int) 15 = (Q2 : Int) ∧ bits BinOp.xor .u32 ((C2 : Int) / 16) (T2 : Int) = ((Crc.byteS a x).toNat : Int) := by
  obtain ⟨Q1, T1, h1, h2, h3, h4⟩ := half_step (a ^^^ BitVec.ofNat 32 x.toNat)
  obtain ⟨Q2, T2, g1, g2, g3, g4⟩ := half_step (Crc.half (a ^^^ BitVec.ofNat 32 x.toNat))
  rw [Crc.byteS_half] at g4
  exact ⟨_, Q1, T1, _, Q2, T2, h1, g1, h2, g2, word_lt _, word_lt _, word_byte a x, h3, h4, g3, g4⟩

set_option maxRecDepth 100000 in
theorem crcMore (w : World) (c0 : Crc.W) (B n c : Nat) (A : Option Addr) (l : List UInt8) (hr : Rd w B 1 A n c (bytesV l)) (ht : Table w) :
    Calls Tryd.prog 11 #[.int .u32 (c0.toNat : Int), .slice A n c] w fun e w' => e = .returned (.int .u32 ((Crc.more c0 l).toNat : Int)) ∧ w = w' := by
  obtain rfl : n = l.length := by have := hr.len; rw [bytesV_length] at this; omega
  have hmax : l.length ≤ 9223372036854775807 := by have h1 := hr.le; have h2 := hr.cap; unfold maxLen at h2; omega
  have HT := hide ht
  have hn0 := word_not c0
  obtain ⟨N0, hN0⟩ : ∃ N : Nat, N = (~~~ c0).toNat := ⟨_, rfl⟩
  rw [← hN0] at hn0
  have HN0 := hide hN0
  clear ht hN0
  go_enter Tryd.func11, Tryd.ntmps11
  go_wp2
  clear hn0
  go_loop [0, 11] (fun cv iv => ∃ (k C : Nat), k ≤ l.length ∧ iv = .int .i64 k ∧ cv = .int .u32 C ∧ Hid (C = (Crc.raw (~~~ c0) (l.take k)).toNat)) (fun _ iv => l.length - (intOf iv).toNat)
  case atStart => exact ⟨0, N0, Nat.zero_le _, rfl, rfl, hide HN0.out⟩
  case round =>
    obtain ⟨k, C, hk, rfl, rfl, hC⟩ := hrel
    by_cases hlt : k < l.length
    · obtain ⟨b, off, rfl, _, hc⟩ := hr.cellAt (k := k) (by rw [bytesV_length]; exact hlt)
      obtain ⟨x, hx⟩ : ∃ x : UInt8, x = l[k] := ⟨_, rfl⟩
      have hc' : w.cell? ⟨b, off + k, none⟩ = some (.int .u8 (x.toNat : Int)) := by rw [hc, hx]; simp [bytesV, byteV]
      have hst : Crc.raw (~~~ c0) (l.take (k + 1)) = Crc.byteS (Crc.raw (~~~ c0) (l.take k)) x := by
        rw [List.take_succ_eq_append_getElem hlt, Crc.raw_append, ← hx]; rfl
      obtain ⟨C1, Q1, T1, C2, Q2, T2, q1, q2, d1, d2, l1, l2, e1, e2, e3, e4, e5⟩ := byte_step (Crc.raw (~~~ c0) (l.take k)) x
      have t1 := HT.out Q1 q1
      have t2 := HT.out Q2 q2
      rw [← d1] at t1
      rw [← d2] at t2
      rw [← hC.out] at e1
      rw [← hst] at e5
      obtain ⟨C3, hC3⟩ : ∃ C3, C3 = (Crc.raw (~~~ c0) (l.take (k + 1))).toNat := ⟨_, rfl⟩
      rw [← hC3] at e5
      have HC3 := hide hC3
      have hx256 := x.toNat_lt
      clear hc hx hst d1 d2 hC3
      go_wp2
      go_round
      case rel => exact ⟨k + 1, C3, by omega, by go_num, rfl, HC3⟩
      case measure => simp [intOf]; omega
    · obtain rfl : k = l.length := by omega
      have hfin := word_not (Crc.raw (~~~ c0) l)
      have hC' := hC.out
      rw [List.take_length] at hC'
      rw [← hC'] at hfin
      have HF := hide hfin
      clear hfin hC'
      go_wp2
      go_ret
      refine ⟨?_, rfl⟩
      show Ending.returned (.int .u32 (bits BinOp.xor .u32 IntKind.u32.max (C : Int))) = _
      rw [HF.out]
      rfl
theorem crcOf (w : World) (B n c : Nat) (A : Option Addr) (l : List UInt8) (hr : Rd w B 1 A n c (bytesV l)) (ht : Table w) :
    Calls Tryd.prog 9 #[.slice A n c] w fun e w' => e = .returned (.int .u32 ((Crc.crc l).toNat : Int)) ∧ w = w' := by
  have HT := hide ht
  clear ht
  go_enter Tryd.func9, Tryd.ntmps9
  go_wp2_with fail
  refine (crcMore w 0#32 B n c A l hr HT.out).mono ?_
  rintro e w1 ⟨rfl, rfl⟩
  go_wp2_with fail
  go_ret
  exact ⟨rfl, rfl⟩
end Go.Proofs.YtjjileokdikcmaaDoor
