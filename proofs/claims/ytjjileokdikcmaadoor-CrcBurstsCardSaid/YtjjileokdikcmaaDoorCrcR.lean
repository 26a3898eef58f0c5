/- THE WALKS of package crc, more: Open; of the reference: More, Seal, Open; of the examples. -/
import Derived.Test.YtjjileokdikcmaaDoorCrcS
namespace Go.Proofs.YtjjileokdikcmaaDoor
open Go.RowKit

def open_ (l : List UInt8) : Option (List UInt8) := if 4 ≤ l.length ∧ seal_ (l.take (l.length - 4)) = l then some (l.take (l.length - 4)) else none
theorem seal_length (l : List UInt8) : (seal_ l).length = l.length + 4 := by simp [seal_, le4]
theorem open_seal (l : List UInt8) : open_ (seal_ l) = some l := by
  have h1 := seal_length l
  have h2 : (seal_ l).take ((seal_ l).length - 4) = l := by rw [h1, Nat.add_sub_cancel]; unfold seal_; exact List.take_left
  unfold open_
  rw [h2, if_pos ⟨by omega, rfl⟩]
def RetOpen (w : World) (l : List UInt8) (e : Ending) (w' : World) : Prop :=
  (∃ t v, open_ l = some t ∧ e = .returned (.tuple #[v, .bool true]) ∧ w'.ownsRow w.heap.size 5 1 v t.length (bytesV t) ∧ Below w.heap.size w w') ∨
  (open_ l = none ∧ e = .returned (.tuple #[.slice none 0 0, .bool false]) ∧ Below w.heap.size w w')

set_option maxRecDepth 100000 in
theorem crcOpen (w : World) (n c : Nat) (A : Option Addr) (l : List UInt8) (hr : Rd w w.heap.size 1 A n c (bytesV l)) (ht : Table w) (hl : l.length ≤ 1000000) :
    Calls Tryd.prog 13 #[.slice A n c] w (RetOpen w l) := by
  obtain rfl : n = l.length := by have := hr.len; rw [bytesV_length] at this; omega
  have HT := hide ht
  have hpos := ht.pos
  clear ht
  by_cases h4 : 4 ≤ l.length
  · obtain ⟨m, hm⟩ : ∃ m, m = l.length - 4 := ⟨_, rfl⟩
    have hm' : (l.length : Int) - 4 = (m : Int) := by omega
    have hle := hr.le
    have hsl := cut_hi tyBytes A l.length c .i64 (m : Int) m rfl (by omega)
    have hrm : Rd w w.heap.size 1 A m c (bytesV (l.take m)) := by have := hr.pre (hi := m) (by omega); simpa [bytesV, List.map_take] using this
    have hml : (l.take m).length = m := by rw [List.length_take]; omega
    have HM := hide hm
    have hm1 : m ≤ 1000000 := by omega
    clear hm
    go_enter Tryd.func13, Tryd.ntmps13
    go_wp2_with fail
    refine (cloneBytes w _ _ c A _ hrm (bytesV_one _) (by omega) (Nat.le_refl _)).mono ?_
    rintro e w1 ⟨v1, rfl, hown1, hb1⟩
    obtain ⟨A1, c1, rfl, hr1⟩ := Rd.of_own hown1
    clear hm'
    go_wp2_with fail
    refine (crcSeal w1 _ c1 A1 _ hr1 (HT.out.below hb1 hpos) (by omega)).mono ?_
    rintro e w2 ⟨v2, rfl, hown2, hb2⟩
    have hb2' := below_call hb1 hb1.size hb2
    obtain ⟨A2, c2, rfl, hr2⟩ := Rd.of_own hown2
    go_wp2_with fail
    refine (equalBytes w2 w2.heap.size _ _ _ _ A2 A _ l hr2 ((hr.below hb2').more hb2'.size) (Nat.le_refl _)).mono ?_
    rintro e w3 ⟨rfl, hb3⟩
    have hb3' := below_call hb2' hb2'.size hb3
    have hown3 := own_below (own_below hown1 hb2) hb3
    by_cases heq : seal_ (l.take m) = l
    · have t1 : (seal_ (l.take m) == l) = true := beq_iff_eq.2 heq
      have ho : open_ l = some (l.take m) := by unfold open_; rw [← HM.out, if_pos ⟨h4, heq⟩]
      have HO := hide ho
      rw [t1]
      clear heq ho t1 hown1 hown2 hr1 hr2
      go_wp2_with fail
      go_ret2
      exact .inl ⟨_, _, HO.out, rfl, by rw [hml]; exact hown3, hb3'⟩
    · have t1 : (seal_ (l.take m) == l) = false := beq_eq_false_iff_ne.2 heq
      have ho : open_ l = none := by unfold open_; rw [← HM.out, if_neg (fun h => heq h.2)]
      have HO := hide ho
      rw [t1]
      clear heq ho t1 hown1 hown2 hr1 hr2
      go_wp2_with fail
      go_ret2
      exact .inr ⟨HO.out, rfl, hb3'⟩
  · have ho : open_ l = none := by unfold open_; rw [if_neg (fun h => h4 h.1)]
    have HO := hide ho
    have t0 : decide ((l.length : Int) < 4) = true := by simp; omega
    clear h4 ho
    go_enter Tryd.func13, Tryd.ntmps13
    go_wp2_with fail
    go_ret2
    exact .inr ⟨HO.out, rfl, Below.refl _ _⟩

/-- eight rounds of the reference -/
theorem ref_bit (a : Crc.W) : ∃ L S : Nat, L < 2 ∧ S < 4294967296 ∧ bits BinOp.and .u32 (a.toNat : Int) 1 = (L : Int) ∧ (a.toNat : Int) / 2 = (S : Int) ∧
    (L = 1 → bits BinOp.xor .u32 (S : Int) 3988292384 = ((Crc.bit a).toNat : Int)) ∧ (L = 0 → S = (Crc.bit a).toNat) := by
  have ha := word_lt a
  have hs : a.toNat / 2 = (a >>> 1).toNat := by rw [BitVec.toNat_ushiftRight, Nat.shiftRight_eq_div_pow]
  have hl : a.getLsbD 0 = decide (a.toNat % 2 = 1) := by rw [BitVec.getLsbD, Nat.testBit_zero]
  refine ⟨a.toNat % 2, a.toNat / 2, by omega, by omega, ?_, by omega, fun h1 => ?_, fun h0 => ?_⟩
  · have h := u32_and_nat a.toNat 1 ha (by omega)
    rw [nat_mask1] at h
    exact h
  · unfold Crc.bit
    rw [hl, hs]
    simp only [h1, decide_true, if_true]
    exact word_xor (a >>> 1) Crc.poly
  · unfold Crc.bit
    rw [hl, hs]
    simp [h0]

set_option maxRecDepth 100000 in
theorem refMore (w : World) (c0 : Crc.W) (B n c : Nat) (A : Option Addr) (l : List UInt8) (hr : Rd w B 1 A n c (bytesV l)) :
    Calls Tryd.prog 10 #[.int .u32 (c0.toNat : Int), .slice A n c] w fun e w' => e = .returned (.int .u32 ((Crc.more c0 l).toNat : Int)) ∧ w = w' := by
  obtain rfl : n = l.length := by have := hr.len; rw [bytesV_length] at this; omega
  have hmax : l.length ≤ 9223372036854775807 := by have h1 := hr.le; have h2 := hr.cap; unfold maxLen at h2; omega
  have hn0 : bits BinOp.xor .u32 (c0.toNat : Int) 4294967295 = ((~~~ c0).toNat : Int) := by
    have h := word_xor c0 (BitVec.allOnes 32)
    rw [BitVec.xor_allOnes] at h
    exact h
  obtain ⟨N0, hN0⟩ : ∃ N : Nat, N = (~~~ c0).toNat := ⟨_, rfl⟩
  rw [← hN0] at hn0
  have HN0 := hide hN0
  clear hN0
  go_enter Tryd.func10, Tryd.ntmps10
  go_wp2
  clear hn0
  go_loop [0, 5] (fun cv iv => ∃ (k C : Nat), k ≤ l.length ∧ iv = .int .i64 k ∧ cv = .int .u32 C ∧ Hid (C = (Crc.raw (~~~ c0) (l.take k)).toNat)) (fun _ iv => l.length - (intOf iv).toNat)
  case atStart => exact ⟨0, N0, Nat.zero_le _, rfl, rfl, hide HN0.out⟩
  case round =>
    obtain ⟨k, C, hk, rfl, rfl, hC⟩ := hrel
    by_cases hlt : k < l.length
    · obtain ⟨b, off, rfl, _, hc⟩ := hr.cellAt (k := k) (by rw [bytesV_length]; exact hlt)
      obtain ⟨x, hx⟩ : ∃ x : UInt8, x = l[k] := ⟨_, rfl⟩
      have hc' : w.cell? ⟨b, off + k, none⟩ = some (.int .u8 (x.toNat : Int)) := by rw [hc, hx]; simp [bytesV, byteV]
      have hst : Crc.raw (~~~ c0) (l.take (k + 1)) = Crc.byteS (Crc.raw (~~~ c0) (l.take k)) x := by
        rw [List.take_succ_eq_append_getElem hlt, Crc.raw_append, ← hx]; rfl
      have e1 := word_byte (Crc.raw (~~~ c0) (l.take k)) x
      obtain ⟨S, hS⟩ : ∃ S : Crc.W, S = Crc.raw (~~~ c0) (l.take k) ^^^ BitVec.ofNat 32 x.toNat := ⟨_, rfl⟩
      rw [← hC.out, ← hS] at e1
      have hst2 : Crc.raw (~~~ c0) (l.take (k + 1)) = Crc.bits 8 S := by rw [hst, hS]; rfl
      have HS2 := hide hst2
      obtain ⟨C1, hC1⟩ : ∃ C1 : Nat, C1 = S.toNat := ⟨_, rfl⟩
      rw [← hC1] at e1
      have HC1 := hide hC1
      have hx256 := x.toNat_lt
      clear hc hx hst hS hst2 hC1
      go_wp2
      clear e1
      go_loop [0, 6] (fun cv jv => ∃ (j C2 : Nat), j ≤ 8 ∧ jv = .int .i64 j ∧ cv = .int .u32 C2 ∧ Hid (C2 = (Crc.bits j S).toNat)) (fun _ jv => 8 - (intOf jv).toNat)
      case atStart => exact ⟨0, C1, by omega, rfl, rfl, hide HC1.out⟩
      case round =>
        obtain ⟨j, C2, hj, rfl, rfl, hC2⟩ := hrel
        by_cases hj8 : j < 8
        · have hs1 : Crc.bits (j + 1) S = Crc.bit (Crc.bits j S) := Crc.bits_add j 1 S
          obtain ⟨L, S2, g1, g2, g3, g4, g5, g6⟩ := ref_bit (Crc.bits j S)
          rw [← hs1] at g5 g6
          rw [← hC2.out] at g3 g4
          rcases (show L = 0 ∨ L = 1 by omega) with h0 | h0
          · have g7 := hide (g6 h0)
            have t1 : ((L : Int) == 1) = false := by rw [h0]; rfl
            clear g5 g6 hs1 h0
            go_wp2
            go_round
            case rel => exact ⟨j + 1, S2, by omega, by go_num, rfl, g7⟩
            case measure => simp [intOf]; omega
          · have g7 := g5 h0
            obtain ⟨C4, hC4⟩ : ∃ C4 : Nat, C4 = (Crc.bits (j + 1) S).toNat := ⟨_, rfl⟩
            rw [← hC4] at g7
            have HC4 := hide hC4
            have t1 : ((L : Int) == 1) = true := by rw [h0]; rfl
            clear g5 g6 hs1 h0 hC4
            go_wp2
            go_round
            case rel => exact ⟨j + 1, C4, by omega, by go_num, rfl, HC4⟩
            case measure => simp [intOf]; omega
        · obtain rfl : j = 8 := by omega
          go_wp2
          go_round
          case rel => exact ⟨k + 1, C2, by omega, by go_num, rfl, hide (by rw [HS2.out]; exact hC2.out)⟩
          case measure => simp [intOf]; omega
    · obtain rfl : k = l.length := by omega
      have hfin : bits BinOp.xor .u32 ((Crc.raw (~~~ c0) l).toNat : Int) 4294967295 = ((~~~ (Crc.raw (~~~ c0) l)).toNat : Int) := by
        have h := word_xor (Crc.raw (~~~ c0) l) (BitVec.allOnes 32)
        rw [BitVec.xor_allOnes] at h
        exact h
      have hC' := hC.out
      rw [List.take_length] at hC'
      rw [← hC'] at hfin
      have HF := hide hfin
      clear hfin hC'
      go_wp2
      go_ret
      refine ⟨?_, rfl⟩
      show Ending.returned (.int .u32 (bits BinOp.xor .u32 (C : Int) 4294967295)) = _
      rw [HF.out]
      rfl
end Go.Proofs.YtjjileokdikcmaaDoor
