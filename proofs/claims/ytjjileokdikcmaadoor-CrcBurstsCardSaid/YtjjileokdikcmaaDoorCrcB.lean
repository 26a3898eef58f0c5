/- PLAIN LAWS of bursts of turned bits. No program in sight. -/
import Derived.Test.YtjjileokdikcmaaDoorCrcP
namespace Go.Proofs.YtjjileokdikcmaaDoor
open Go.RowKit

/-- L is l with the first i bits of t turned, from bit fr on -/
def Flips (l L : List UInt8) (fr t i : Nat) : Prop := L.length = l.length ∧ ∀ k, k < 8 * l.length → Crc.bitAt L k = xor (Crc.bitAt l k) (decide (fr ≤ k) && decide (k < fr + i) && t.testBit (k - fr))
/-- one of them lies within -/
def Turned (l : List UInt8) (fr t i : Nat) : Prop := ∃ j, j < i ∧ t.testBit j = true ∧ fr + j < 8 * l.length

theorem flips_start (l : List UInt8) (fr t : Nat) : Flips l l fr t 0 := ⟨rfl, fun k _ => by
  by_cases h : fr ≤ k
  · have h2 : decide (k < fr + 0) = false := decide_eq_false (by omega)
    rw [h2]; simp
  · simp [h]⟩
theorem turned_start (l : List UInt8) (fr t : Nat) : ¬ Turned l fr t 0 := by rintro ⟨j, hj, _⟩; omega
theorem flips_no {l L : List UInt8} {fr t i : Nat} (h : Flips l L fr t i) (hn : ¬ (t.testBit i = true ∧ fr + i < 8 * l.length)) : Flips l L fr t (i + 1) := ⟨h.1, fun k hk => by
  rw [h.2 k hk]
  by_cases e : k = fr + i
  · have ht : t.testBit i = false := by
      cases hb : t.testBit i with
      | false => rfl
      | true => exact absurd ⟨hb, by omega⟩ hn
    have e2 : k - fr = i := by omega
    rw [e2, ht]
    simp
  · have e2 : (decide (k < fr + (i + 1))) = decide (k < fr + i) := by
      by_cases h2 : k < fr + i
      · have h3 : k < fr + (i + 1) := by omega
        simp only [h2, h3]
      · have h3 : ¬ k < fr + (i + 1) := by omega
        simp only [h2, h3]
    rw [e2]⟩
theorem turned_no {l : List UInt8} {fr t i : Nat} (hn : ¬ (t.testBit i = true ∧ fr + i < 8 * l.length)) : Turned l fr t (i + 1) ↔ Turned l fr t i := by
  constructor
  · rintro ⟨j, h1, h2, h3⟩
    by_cases e : j = i
    · subst e; exact absurd ⟨h2, h3⟩ hn
    · exact ⟨j, by omega, h2, h3⟩
  · rintro ⟨j, h1, h2, h3⟩
    exact ⟨j, by omega, h2, h3⟩
theorem turned_yes {l : List UInt8} {fr t i : Nat} (h1 : t.testBit i = true) (h2 : fr + i < 8 * l.length) : Turned l fr t (i + 1) := ⟨i, by omega, h1, h2⟩
theorem flips_yes {l L : List UInt8} {fr t i : Nat} (h : Flips l L fr t i) (h1 : t.testBit i = true) (h2 : fr + i < 8 * l.length) (x z : UInt8) (hx : x = L.getD ((fr + i) / 8) 0) (hz : z.toNat = x.toNat ^^^ 2 ^ ((fr + i) % 8)) :
    Flips l (L.set ((fr + i) / 8) z) fr t (i + 1) := by
  refine ⟨by rw [List.length_set]; exact h.1, fun k hk => ?_⟩
  have hlen := h.1
  rw [bitAt_set L _ k z (by omega)]
  have hh := h.2 k hk
  by_cases e : k = fr + i
  · subst e
    have e2 : fr + i - fr = i := by omega
    have h3 : fr ≤ fr + i := by omega
    have h4 : ¬ fr + i < fr + i := by omega
    have h5 : fr + i < fr + (i + 1) := by omega
    simp only [h3, h4, decide_true, decide_false, Bool.and_false, Bool.false_and, Bool.xor_false] at hh
    rw [if_pos rfl, hz, Nat.testBit_xor, Nat.testBit_two_pow_self, e2, h1, ← hh]
    unfold Crc.bitAt
    rw [← hx]
    simp only [h3, h5, decide_true, Bool.and_true]
  · have e1 : (decide (k < fr + (i + 1))) = decide (k < fr + i) := by
      by_cases h3 : k < fr + i
      · have h4 : k < fr + (i + 1) := by omega
        simp only [h3, h4]
      · have h4 : ¬ k < fr + (i + 1) := by omega
        simp only [h3, h4]
    rw [e1, ← hh]
    split
    · next e3 =>
      have e4 : (fr + i) % 8 ≠ k % 8 := by omega
      rw [hz, Nat.testBit_xor, Nat.testBit_two_pow_of_ne e4, Bool.xor_false]
      unfold Crc.bitAt
      rw [e3, ← hx]
    · rfl
theorem flips_end {l L : List UInt8} {fr t : Nat} (h : Flips l L fr t 32) : Crc.crc l = Crc.crc L ↔ ¬ Turned l fr t 32 := by
  rw [Crc.crc_burst l L h.1.symm fr t h.2]
  constructor
  · rintro h1 ⟨j, a, b, c⟩
    have := h1 j a b
    omega
  · intro h1 j a b
    apply Classical.byContradiction
    intro c
    exact h1 ⟨j, a, b, by omega⟩
theorem wrap_small (k : Nat) (h : k < 40000) : wrap64 (k : Int) = (k : Int) := IntWalk.wrap64_in _ ⟨by omega, by omega⟩
theorem sum_k (fr i : Nat) (h1 : fr < 40000) (h2 : i < 32) : wrap64 ((fr : Int) + (i : Int)) = ((fr + i : Nat) : Int) := by
  rw [IntWalk.wrap64_in _ ⟨by omega, by omega⟩]; omega
theorem div8 (k : Nat) (h : k < 40032) : wrap64 ((k : Int).tdiv 8) = ((k / 8 : Nat) : Int) := by
  rw [Int.tdiv_eq_ediv_of_nonneg (by omega), IntWalk.wrap64_in _ ⟨by omega, by omega⟩]; omega
theorem rem8 (k : Nat) (h : k < 40032) : wrap64 ((k : Int).tmod 8) = ((k % 8 : Nat) : Int) := by
  rw [Int.tmod_eq_emod_of_nonneg (by omega), IntWalk.wrap64_in _ ⟨by omega, by omega⟩]; omega
theorem bit_word (t i : Nat) (h : t < 4294967296) : bits BinOp.and .u32 ((t : Int) / 2 ^ i) 1 = ((t / 2 ^ i % 2 : Nat) : Int) := by
  have h2 : t / 2 ^ i < 4294967296 := Nat.lt_of_le_of_lt (Nat.div_le_self _ _) h
  have e : (t : Int) / 2 ^ i = ((t / 2 ^ i : Nat) : Int) := by simp
  rw [e]
  generalize t / 2 ^ i = q at *
  have h3 := u32_and_nat q 1 h2 (by decide)
  rw [nat_mask1] at h3
  exact h3
theorem bit_one {t i : Nat} (h : t < 4294967296) (hb : t.testBit i = true) : bits BinOp.and .u32 ((t : Int) / 2 ^ i) 1 = 1 := by
  rw [bit_word t i h]
  rw [Nat.testBit_eq_decide_div_mod_eq] at hb
  rw [of_decide_eq_true hb]
  rfl
theorem bit_nil {t i : Nat} (h : t < 4294967296) (hb : t.testBit i = false) : bits BinOp.and .u32 ((t : Int) / 2 ^ i) 1 = 0 := by
  rw [bit_word t i h]
  rw [Nat.testBit_eq_decide_div_mod_eq] at hb
  have := of_decide_eq_false hb
  rw [show t / 2 ^ i % 2 = 0 by generalize t / 2 ^ i = q at *; omega]
  rfl
theorem sum_k2 (fr i : Nat) (h1 : fr < 40000) (h2 : i < 32) : ∃ k, k = fr + i ∧ (fr : Int) + (i : Int) = (k : Int) ∧ wrap64 (k : Int) = (k : Int) := ⟨_, rfl, by omega, IntWalk.wrap64_in _ ⟨by omega, by omega⟩⟩
theorem small_k {fr M i k : Nat} (h1 : fr < M) (h2 : M ≤ 40000) (h3 : i < 32) (h : k = fr + i) : k < 40032 := by omega
theorem q_lt {a b k q M : Nat} (hM : M = 8 * a) (hq : q = k / 8) (hk : k < M) (h : b = a) : q < b := by omega
theorem qr (k : Nat) (h : k < 40032) : ∃ q r, q = k / 8 ∧ r = k % 8 ∧ wrap64 ((k : Int).tdiv 8) = (q : Int) ∧ wrap64 ((k : Int).tmod 8) = (r : Int) ∧ r < 8 := ⟨_, _, rfl, rfl, div8 k h, rem8 k h, Nat.mod_lt _ (by omega)⟩
theorem meas32 (i : Nat) (h : i < 32) : 32 - (intOf (.int .i64 ((i : Int) + 1))).toNat < 32 - (intOf (.int .i64 (i : Int))).toNat := by simp [intOf]; omega
theorem xor_bit (x : UInt8) (k : Nat) : ∃ z : UInt8, bits BinOp.xor .u8 (x.toNat : Int) ((2 : Int) ^ (k % 8) % 256) = (z.toNat : Int) ∧ z.toNat = x.toNat ^^^ 2 ^ (k % 8) := by
  have h8 : k % 8 < 8 := Nat.mod_lt _ (by omega)
  generalize k % 8 = r at *
  refine ⟨x ^^^ UInt8.ofNat (2 ^ r), ?_, ?_⟩
  · have e : (2 : Int) ^ r % 256 = ((UInt8.ofNat (2 ^ r)).toNat : Int) := by
      have : r = 0 ∨ r = 1 ∨ r = 2 ∨ r = 3 ∨ r = 4 ∨ r = 5 ∨ r = 6 ∨ r = 7 := by omega
      rcases this with rfl | rfl | rfl | rfl | rfl | rfl | rfl | rfl <;> rfl
    rw [e, u8_xor_nat _ _ x.toNat_lt (UInt8.toNat_lt _), UInt8.toNat_xor]
  · rw [UInt8.toNat_xor]
    have : r = 0 ∨ r = 1 ∨ r = 2 ∨ r = 3 ∨ r = 4 ∨ r = 5 ∨ r = 6 ∨ r = 7 := by omega
    rcases this with rfl | rfl | rfl | rfl | rfl | rfl | rfl | rfl <;> rfl
theorem cast_bne (a b : Nat) (d : Bool) (h : (a != b) = d) : (((a : Int) != (b : Int)) == d) = true := by
  subst h
  have e : ((a : Int) != (b : Int)) = (a != b) := by
    rw [Bool.eq_iff_iff, bne_iff_ne, bne_iff_ne]
    omega
  rw [e]
  simp
end Go.Proofs.YtjjileokdikcmaaDoor
