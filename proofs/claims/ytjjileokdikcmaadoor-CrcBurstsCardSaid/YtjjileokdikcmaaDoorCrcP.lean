/- PLAIN LAWS of the sum: one byte turned is seen; a sealed text with one byte turned is none's. No program in sight. -/
import Derived.Test.YtjjileokdikcmaaDoorCrcL
namespace Go.Proofs.YtjjileokdikcmaaDoor
open Go.RowKit

theorem getD_set_same (l : List UInt8) (k : Nat) (y : UInt8) (h : k < l.length) : (l.set k y).getD k 0 = y := by simp [List.getD, h]
theorem getD_set_other (l : List UInt8) (k j : Nat) (y : UInt8) (h : j ≠ k) : (l.set k y).getD j 0 = l.getD j 0 := by
  simp only [List.getD, List.getElem?_set, if_neg (Ne.symm h)]
theorem bitAt_set (l : List UInt8) (k m : Nat) (y : UInt8) (h : k < l.length) : Crc.bitAt (l.set k y) m = if m / 8 = k then y.toNat.testBit (m % 8) else Crc.bitAt l m := by
  unfold Crc.bitAt
  split
  · next e => rw [e, getD_set_same l k y h]
  · next e => rw [getD_set_other l k _ y e]
theorem testBit_small {t j : Nat} (h : t < 256) (hj : 8 ≤ j) : t.testBit j = false := by
  apply Nat.testBit_lt_two_pow
  exact Nat.lt_of_lt_of_le h (show 2 ^ 8 ≤ 2 ^ j from Nat.pow_le_pow_right (by omega) hj)

theorem crc_one (a : List UInt8) (k : Nat) (y : UInt8) (hk : k < a.length) (hne : y ≠ a[k]) : Crc.crc a ≠ Crc.crc (a.set k y) := by
  intro he
  have ht : (a[k] ^^^ y).toNat < 256 := (a[k] ^^^ y).toNat_lt
  have hd : ∀ m, m < 8 * a.length → Crc.bitAt (a.set k y) m = xor (Crc.bitAt a m) (decide (8 * k ≤ m) && decide (m < 8 * k + 32) && ((a[k] ^^^ y).toNat).testBit (m - 8 * k)) := by
    intro m _
    rw [bitAt_set a k m y hk]
    by_cases h : m / 8 = k
    · have e1 : m - 8 * k = m % 8 := by omega
      have e2 : 8 * k ≤ m := by omega
      have e3 : m < 8 * k + 32 := by omega
      have e4 : a.getD k 0 = a[k] := by simp [List.getD, hk]
      simp only [h, if_true, e1, e2, e3, decide_true, Bool.true_and, UInt8.toNat_xor, Nat.testBit_xor, Crc.bitAt, e4]
      cases a[k].toNat.testBit (m % 8) <;> cases y.toNat.testBit (m % 8) <;> rfl
    · rw [if_neg h]
      by_cases h2 : 8 * k ≤ m
      · rw [testBit_small ht (by omega)]; simp
      · simp [h2]
  have h2 := (Crc.crc_burst a (a.set k y) (by simp) (8 * k) (a[k] ^^^ y).toNat hd).1 he
  apply hne
  have hz : (a[k] ^^^ y).toNat = 0 := by
    apply Nat.eq_of_testBit_eq
    intro j
    rw [Nat.zero_testBit]
    by_cases hj : j < 8
    · cases hb : (a[k] ^^^ y).toNat.testBit j with
      | false => rfl
      | true => have := h2 j (by omega) hb; omega
    · exact testBit_small ht (by omega)
  have hz2 : a[k] ^^^ y = 0 := UInt8.toNat_inj.1 (by simpa using hz)
  exact (UInt8.xor_eq_zero_iff.1 hz2).symm

theorem ofNat_inj {x y : Nat} (h : UInt8.ofNat x = UInt8.ofNat y) : x % 256 = y % 256 := by
  have := congrArg UInt8.toNat h
  simpa [UInt8.toNat_ofNat'] using this
theorem le4_inj {c d : Crc.W} (h : le4 c = le4 d) : c = d := by
  unfold le4 at h
  simp only [List.cons.injEq, and_true] at h
  obtain ⟨h1, h2, h3, h4⟩ := h
  have := ofNat_inj h1
  have := ofNat_inj h2
  have := ofNat_inj h3
  have := ofNat_inj h4
  have hc := word_lt c
  have hd := word_lt d
  apply BitVec.eq_of_toNat_eq
  omega

theorem open_turned (l : List UInt8) (k : Nat) (y : UInt8) (hk : k < (seal_ l).length) (hne : y ≠ (seal_ l)[k]) : open_ ((seal_ l).set k y) = none := by
  have hlen := seal_length l
  unfold open_
  rw [if_neg]
  rintro ⟨_, hs⟩
  rw [List.length_set, hlen, Nat.add_sub_cancel] at hs
  by_cases hkl : k < l.length
  · have e1 : (seal_ l).set k y = l.set k y ++ le4 (Crc.crc l) := by unfold seal_; rw [List.set_append_left _ _ hkl]
    rw [e1] at hs
    have e2 : (l.set k y ++ le4 (Crc.crc l)).take l.length = l.set k y := by have := List.take_left (l₁ := l.set k y) (l₂ := le4 (Crc.crc l)); rwa [List.length_set] at this
    rw [e2] at hs
    unfold seal_ at hs
    have h3 := List.append_cancel_left hs
    refine crc_one l k y hkl ?_ (le4_inj h3).symm
    have e4 : (seal_ l)[k] = l[k] := by unfold seal_; exact List.getElem_append_left hkl
    rw [← e4]
    exact hne
  · have e1 : ((seal_ l).set k y).take l.length = l := by
      rw [List.take_set_of_le (by omega)]
      unfold seal_
      exact List.take_left
    rw [e1] at hs
    have h1 : (seal_ l)[k] = ((seal_ l).set k y)[k]'(by rw [List.length_set]; exact hk) := by simp only [← hs]
    rw [List.getElem_set_self] at h1
    exact hne h1.symm
theorem retOpen_one {w w' : World} {l : List UInt8} {e : Ending} (h : RetOpen w l e w') :
    Below w.heap.size w w' ∧ ∃ A c, e = .returned (.tuple #[.slice A ((open_ l).getD []).length c, .bool (open_ l).isSome]) ∧ Rd w' w'.heap.size 1 A ((open_ l).getD []).length c (bytesV ((open_ l).getD [])) := by
  rcases h with ⟨t, v, h1, rfl, hown, hb⟩ | ⟨h1, rfl, hb⟩
  · obtain ⟨A, c, rfl, hr⟩ := Rd.of_own hown
    exact ⟨hb, A, c, by rw [h1]; rfl, by rw [h1]; exact hr⟩
  · exact ⟨hb, none, 0, by rw [h1]; rfl, by rw [h1]; exact Rd.nil _ _ _⟩
end Go.Proofs.YtjjileokdikcmaaDoor
