/- THE WALKS of whole numbers in package varint and its reference: PutInt, GetInt. -/
import Derived.Test.YtjjileokdikcmaaVarG
namespace Go.Proofs.Ytjjileokdikcmaa
open Go.RowKit

/-- a whole number as a number -/
def zig (n : Int) : Nat := if 0 ≤ n then (2 * n).toNat else (-2 * n - 1).toNat
/-- and back -/
def unzig (m : Nat) : Int := if m % 2 = 0 then (m / 2 : Nat) else -((m / 2 : Nat) : Int) - 1
theorem zig_lt {n : Int} (h0 : -9223372036854775808 ≤ n) (h1 : n ≤ 9223372036854775807) : zig n < 18446744073709551616 := by
  unfold zig; split <;> omega
theorem unzig_zig (n : Int) : unzig (zig n) = n := by
  unfold unzig zig; split <;> split <;> omega
theorem zig_unzig (m : Nat) : zig (unzig m) = m := by
  unfold unzig zig; split <;> split <;> omega

theorem xor_ones (a : Nat) (ha : a < 18446744073709551616) : bits .xor .u64 (a : Int) 18446744073709551615 = 18446744073709551615 - (a : Int) := by
  have h := u64_xor_nat a 18446744073709551615 ha (by omega)
  have e : a ^^^ 18446744073709551615 = 18446744073709551615 - a := by
    have h1 : (BitVec.ofNat 64 a ^^^ BitVec.allOnes 64) = ~~~ (BitVec.ofNat 64 a) := BitVec.xor_allOnes
    have h2 := congrArg BitVec.toNat h1
    rw [BitVec.toNat_xor, BitVec.toNat_not, BitVec.toNat_allOnes, BitVec.toNat_ofNat] at h2
    rw [Nat.mod_eq_of_lt (by omega)] at h2
    exact h2
  rw [e] at h
  rw [show (18446744073709551615 : Int) = ((18446744073709551615 : Nat) : Int) from rfl, h]
  omega
theorem xor_zero (a : Nat) (ha : a < 18446744073709551616) : bits .xor .u64 (a : Int) 0 = (a : Int) := by
  have h := u64_xor_nat a 0 ha (by omega)
  simpa using h
theorem putInt_arg (n : Int) (h0 : -9223372036854775808 ≤ n) (h1 : n ≤ 9223372036854775807) :
    bits BinOp.xor .u64 (IntKind.u64.wrap (wrap64 (n * 2))) (IntKind.u64.wrap (n / 9223372036854775808)) = (zig n : Int) := by
  by_cases hs : 0 ≤ n
  · have e1 : n / 9223372036854775808 = 0 := by omega
    have e2 : IntKind.u64.wrap (wrap64 (n * 2)) = ((2 * n).toNat : Int) := by
      rw [show IntKind.u64.wrap (wrap64 (n * 2)) = (wrap64 (n * 2)) % 18446744073709551616 by simp [IntKind.wrap, IntKind.bits, IntKind.signed]]
      unfold wrap64; omega
    rw [e1, e2, show IntKind.u64.wrap 0 = 0 from rfl, xor_zero _ (by omega)]
    unfold zig; rw [if_pos hs]
  · have e1 : n / 9223372036854775808 = -1 := by omega
    have e2 : IntKind.u64.wrap (wrap64 (n * 2)) = ((2 * n + 18446744073709551616).toNat : Int) := by
      rw [show IntKind.u64.wrap (wrap64 (n * 2)) = (wrap64 (n * 2)) % 18446744073709551616 by simp [IntKind.wrap, IntKind.bits, IntKind.signed]]
      unfold wrap64; omega
    rw [e1, e2, show IntKind.u64.wrap (-1) = 18446744073709551615 from rfl, xor_ones _ (by omega)]
    unfold zig; rw [if_neg hs]; omega

theorem varPutInt (n : Int) (w : World) (h0 : -9223372036854775808 ≤ n) (h1 : n ≤ 9223372036854775807) :
    Calls Try.prog 13 #[.int .i64 n] w (RetBytes w (Var.put (zig n))) := by
  have hz := hide (zig_lt h0 h1)
  have ha := putInt_arg n h0 h1
  clear h0 h1
  go_enter Try.func13, Try.ntmps13
  go_wp2_with fail
  refine (varPut _ _ (by omega) (by have := hz.out; omega)).mono ?_
  rintro e w1 ⟨v1, rfl, hown1, hb1⟩
  rw [Int.toNat_natCast] at hown1
  clear ha
  go_wp2_with fail
  go_ret
  exact ⟨v1, rfl, hown1, hb1⟩

theorem refPutInt (n : Int) (w : World) (h0 : -9223372036854775808 ≤ n) (h1 : n ≤ 9223372036854775807) :
    Calls Try.prog 14 #[.int .i64 n] w (RetBytes w (Var.put (zig n))) := by
  have hz := hide (zig_lt h0 h1)
  by_cases hs : 0 ≤ n
  · have ht : decide ((0 : Int) ≤ n) = true := by simp; omega
    have ha : IntKind.u64.wrap (2 * IntKind.u64.wrap n) = (zig n : Int) := by
      rw [IntWalk.u64_in n ⟨by omega, by omega⟩, IntWalk.u64_in _ ⟨by omega, by omega⟩]
      unfold zig; rw [if_pos hs]; omega
    clear h0 h1 hs
    go_enter Try.func14, Try.ntmps14
    go_wp2_with fail
    refine (refPut _ _ (by omega) (by have := hz.out; omega)).mono ?_
    rintro e w1 ⟨v1, rfl, hown1, hb1⟩
    rw [Int.toNat_natCast] at hown1
    clear ha
    go_wp2_with fail
    go_ret
    exact ⟨v1, rfl, hown1, hb1⟩
  · have ht : decide ((0 : Int) ≤ n) = false := by simp; omega
    have ha : IntKind.u64.wrap (IntKind.u64.wrap (2 * IntKind.u64.wrap (wrap64 (-wrap64 (n + 1)))) + 1) = (zig n : Int) := by
      rw [IntWalk.wrap64_in (n + 1) ⟨by omega, by omega⟩, IntWalk.wrap64_in _ ⟨by omega, by omega⟩, IntWalk.u64_in (-(n + 1)) ⟨by omega, by omega⟩,
        IntWalk.u64_in (2 * -(n + 1)) ⟨by omega, by omega⟩, IntWalk.u64_in _ ⟨by omega, by omega⟩]
      unfold zig; rw [if_neg hs]; omega
    clear h0 h1 hs
    go_enter Try.func14, Try.ntmps14
    go_wp2_with fail
    refine (refPut _ _ (by omega) (by have := hz.out; omega)).mono ?_
    rintro e w1 ⟨v1, rfl, hown1, hb1⟩
    rw [Int.toNat_natCast] at hown1
    clear ha
    go_wp2_with fail
    go_ret
    exact ⟨v1, rfl, hown1, hb1⟩
end Go.Proofs.Ytjjileokdikcmaa
