/- THE WALK of varint.Get. -/
import Derived.Test.YtlccpchlclpnaaaVarW
namespace Go.Proofs.Ytlccpchlclpnaaa
open Go.RowKit

theorem or_step (acc k x : Nat) (hk : k ≤ 9) (hx : x < 256) (hacc : acc < 2 ^ (7 * k)) (h9 : k = 9 → x ≤ 1) :
    bits BinOp.or .u64 (acc : Int) (IntKind.u64.wrap (IntKind.u64.wrap (bits BinOp.and .u8 (x : Int) 127) * 2 ^ (7 * k))) = ((acc + x % 128 * 2 ^ (7 * k) : Nat) : Int) := by
  have e1 : bits BinOp.and .u8 (x : Int) 127 = ((x % 128 : Nat) : Int) := by
    have := u8_and_nat x 127 hx (by omega)
    rw [nat_mask7] at this
    exact this
  rw [e1, IntWalk.u64_in ((x % 128 : Nat) : Int) ⟨by omega, by omega⟩]
  have e2 : ((x % 128 : Nat) : Int) * 2 ^ (7 * k) = ((x % 128 * 2 ^ (7 * k) : Nat) : Int) := by
    rw [Int.natCast_mul, Int.natCast_pow]; rfl
  have hb : x % 128 * 2 ^ (7 * k) ≤ 9223372036854775808 := by
    by_cases h : k = 9
    · have := h9 h
      subst h
      have : x % 128 ≤ 1 := by omega
      have := Nat.mul_le_mul_right (2 ^ (7 * 9)) this
      omega
    · have h1 : 2 ^ (7 * k) ≤ 2 ^ 56 := Nat.pow_le_pow_right (by omega) (by omega)
      have h2 : x % 128 * 2 ^ (7 * k) ≤ 127 * 2 ^ 56 := Nat.mul_le_mul (by omega) h1
      omega
  have ha : acc < 9223372036854775808 := by
    have h1 : 2 ^ (7 * k) ≤ 2 ^ 63 := Nat.pow_le_pow_right (by omega) (by omega)
    omega
  rw [e2, IntWalk.u64_in ((x % 128 * 2 ^ (7 * k) : Nat) : Int) ⟨by omega, by omega⟩, u64_or_nat _ _ (by omega) (by omega), Nat.or_comm,
    nat_join (7 * k) _ _ (Nat.mul_mod_left _ _) hacc, Nat.add_comm]
theorem acc_step (acc k x : Nat) (hacc : acc < 2 ^ (7 * k)) : acc + x % 128 * 2 ^ (7 * k) < 2 ^ (7 * (k + 1)) := by
  have e : 2 ^ (7 * (k + 1)) = 128 * 2 ^ (7 * k) := by rw [Nat.mul_add, Nat.pow_add]; omega
  have h : x % 128 * 2 ^ (7 * k) ≤ 127 * 2 ^ (7 * k) := Nat.mul_le_mul_right _ (by omega)
  rw [e]; omega
theorem drop_cons_of (l : List UInt8) (k : Nat) (x : UInt8) (h : k < l.length) (hx : x = l[k]) : l.drop k = x :: l.drop (k + 1) := by
  rw [List.drop_eq_getElem_cons h, hx]

def RetGet (w : World) (l : List UInt8) (e : Ending) (w' : World) : Prop :=
  e = .returned (.tuple #[.int .u64 ((Var.get l).1 : Int), .int .i64 ((Var.get l).2.1 : Int), .int .i64 ((Var.get l).2.2 : Int)]) ∧ w = w'

set_option maxRecDepth 100000 in
theorem varGet (w : World) (B n c : Nat) (A : Option Addr) (l : List UInt8) (hr : Rd w B 1 A n c (bytesV l)) :
    Calls Try.prog 87 #[.slice A n c] w (RetGet w l) := by
  obtain rfl : n = l.length := by have := hr.len; rw [bytesV_length] at this; omega
  have hmax : l.length ≤ 9223372036854775807 := by have h1 := hr.le; have h2 := hr.cap; unfold maxLen at h2; omega
  go_enter Try.func87, Try.ntmps87
  go_wp2
  go_loop [5, 10] (fun nv iv => ∃ (k acc : Nat), k ≤ l.length ∧ k ≤ 9 ∧ iv = .int .i64 k ∧ nv = .int .u64 acc ∧ Hid (Var.get l = Var.getL k acc (l.drop k)) ∧ Hid (acc < 2 ^ (7 * k))) (fun _ i => l.length - (intOf i).toNat)
  case atStart => exact ⟨0, 0, by omega, by omega, rfl, rfl, hide rfl, hide (by decide)⟩
  case round =>
    obtain ⟨k, acc, hk, hk9, rfl, rfl, hg, hacc⟩ := hrel
    by_cases hlt : k < l.length
    · obtain ⟨b, off, rfl, _, hc⟩ := hr.cellAt (k := k) (by rw [bytesV_length]; exact hlt)
      obtain ⟨x, hx⟩ : ∃ x : UInt8, x = l[k] := ⟨_, rfl⟩
      have hc' : w.cell? ⟨b, off + k, none⟩ = some (.int .u8 (x.toNat : Int)) := by rw [hc, hx]; simp [bytesV, byteV]
      have hx256 := x.toNat_lt
      clear hc
      have HD := hide (drop_cons_of l k x hlt hx)
      clear hx
      by_cases h9 : k = 9 ∧ 1 < x.toNat
      · obtain ⟨rfl, h1⟩ := h9
        have t2 : decide ((1 : Int) < (x.toNat : Int)) = true := by simp; omega
        have hv : Var.get l = (0, 0, 31) := by rw [hg.out, HD.out]; simp [Var.getL, h1]
        have HV := hide hv
        clear hv
        go_wp2
        go_ret3
        exact ⟨by rw [HV.out]; rfl, rfl⟩
      · by_cases hc : x.toNat < 128
        · have t3 : decide ((x.toNat : Int) < 128) = true := by simp; omega
          have hor := hide (or_step acc k x.toNat hk9 hx256 hacc.out (by intro h; omega))
          by_cases h0 : x.toNat = 0 ∧ 0 < k
          · have hv : Var.get l = (0, 0, 31) := by
              rw [hg.out, HD.out]
              simp only [Var.getL]
              rw [if_neg h9, if_pos hc, if_pos h0]
            have HV := hide hv
            clear hv
            have t4 : ((x.toNat : Int) == 0) = true := by simp; omega
            have t5 : decide (0 < k) = true := by simp; omega
            by_cases hk9' : k = 9
            · subst hk9'
              have t2 : decide ((1 : Int) < (x.toNat : Int)) = false := by simp; omega
              clear h9 h0
              go_wp2
              go_ret3
              exact ⟨by rw [HV.out]; rfl, rfl⟩
            · have t1 : ((k : Int) == 9) = false := by simp; omega
              clear h9 h0
              go_wp2
              go_ret3
              exact ⟨by rw [HV.out]; rfl, rfl⟩
          · have hv : Var.get l = (acc + x.toNat % 128 * 2 ^ (7 * k), k + 1, 0) := by
              rw [hg.out, HD.out]
              simp only [Var.getL]
              rw [if_neg h9, if_pos hc, if_neg h0]
            have HV := hide hv
            clear hv
            by_cases hx0 : x.toNat = 0
            · obtain rfl : k = 0 := by omega
              simp only [Nat.add_zero] at hc'
              have t4 : ((x.toNat : Int) == 0) = true := by simp; omega
              have t1 : (((0 : Nat) : Int) == 9) = false := by decide
              clear h9 h0 hx0
              go_wp2
              go_ret3
              exact ⟨by rw [HV.out]; have h3 := hor.out; simp only [Nat.mul_zero, Int.pow_zero, Int.mul_one] at h3; simp only [Nat.mul_zero]; rw [← h3]; rfl, rfl⟩
            · have t4 : ((x.toNat : Int) == 0) = false := by simp; omega
              by_cases hk9' : k = 9
              · subst hk9'
                have t2 : decide ((1 : Int) < (x.toNat : Int)) = false := by simp; omega
                clear h9 h0
                go_wp2
                go_ret3
                exact ⟨by rw [HV.out, ← hor.out]; rfl, rfl⟩
              · have t1 : ((k : Int) == 9) = false := by simp; omega
                clear h9 h0
                go_wp2
                go_ret3
                exact ⟨by rw [HV.out, ← hor.out]; rfl, rfl⟩
        · have t3 : decide ((x.toNat : Int) < 128) = false := by simp; omega
          have t1 : ((k : Int) == 9) = false := by simp; omega
          have hor := hide (or_step acc k x.toNat hk9 hx256 hacc.out (by intro h; omega))
          have hv : Var.get l = Var.getL (k + 1) (acc + x.toNat % 128 * 2 ^ (7 * k)) (l.drop (k + 1)) := by
            rw [hg.out, HD.out]
            simp only [Var.getL]
            rw [if_neg h9, if_neg hc]
          have HV := hide hv
          have hk8 : k + 1 ≤ 9 := by omega
          clear hv h9
          go_wp2
          go_round
          case rel => exact ⟨k + 1, _, by omega, by omega, by go_num, by rw [← hor.out], hide HV.out, hide (acc_step _ _ _ hacc.out)⟩
          case measure => simp [intOf]; omega
    · have hv : Var.get l = (0, 0, 30) := by rw [hg.out, List.drop_eq_nil_of_le (by omega)]; rfl
      have HV := hide hv
      clear hv
      go_wp2
      go_ret3
      exact ⟨by rw [HV.out]; rfl, rfl⟩
end Go.Proofs.Ytlccpchlclpnaaa
