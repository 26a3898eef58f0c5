/- THE WALKS of package varint: Put, PutInt, Get, GetInt: what they compute, as lists of bytes and numbers. No condition but the arguments' kinds. -/
import Derived.Test.YtlccpchlclpnaaaTy
import Derived.Test.YtlccpchlclpnaaaVar
namespace Go.Proofs.Ytlccpchlclpnaaa
open Go.RowKit

theorem byte_or (m : Nat) : bits BinOp.or .u8 ((m : Int) % 256) 128 = ((UInt8.ofNat (m % 128 + 128)).toNat : Int) := by
  rw [Var.toNat_ofNat_lt (by omega)]
  have e : (m : Int) % 256 = ((m % 256 : Nat) : Int) := by omega
  rw [e]
  have h := u8_or_nat (m % 256) 128 (by omega) (by omega)
  have h2 : m % 256 ||| 128 = m % 128 + 128 := by
    rcases (show m % 256 / 128 = 0 ∨ m % 256 / 128 = 1 by omega) with h4 | h4
    · have : m % 256 = m % 128 := by omega
      rw [this, Nat.or_comm, nat_join 7 128 (m % 128) (by decide) (by omega)]; omega
    · have h5 : m % 256 = 128 + m % 128 := by omega
      rw [h5, ← nat_join 7 128 (m % 128) (by decide) (by omega), Nat.or_comm, ← Nat.or_assoc, Nat.or_self, nat_join 7 128 (m % 128) (by decide) (by omega)]; omega
  rw [← h2]
  exact h
theorem byte_more (m : Nat) : Value.int .u8 (bits BinOp.or .u8 ((m : Int) % 256) 128) = byteV (UInt8.ofNat (m % 128 + 128)) := by
  unfold byteV; rw [byte_or]
theorem byte_last {m : Nat} (h : m < 128) : Value.int .u8 (m : Int) = byteV (UInt8.ofNat m) := by
  unfold byteV; rw [Var.toNat_ofNat_lt (by omega)]

theorem varPut (n : Int) (w : World) (h0 : 0 ≤ n) (h1 : n ≤ 18446744073709551615) :
    Calls Try.prog 69 #[.int .u64 n] w (RetBytes w (Var.put n.toNat)) := by
  obtain ⟨N, rfl⟩ := Int.eq_ofNat_of_zero_le h0
  rw [Int.toNat_natCast]
  have H1 := hide h1
  clear h1 h0
  go_enter Try.func69, Try.ntmps69
  go_wp2
  go_loopw [0, 3] (fun nv bv wr => ∃ (m : Nat) (l : List UInt8), m ≤ N ∧ nv = .int .u64 m ∧ Hid (Var.put N = l ++ Var.put m) ∧ wr.ownsRow w.heap.size 5 1 bv l.length (bytesV l) ∧ Below w.heap.size w wr) (fun nv _ _ => (intOf nv).toNat)
  case atStart => exact ⟨N, [], Nat.le_refl _, rfl, hide (by simp), World.ownsRow_nil _ _ _ _, Below.refl _ _⟩
  case round =>
    obtain ⟨m, l, hm, rfl, hp, hown, hb⟩ := hrel
    have hlen : l.length + (Var.put m).length ≤ 10 := by have h1 := Var.put_le10 (n := N) (by have := H1.out; omega); rw [hp.out] at h1; simpa using h1
    have hpos := Var.put_pos m
    by_cases hlt : 128 ≤ m
    · have ht : decide ((128 : Int) ≤ (m : Int)) = true := by simp; omega
      go_wp2_with (at_builtin; refine wpList_app _ tyBytes rfl _ _ rfl w.heap.size _ _ _ rfl (hown.alloc _) (wr.heap.size + 1) _ 1 1 _ rfl (Rd.lit wr 5 _ rfl (by decide)) (one_int _ _) ?c2 ?c3 ?_)
      case c2 => omega
      case c3 => have := hb.size; simp; omega
      intro v1 w1 hown1 hg1 hat1
      have hb1 : Below w.heap.size w w1 := below_app (hb.alloc hb.size _) (Nat.le_refl _) (hown.alloc _) hg1 (by have := hb.size; simp; omega)
      clear hg1 hat1 hown hb
      go_wp2
      go_roundw
      case rel =>
        refine ⟨m / 128, l ++ [UInt8.ofNat (m % 128 + 128)], by omega, by go_num, hide (by rw [hp.out, Var.put_ge hlt]; simp), ?_, hb1⟩
        rw [byte_more] at hown1
        simpa [bytesV] using hown1
      case measure => simp [intOf]; omega
    · have ht : decide ((128 : Int) ≤ (m : Int)) = false := by simp; omega
      go_wp2_with (at_builtin; refine wpList_app _ tyBytes rfl _ _ rfl w.heap.size _ _ _ rfl (hown.alloc _) (wr.heap.size + 1) _ 1 1 _ rfl (Rd.lit wr 5 _ rfl (by decide)) (one_int _ _) ?c2 ?c3 ?_)
      case c2 => omega
      case c3 => have := hb.size; simp; omega
      intro v1 w1 hown1 hg1 hat1
      have hb1 : Below w.heap.size w w1 := below_app (hb.alloc hb.size _) (Nat.le_refl _) (hown.alloc _) hg1 (by have := hb.size; simp; omega)
      clear hg1 hat1 hown hb
      go_wp2
      go_ret
      refine ⟨v1, rfl, ?_, hb1⟩
      rw [byte_last (by omega)] at hown1
      rw [hp.out, Var.put_lt (by omega)]
      simpa [bytesV] using hown1

theorem refPut_any (k : Nat) : ∀ (n : Int) (w : World), 0 ≤ n → n ≤ k → Hid (n ≤ 18446744073709551615) →
    Calls Try.prog 70 #[.int .u64 n] w (RetBytes w (Var.put n.toNat)) := by
  induction k with
  | zero =>
    intro n w h0 hk H1
    obtain rfl : n = 0 := by omega
    go_enter Try.func70, Try.ntmps70
    go_wp2_with fail
    go_ret
    refine ⟨_, rfl, ?_, (Below.refl _ _).alloc (Nat.le_refl _) _⟩
    have := own_lit w 5 1 1 #[.int .u8 0] (Nat.le_refl _) (by decide) rfl
    simpa [Var.put_lt, bytesV, byteV] using this
  | succ k ih =>
    intro n w h0 hk H1
    have IH := hide ih
    clear ih
    obtain ⟨N, rfl⟩ := Int.eq_ofNat_of_zero_le h0
    rw [Int.toNat_natCast]
    by_cases hlt : N < 128
    · have ht : decide ((N : Int) < (128 : Int)) = true := by simp; omega
      go_enter Try.func70, Try.ntmps70
      go_wp2_with fail
      go_ret
      refine ⟨_, rfl, ?_, (Below.refl _ _).alloc (Nat.le_refl _) _⟩
      have := own_lit w 5 1 1 #[.int .u8 (N : Int)] (Nat.le_refl _) (by decide) rfl
      rw [byte_last hlt] at this
      rw [byte_last hlt, Var.put_lt hlt]
      simpa [bytesV] using this
    · have ht : decide ((N : Int) < (128 : Int)) = false := by simp; omega
      have hq : IntKind.u64.wrap ((N : Int) / 128) = (N : Int) / 128 := IntWalk.u64_in _ ⟨by omega, by have := H1.out; omega⟩
      go_enter Try.func70, Try.ntmps70
      go_wp2_with fail
      refine (IH.out _ _ (by omega) (by omega) (hide (by have := H1.out; omega))).mono ?_
      rintro e w1 ⟨v1, rfl, hown1, hb1⟩
      have hp : ((N : Int) / 128).toNat = N / 128 := by omega
      rw [hp] at hown1
      have hlit := own_below (own_lit w (base := w.heap.size) 5 1 1 #[.int .u8 ((N : Int) % 128 + 128)] (Nat.le_refl _) (by decide) rfl) hb1
      have hlen := Var.put_le10 (n := N / 128) (by have := H1.out; omega)
      have hz := hb1.size
      simp only [World.size_alloc] at hz
      have hb0 : Below w.heap.size w w1 := ((Below.refl _ _).alloc (Nat.le_refl _) _).trans (hb1.mono (by simp))
      obtain ⟨A, c, rfl, hr⟩ := Rd.of_own hown1
      clear hp hq
      go_wp2_with (at_builtin; go_loud (refine wpList_app _ tyBytes rfl _ _ rfl w.heap.size _ _ _ rfl hlit w1.heap.size _ _ _ _ rfl hr (bytesV_one _) ?c2 ?c3 ?_))
      case c2 => omega
      case c3 => omega
      intro v2 w2 hown2 hg2 hat2
      have hb2 : Below w.heap.size w w2 := below_app hb0 (Nat.le_refl _) hlit hg2 (by omega)
      clear hg2 hat2
      go_wp2
      go_ret
      refine ⟨v2, rfl, ?_, hb2⟩
      rw [Var.put_ge (by omega)]
      have e : Value.int .u8 ((N : Int) % 128 + 128) = byteV (UInt8.ofNat (N % 128 + 128)) := by
        unfold byteV; rw [Var.toNat_ofNat_lt (by omega)]; congr 1
      rw [e] at hown2
      simpa [bytesV, Nat.add_comm] using hown2
theorem refPut (n : Int) (w : World) (h0 : 0 ≤ n) (h1 : n ≤ 18446744073709551615) :
    Calls Try.prog 70 #[.int .u64 n] w (RetBytes w (Var.put n.toNat)) :=
  refPut_any n.toNat n w h0 (by omega) (hide h1)
end Go.Proofs.Ytlccpchlclpnaaa
