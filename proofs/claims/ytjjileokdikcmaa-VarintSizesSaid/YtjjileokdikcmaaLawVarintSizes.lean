/- VarintSizes: for every input the law returns true, and what was there is as it was. No condition. -/
import Derived.Test.YtjjileokdikcmaaRows
import Derived.Test.YtjjileokdikcmaaFrame
import Derived.Test.YtjjileokdikcmaaVarL
namespace Go.Proofs.Ytjjileokdikcmaa.varintSizes
open Go.Proofs.Ytjjileokdikcmaa
open Go.ChangeShapes Go.WideShapes Go.ChangeAt Go.RowKit
open Go.ChangeMaps (open_string shut_string)

theorem own : ownKnob Try.prog.godebug = none := by kernel_rfl
theorem laidOut : laidOutB Try.prog = true := by kernel_rfl

theorem len_step (m : Nat) (h : 128 ≤ m) : (Var.put m).length = (Var.put (m / 128)).length + 1 := by rw [Var.put_ge h]; simp
theorem byte_big (n k : Nat) (h : k < (Var.put n).length) : (127 < ((Var.put n)[k]).toNat) ↔ k < (Var.put n).length - 1 := by
  induction n using Nat.strongRecOn generalizing k with
  | _ n ih =>
    by_cases hn : n < 128
    · have e : Var.put n = [UInt8.ofNat n] := Var.put_lt hn
      have hk : k = 0 := by rw [e] at h; simpa using h
      subst hk
      simp only [e, List.getElem_cons_zero, Var.toNat_ofNat_lt (show n < 256 by omega)]
      simp; omega
    · have e : Var.put n = UInt8.ofNat (n % 128 + 128) :: Var.put (n / 128) := Var.put_ge (by omega)
      have hp := Var.put_pos (n / 128)
      cases k with
      | zero =>
        simp only [e, List.getElem_cons_zero, Var.toNat_ofNat_lt (show n % 128 + 128 < 256 by omega)]
        simp; omega
      | succ k =>
        have hk : k < (Var.put (n / 128)).length := by rw [e] at h; simpa using h
        have := ih (n / 128) (by omega) k hk
        simp only [e, List.getElem_cons_succ, List.length_cons]
        omega
set_option maxRecDepth 100000 in
theorem walk (w : World) (a : Int) (a0 : 0 ≤ a) (a1 : a ≤ 18446744073709551615) :
    Calls Try.prog 5 #[.int .u64 a] w (RetVal w (.bool true)) := by
  obtain ⟨x, rfl⟩ := Int.eq_ofNat_of_zero_le a0
  have hx10 := Var.put_le10 (n := x) (by omega)
  have A1 := hide a1
  clear a1
  go_enter Try.func5, Try.ntmps5
  go_wp2_with fail
  refine (aliveVar _).mono ?_
  rintro e w1 ⟨rfl, hb1⟩
  go_wp2_with fail
  go_loop [3, 4] (fun sv mv => ∃ m k : Nat, m ≤ x ∧ sv = .int .i64 k ∧ mv = .int .u64 m ∧ k + (Var.put m).length ≤ 11 ∧ Hid (k + (Var.put m).length = (Var.put x).length + 1)) (fun _ mv => (intOf mv).toNat)
  case atStart => exact ⟨x, 1, Nat.le_refl _, rfl, rfl, by omega, hide (by omega)⟩
  case round =>
    obtain ⟨m, k, hm, rfl, rfl, hk11, hk⟩ := hrel
    have hmp := Var.put_pos m
    by_cases hlt : 128 ≤ m
    · have hst := hide (len_step m hlt)
      have ht : decide ((127 : Int) < (m : Int)) = true := by simp; omega
      have hq : IntKind.u64.wrap ((m : Int) / 128) = (m : Int) / 128 := IntWalk.u64_in _ ⟨by omega, by have := A1.out; omega⟩
      go_wp2_with fail
      go_round
      case rel => exact ⟨m / 128, k + 1, by omega, by go_num, by go_num, by have := hst.out; omega, hide (by have := hst.out; have := hk.out; omega)⟩
      case measure => simp [intOf]; omega
    · have ht : decide ((127 : Int) < (m : Int)) = false := by simp; omega
      have hk1 : k = (Var.put x).length := by have h1 := hk.out; rw [Var.put_lt (n := m) (by omega)] at h1; simpa using h1
      subst hk1
      go_wp2_with fail
      refine (varPut _ _ a0 A1.out).mono ?_
      rintro e w2 ⟨v2, rfl, hown2, hb2⟩
      have hb2' := below_call hb1 hb1.size hb2
      rw [Int.toNat_natCast] at hown2
      obtain ⟨A2, c2, rfl, hr2⟩ := Rd.of_own hown2
      clear hown2 hb1 hb2
      go_wp2_with fail
      go_loop [6] (fun iv => ∃ j : Nat, j ≤ (Var.put x).length ∧ iv = .int .i64 j) (fun iv => (Var.put x).length - (intOf iv).toNat)
      case atStart => exact ⟨0, Nat.zero_le _, rfl⟩
      case round =>
        obtain ⟨j, hj, rfl⟩ := hrel
        by_cases hjl : j < (Var.put x).length
        · obtain ⟨b, off, rfl, _, hc⟩ := hr2.cellAt (k := j) (by rw [bytesV_length]; exact hjl)
          have hbb := byte_big x j hjl
          obtain ⟨y, hy⟩ : ∃ y : UInt8, y = (Var.put x)[j] := ⟨_, rfl⟩
          rw [← hy] at hbb
          have hc' : w2.cell? ⟨b, off + j, none⟩ = some (.int .u8 (y.toNat : Int)) := by rw [hc, hy]; simp [bytesV, byteV]
          clear hc hy
          by_cases hl : j < (Var.put x).length - 1
          · have t1 : decide ((127 : Int) < (y.toNat : Int)) = true := by have := hbb.2 hl; simp; omega
            have hl' : (j : Int) < ((Var.put x).length : Int) - 1 := by omega
            have HB := hide hbb
            clear hbb
            go_wp2_with fail
            go_round
            case rel => exact ⟨j + 1, by omega, by go_num⟩
            case measure => simp [intOf]; omega
          · have t1 : decide ((127 : Int) < (y.toNat : Int)) = false := by have := mt hbb.1 hl; simp; omega
            have hl' : ¬ (j : Int) < ((Var.put x).length : Int) - 1 := by omega
            have HB := hide hbb
            clear hbb
            go_wp2_with fail
            go_round
            case rel => exact ⟨j + 1, by omega, by go_num⟩
            case measure => simp [intOf]; omega
        · go_wp2_with fail
          go_ret
          exact ⟨rfl, hb2'⟩

set_option maxRecDepth 100000 in
theorem lifted (os : Os) (started : os.Started) (H : Type) (enc : TypeId × Value → H) :
    ReturnsInHanded {} Try.checked os 5 .any (Rows.varintSizesSpec.pre6 enc Try.prog Try.f5 Rows.varintSizesRow.domain false) (Rows.varintSizesSpec.post enc Try.prog Try.f5 false true false false) := by
  refine returnsInHanded_of_change (C := Try.checked) own started (by kernel_rfl) Try.func5
    (ChangeSpec.witness6 (enc := enc) (C := Try.checked) false ⟨#[], #[.int .u64 0], []⟩ 8 (by kernel_rfl) (by kernel_rfl) (by kernel_rfl) (by kernel_rfl)) ?_
  intro W base args ds gs before hval0 hW hcnd _
  have hval : ∀ (j : Nat) t v, Try.f5.params[j]? = some t → args[j]? = some v → Value.okWide Try.prog W .any base t v := hval0
  have hW' := hW
  obtain ⟨p, q, hA0, hV, rfl, hfz, hnd⟩ := hW
  have hA : DataW.TrodAll enc Try.prog W 0 (fun _ => true) true Try.f5.params.toList args.toList ds p := hA0
  rw [Try.params5] at hA hval
  obtain ⟨v0, vs0, d0, ds0, p0, q0, hargs, rfl, rfl, h0, r0⟩ := trodAll_cons hA
  obtain ⟨rfl, rfl, rfl⟩ := trodAll_nil r0
  obtain rfl : args = #[v0] := by cases args; simp_all
  obtain ⟨rfl, rfl⟩ := trodVars_none hV
  have k0 := h0
  have lt0 : ∀ x ∈ p0, x.block < W.heap.size := by obtain ⟨m, hm⟩ := k0; exact DataW.trod_lt m _ _ _ hm
  obtain ⟨a0, rfl, hd0, hp0, w0⟩ := open_int Try.underlying22 (hval 0 22 v0 rfl rfl) h0
  clear hA0 hval0
  refine (walk W a0 (bounds_u64 w0).1 (bounds_u64 w0).2).mono fun e W' ⟨he, bel⟩ => ?_
  subst he
  exact ⟨_, rfl, _, _, _, [], _, [], hW', trodAll_mk1 (shut_bool Try.underlying4 _), (trodAll_cons_mk (Below.trod laidOut (by kernel_rfl) (of_decide_eq_true (by kernel_rfl)) k0 bel lt0) trodAll_mk0), rfl, bel.frame _, fun h => by cases h⟩

theorem over : Rows.varintSizesRow.holds Try.pinned (OpenSpec.ofChange Rows.varintSizesSpec) :=
  OpenClaim.holds_of_wide 5 Try.f5 rfl rfl rfl rfl rfl rfl rfl ⟨rfl, rfl, rfl, rfl, rfl⟩ rfl rfl rfl rfl rfl (by kernel_rfl) Try.func5 (by kernel_rfl)
    (of_decide_eq_true (by kernel_rfl)) (by unfold Func.isWrapper; first | (rw [if_pos (by decide +kernel)]; kernel_rfl) | (rw [if_neg (by decide +kernel)]; exact ⟨rfl, rfl⟩))
    (fun os started H enc _ => lifted os started H enc)

theorem proved : Rows.VarintSizesSaid := over
#print axioms proved
end Go.Proofs.Ytjjileokdikcmaa.varintSizes
