/- VarintOrder: for every input the law returns true, and what was there is as it was. No condition. -/
import Derived.Test.YtjjileokdikcmaaRows
import Derived.Test.YtjjileokdikcmaaFrame
import Derived.Test.YtjjileokdikcmaaVarL
namespace Go.Proofs.Ytjjileokdikcmaa.varintOrder
open Go.Proofs.Ytjjileokdikcmaa
open Go.ChangeShapes Go.WideShapes Go.ChangeAt Go.RowKit
open Go.ChangeMaps (open_string shut_string)

theorem own : ownKnob Try.prog.godebug = none := by kernel_rfl
theorem laidOut : laidOutB Try.prog = true := by kernel_rfl

set_option maxRecDepth 100000 in
theorem walk (w : World) (a : Int) (a0 : 0 ≤ a) (a1 : a ≤ 18446744073709551615) (b : Int) (b0 : 0 ≤ b) (b1 : b ≤ 18446744073709551615) :
    Calls Try.prog 4 #[.int .u64 a, .int .u64 b] w (RetVal w (.bool true)) := by
  obtain ⟨a, rfl⟩ := Int.eq_ofNat_of_zero_le a0
  obtain ⟨b, rfl⟩ := Int.eq_ofNat_of_zero_le b0
  have hx10 := Var.put_le10 (n := a) (by omega)
  have hy10 := Var.put_le10 (n := b) (by omega)
  have t10 : decide (((Var.put a).length : Int) ≤ 10) = true := by simp; omega
  have A1 := hide a1
  have B1 := hide b1
  clear a1 b1
  go_enter Try.func4, Try.ntmps4
  go_wp2_with fail
  refine (aliveVar _).mono ?_
  rintro e w1 ⟨rfl, hb1⟩
  go_wp2_with fail
  refine (varPut _ _ a0 A1.out).mono ?_
  rintro e w2 ⟨v2, rfl, hown2, hb2⟩
  have hb2' := below_call hb1 hb1.size hb2
  rw [Int.toNat_natCast] at hown2
  go_wp2_with fail
  refine (varPut _ _ b0 B1.out).mono ?_
  rintro e w3 ⟨v3, rfl, hown3, hb3⟩
  have hb3' := below_call hb2' hb2'.size hb3
  rw [Int.toNat_natCast] at hown3
  obtain ⟨A2, c2, rfl, hr2⟩ := Rd.of_own hown2
  obtain ⟨A3, c3, rfl, hr3⟩ := Rd.of_own hown3
  have hcv2 := run_str (P := Try.prog) w3 Try.underlying24 Try.underlying5 Try.underlying9 (hr2.below hb3)
  have hcv3 := run_str (P := Try.prog) w3 Try.underlying24 Try.underlying5 Try.underlying9 hr3
  clear hown2 hown3 hr2 hr3 hb1 hb2 hb3 hb2'
  rcases Nat.lt_trichotomy a b with h | h | h
  · have hm := Var.put_mono a b (by omega)
    have he : (Var.put a == Var.put b) = false := beq_eq_false_iff_ne.2 fun e => by have := Var.put_inj e; omega
    have t1 : ((a : Int) == (b : Int)) = false := by simp; omega
    go_wp2_with fail
    go_ret
    exact ⟨rfl, hb3'⟩
  · subst h
    go_wp2_with fail
    go_ret
    exact ⟨rfl, hb3'⟩
  · have he : (Var.put a == Var.put b) = false := beq_eq_false_iff_ne.2 fun e => by have := Var.put_inj e; omega
    have t1 : ((a : Int) == (b : Int)) = false := by simp; omega
    go_wp2_with fail
    go_ret
    exact ⟨rfl, hb3'⟩

set_option maxRecDepth 100000 in
theorem lifted (os : Os) (started : os.Started) (H : Type) (enc : TypeId × Value → H) :
    ReturnsInHanded {} Try.checked os 4 .any (Rows.varintOrderSpec.pre6 enc Try.prog Try.f4 Rows.varintOrderRow.domain false) (Rows.varintOrderSpec.post enc Try.prog Try.f4 false true false false) := by
  refine returnsInHanded_of_change (C := Try.checked) own started (by kernel_rfl) Try.func4
    (ChangeSpec.witness6 (enc := enc) (C := Try.checked) false ⟨#[], #[.int .u64 0, .int .u64 0], []⟩ 8 (by kernel_rfl) (by kernel_rfl) (by kernel_rfl) (by kernel_rfl)) ?_
  intro W base args ds gs before hval0 hW hcnd _
  have hval : ∀ (j : Nat) t v, Try.f4.params[j]? = some t → args[j]? = some v → Value.okWide Try.prog W .any base t v := hval0
  have hW' := hW
  obtain ⟨p, q, hA0, hV, rfl, hfz, hnd⟩ := hW
  have hA : DataW.TrodAll enc Try.prog W 0 (fun _ => true) true Try.f4.params.toList args.toList ds p := hA0
  rw [Try.params4] at hA hval
  obtain ⟨v0, vs0, d0, ds0, p0, q0, hargs, rfl, rfl, h0, r0⟩ := trodAll_cons hA
  obtain ⟨v1, vs1, d1, ds1, p1, q1, rfl, rfl, rfl, h1, r1⟩ := trodAll_cons r0
  obtain ⟨rfl, rfl, rfl⟩ := trodAll_nil r1
  obtain rfl : args = #[v0, v1] := by cases args; simp_all
  obtain ⟨rfl, rfl⟩ := trodVars_none hV
  have k0 := h0
  have lt0 : ∀ x ∈ p0, x.block < W.heap.size := by obtain ⟨m, hm⟩ := k0; exact DataW.trod_lt m _ _ _ hm
  have k1 := h1
  have lt1 : ∀ x ∈ p1, x.block < W.heap.size := by obtain ⟨m, hm⟩ := k1; exact DataW.trod_lt m _ _ _ hm
  obtain ⟨a0, rfl, hd0, hp0, w0⟩ := open_int Try.underlying22 (hval 0 22 v0 rfl rfl) h0
  obtain ⟨a1, rfl, hd1, hp1, w1⟩ := open_int Try.underlying22 (hval 1 22 v1 rfl rfl) h1
  clear hA0 hval0
  refine (walk W a0 (bounds_u64 w0).1 (bounds_u64 w0).2 a1 (bounds_u64 w1).1 (bounds_u64 w1).2).mono fun e W' ⟨he, bel⟩ => ?_
  subst he
  exact ⟨_, rfl, _, _, _, [], _, [], hW', trodAll_mk1 (shut_bool Try.underlying4 _), (trodAll_cons_mk (Below.trod laidOut (by kernel_rfl) (of_decide_eq_true (by kernel_rfl)) k0 bel lt0) (trodAll_cons_mk (Below.trod laidOut (by kernel_rfl) (of_decide_eq_true (by kernel_rfl)) k1 bel lt1) trodAll_mk0)), rfl, bel.frame _, fun h => by cases h⟩

theorem over : Rows.varintOrderRow.holds Try.pinned (OpenSpec.ofChange Rows.varintOrderSpec) :=
  OpenClaim.holds_of_wide 4 Try.f4 rfl rfl rfl rfl rfl rfl rfl ⟨rfl, rfl, rfl, rfl, rfl⟩ rfl rfl rfl rfl rfl (by kernel_rfl) Try.func4 (by kernel_rfl)
    (of_decide_eq_true (by kernel_rfl)) (by unfold Func.isWrapper; first | (rw [if_pos (by decide +kernel)]; kernel_rfl) | (rw [if_neg (by decide +kernel)]; exact ⟨rfl, rfl⟩))
    (fun os started H enc _ => lifted os started H enc)

theorem proved : Rows.VarintOrderSaid := over
#print axioms proved
end Go.Proofs.Ytjjileokdikcmaa.varintOrder
