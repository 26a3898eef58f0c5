/- VarintBack: for every input the law returns true, and what was there is as it was. No condition. -/
import Derived.Test.YtjjileokdikcmaaRows
import Derived.Test.YtjjileokdikcmaaFrame
import Derived.Test.YtjjileokdikcmaaVarL
namespace Go.Proofs.Ytjjileokdikcmaa.varintBack
open Go.Proofs.Ytjjileokdikcmaa
open Go.ChangeShapes Go.WideShapes Go.ChangeAt Go.RowKit
open Go.ChangeMaps (open_string shut_string)

theorem own : ownKnob Try.prog.godebug = none := by kernel_rfl
theorem laidOut : laidOutB Try.prog = true := by kernel_rfl

set_option maxRecDepth 100000 in
set_option maxHeartbeats 1000000 in
theorem walk (w : World) (a : Int) (a0 : 0 ≤ a) (a1 : a ≤ 18446744073709551615) (A : Option Addr) (n c : Nat) (l : List UInt8) (hr : Rd w w.heap.size 1 A n c (bytesV l)) (hz : n ≤ 140737488351232) :
    Calls Try.prog 9 #[.int .u64 a, .slice A n c] w (RetVal w (.bool true)) := by
  obtain ⟨x, rfl⟩ := Int.eq_ofNat_of_zero_le a0
  obtain rfl : n = l.length := by have := hr.len; rw [bytesV_length] at this; omega
  have hx10 := Var.put_le10 (n := x) (by omega)
  have hxp := Var.put_pos x
  have hgp := hide (Var.get_put (n := x) (by omega) l)
  have A1 := hide a1
  have hw64 : -9223372036854775808 ≤ wrap64 (x : Int) ∧ wrap64 (x : Int) ≤ 9223372036854775807 := by unfold wrap64; omega
  have hzl := zig_lt hw64.1 hw64.2
  have hy10 := Var.put_le10 hzl
  have hyp := Var.put_pos (zig (wrap64 (x : Int)))
  have hgy := hide (Var.get_put hzl l)
  have W64 := hide hw64
  obtain ⟨y, hy⟩ : ∃ y, y = wrap64 (x : Int) := ⟨_, rfl⟩
  rw [← hy] at hy10 hyp hgy
  have HY := hide hy
  clear a1 hw64 hzl hy
  go_enter Try.func9, Try.ntmps9
  go_wp2_with fail
  refine (aliveVar _).mono ?_
  rintro e w1 ⟨rfl, hb1⟩
  go_wp2_with fail
  refine (varPut _ _ a0 A1.out).mono ?_
  rintro e w2 ⟨v2, rfl, hown2, hb2⟩
  have hb2' := below_call hb1 hb1.size hb2
  rw [Int.toNat_natCast] at hown2
  obtain ⟨A2, c2, rfl, hr2⟩ := Rd.of_own hown2
  have hlit := own_lit w2 (base := w2.heap.size) 5 1 0 #[] (Nat.le_refl _) (by decide) rfl
  have hr2' := hr2.alloc (Nat.le_refl _) (.cells #[] 5)
  have hb2a := hb2'.alloc hb2'.size (.cells #[] 5)
  clear hown2 hb1 hb2
  go_wp2_with (first
    | (at_builtin; refine wpList_app _ tyBytes rfl (.tmp 21) (.tmp 22) rfl w2.heap.size _ 0 [] rfl hlit w2.heap.size A2 _ c2 _ rfl hr2' (bytesV_one _) (by omega) (by simp) ?_; intro v3 w3 hown3 hg3 _; simp only [Nat.zero_add, List.nil_append] at hown3; have hb3 := below_app hb2a hb2'.size hlit hg3 hb2a.size; have hr3 := hr.below hb3; have hB3 := below_app ((Below.refl w2.heap.size w2).alloc (Nat.le_refl _) (.cells #[] 5)) (Nat.le_refl _) hlit hg3 (by simp))
    | (at_builtin; refine wpList_app _ tyBytes rfl (.tmp 23) (.tmp 24) rfl w2.heap.size _ _ _ rfl hown3 w.heap.size A _ c _ rfl hr3 (bytesV_one _) (by omega) (by have := hg3.size; simp at this; omega) ?_; intro v4 w4 hown4 hg4 _; have hb4 := below_app hb3 hb2'.size hown3 hg4 hb3.size; have hB4 := below_app hB3 (Nat.le_refl _) hown3 hg4 hB3.size))
  rw [← bytesV_append] at hown4
  obtain ⟨A4, c4, rfl, hr4⟩ := Rd.of_own hown4
  refine (varGet w4 _ _ c4 A4 _ hr4).mono ?_
  rintro e w5 ⟨rfl, rfl⟩
  rw [hgp.out]
  clear hlit hr2' hb2a hb3 hr3 hown3 hg3 hown4 hg4 hr4 hB3
  have hr' := hr.below hb4
  go_wp2_with fail
  rw [← HY.out]
  refine (varPutInt y w4 (by rw [HY.out]; exact W64.out.1) (by rw [HY.out]; exact W64.out.2)).mono ?_
  rintro e w6 ⟨v6, rfl, hown6, hb6⟩
  have hb6' := below_call hb4 hb4.size hb6
  have hr6 := hr.below hb6'
  have hB6 := below_call hB4 hB4.size hb6
  go_wp2_with (at_builtin; refine wpList_app _ tyBytes rfl _ _ rfl w4.heap.size v6 _ _ rfl hown6 w.heap.size A _ c _ rfl hr6 (bytesV_one _) (by omega) hb6.size ?_; intro v7 w7 hown7 hg7 _; have hb7 := below_app hb6' hb4.size hown6 hg7 hb6'.size; have hB7 := below_app hB6 hB4.size hown6 hg7 hB6.size)
  rw [← bytesV_append] at hown7
  obtain ⟨A7, c7, rfl, hr7⟩ := Rd.of_own hown7
  refine (varGetInt w7 _ _ c7 A7 _ hr7).mono ?_
  rintro e w8 ⟨rfl, rfl⟩
  unfold IntGet
  rw [hgy.out, unzig_zig]
  clear hr6 hown6 hb6 hown7 hg7 hr7 hr' hb6'
  go_wp2_with fail
  rw [← HY.out]
  refine (varPutInt y w7 (by rw [HY.out]; exact W64.out.1) (by rw [HY.out]; exact W64.out.2)).mono ?_
  rintro e w9 ⟨v9, rfl, hown9, hb9⟩
  have hb9' := below_call hb7 hb7.size hb9
  obtain ⟨A9, c9, rfl, _⟩ := Rd.of_own hown9
  have hr9 : Rd w9 w2.heap.size 1 A2 (Var.put x).length c2 (bytesV (Var.put x)) := hr2.below (below_call hB7 hB7.size hb9)
  clear hown9 hb9 hb7
  go_wp2_with fail
  go_loop [13] (fun iv => ∃ k : Nat, k ≤ (Var.put x).length ∧ iv = .int .i64 k) (fun iv => (Var.put x).length - (intOf iv).toNat)
  case atStart => exact ⟨0, Nat.zero_le _, rfl⟩
  case round =>
    obtain ⟨k, hk, rfl⟩ := hrel
    by_cases hlt : k < (Var.put x).length
    · have hle := hr9.le
      have hsl := cut_hi tyBytes A2 (Var.put x).length c2 .i64 (k : Int) k rfl (by omega)
      have hrk : Rd w9 w2.heap.size 1 A2 k c2 (bytesV ((Var.put x).take k)) := by have := hr9.pre (hi := k) (by omega); simpa [bytesV, List.map_take] using this
      have hgc := hide (Var.get_cut (n := x) (by have := A1.out; omega) hlt)
      go_wp2_with fail
      refine (varGet w9 _ k c2 A2 _ hrk).mono ?_
      rintro e w10 ⟨rfl, rfl⟩
      rw [hgc.out]
      go_wp2_with fail
      go_round
      case rel => exact ⟨k + 1, by omega, by go_num⟩
      case measure => simp [intOf]; omega
    · go_wp2_with fail
      go_ret
      exact ⟨rfl, hb9'⟩

set_option maxRecDepth 100000 in
theorem lifted (os : Os) (started : os.Started) (H : Type) (enc : TypeId × Value → H) :
    ReturnsInHanded {} Try.checked os 9 .any (Rows.varintBackSpec.pre6 enc Try.prog Try.f9 Rows.varintBackRow.domain false) (Rows.varintBackSpec.post enc Try.prog Try.f9 false true false false) := by
  refine returnsInHanded_of_change_sized (C := Try.checked) own started (by kernel_rfl) Try.func9
    (ChangeSpec.witness6 (enc := enc) (C := Try.checked) false ⟨#[], #[.int .u64 0, .slice none 0 0], []⟩ 8 (by kernel_rfl) (by kernel_rfl) (by kernel_rfl) (by kernel_rfl)) ?_
  intro W base args ds gs before hval0 hW hcnd hsz0 _
  have hsz : (DataW.weightsEach Try.prog (Try.f9.params.toList ++ Rows.varintBackSpec.plain.varTypes Try.prog) (ds ++ gs)).all (· ≤ reachBytes) = true := hsz0
  have hval : ∀ (j : Nat) t v, Try.f9.params[j]? = some t → args[j]? = some v → Value.okWide Try.prog W .any base t v := hval0
  have hW' := hW
  obtain ⟨p, q, hA0, hV, rfl, hfz, hnd⟩ := hW
  have hA : DataW.TrodAll enc Try.prog W 0 (fun _ => true) true Try.f9.params.toList args.toList ds p := hA0
  rw [Try.params9] at hA hval hsz
  obtain ⟨v0, vs0, d0, ds0, p0, q0, hargs, rfl, rfl, h0, r0⟩ := trodAll_cons hA
  obtain ⟨v1, vs1, d1, ds1, p1, q1, rfl, rfl, rfl, h1, r1⟩ := trodAll_cons r0
  obtain ⟨rfl, rfl, rfl⟩ := trodAll_nil r1
  obtain rfl : args = #[v0, v1] := by cases args; simp_all
  obtain ⟨rfl, rfl⟩ := trodVars_none hV
  have k0 := h0
  have lt0 : ∀ x ∈ p0, x.block < W.heap.size := by obtain ⟨m, hm⟩ := k0; exact DataW.trod_lt m _ _ _ hm
  have k1 := h1
  have lt1 : ∀ x ∈ p1, x.block < W.heap.size := by obtain ⟨m, hm⟩ := k1; exact DataW.trod_lt m _ _ _ hm
  obtain ⟨a0, rfl, hd0, hp0, w0⟩ := open_int Try.underlying22 (hval 0 22 v0 rfl rfl) h0
  obtain ⟨A1, n1, c1, l1, rfl, w1, hr1⟩ := frame_bytes Try.underlying24 Try.underlying5 (by kernel_rfl) (hval 1 24 v1 rfl rfl) h1
  have z1 : n1 ≤ 140737488351232 := by
    rcases hr1 with h | ⟨el, sp, hd, hle⟩
    · omega
    · subst hd
      have := sized_slice hsz (j := 1) (t := 24) (e := 5) rfl rfl Try.underlying24
      rw [show Try.prog.bytesOf 5 = 1 from by kernel_rfl] at this
      simp only [reachBytes] at this
      omega
  clear hA0 hval0
  refine (walk W a0 (bounds_u64 w0).1 (bounds_u64 w0).2 A1 n1 c1 l1 w1 z1).mono fun e W' ⟨he, bel⟩ => ?_
  subst he
  exact ⟨_, rfl, _, _, _, [], _, [], hW', trodAll_mk1 (shut_bool Try.underlying4 _), (trodAll_cons_mk (Below.trod laidOut (by kernel_rfl) (of_decide_eq_true (by kernel_rfl)) k0 bel lt0) (trodAll_cons_mk (Below.trod laidOut (by kernel_rfl) (of_decide_eq_true (by kernel_rfl)) k1 bel lt1) trodAll_mk0)), rfl, bel.frame _, fun h => by cases h⟩

theorem over : Rows.varintBackRow.holds Try.pinned (OpenSpec.ofChange Rows.varintBackSpec) :=
  OpenClaim.holds_of_wide 9 Try.f9 rfl rfl rfl rfl rfl rfl rfl ⟨rfl, rfl, rfl, rfl, rfl⟩ rfl rfl rfl rfl rfl (by kernel_rfl) Try.func9 (by kernel_rfl)
    (of_decide_eq_true (by kernel_rfl)) (by unfold Func.isWrapper; first | (rw [if_pos (by decide +kernel)]; kernel_rfl) | (rw [if_neg (by decide +kernel)]; exact ⟨rfl, rfl⟩))
    (fun os started H enc _ => lifted os started H enc)

theorem proved : Rows.VarintBackSaid := over
#print axioms proved
end Go.Proofs.Ytjjileokdikcmaa.varintBack
