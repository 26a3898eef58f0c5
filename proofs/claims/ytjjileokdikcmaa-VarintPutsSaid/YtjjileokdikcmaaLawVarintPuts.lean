/- VarintPuts: for every input the law returns true, and what was there is as it was. No condition. -/
import Derived.Test.YtjjileokdikcmaaRows
import Derived.Test.YtjjileokdikcmaaFrame
import Derived.Test.YtjjileokdikcmaaVarL
import Derived.Test.YtjjileokdikcmaaAbs
namespace Go.Proofs.Ytjjileokdikcmaa.varintPuts
open Go.Proofs.Ytjjileokdikcmaa
open Go.ChangeShapes Go.WideShapes Go.ChangeAt Go.RowKit
open Go.ChangeMaps (open_string shut_string)

theorem own : ownKnob Try.prog.godebug = none := by kernel_rfl
theorem laidOut : laidOutB Try.prog = true := by kernel_rfl

set_option maxRecDepth 100000 in
theorem walk (w : World) (a : Int) (a0 : 0 ≤ a) (a1 : a ≤ 18446744073709551615) :
    Calls Try.prog 3 #[.int .u64 a] w (RetVal w (.bool true)) := by
  have A1 := hide a1
  have hw64 : -9223372036854775808 ≤ wrap64 a ∧ wrap64 a ≤ 9223372036854775807 := by unfold wrap64; omega
  have W64 := hide hw64
  clear a1 hw64
  go_enter Try.func3, Try.ntmps3
  go_wp2_with fail
  refine wp_region_abs ext_grow (by kernel_rfl) (by kernel_rfl) ?_
  simp only [List.map_cons, List.map_nil]
  refine wpA_known (.is (.bool true)) (fun _ _ h => by cases h) rfl rfl (mono_is _) (fun w' hw' => ?_) ?_
  · go_simp
    exact ⟨Below.refl _ _, (aliveVar _).mono fun e w'' h => is_ret h.1 h.2⟩
  simp only [putS, List.set_cons_succ, List.set_cons_zero]
  refine wpA_value ext_grow ?_ (fun _ _ h => by cases h) rfl rfl ?_ ?_
  rotate_left 1
  · intro w' hw' C hC
    go_simp
    try go_bits
    exact hC
  simp only [putS, List.set_cons_succ, List.set_cons_zero]
  refine wpA_value ext_grow ?_ (fun _ _ h => by cases h) rfl rfl ?_ ?_
  rotate_left 1
  · intro w' hw' C hC
    go_simp
    try go_bits
    exact hC
  simp only [putS, List.set_cons_succ, List.set_cons_zero]
  refine wpA_known (.has (BytesR (Var.put a.toNat))) (fun _ _ h => by cases h) rfl rfl (mono_bytes _) (fun w' hw' => ?_) ?_
  · go_simp
    exact ⟨Below.refl _ _, (varPut _ _ a0 A1.out).mono fun e w'' h => by obtain ⟨v, h1, h2, h3⟩ := h; exact bytes_ret h1 h2 h3⟩
  simp only [putS, List.set_cons_succ, List.set_cons_zero]
  refine wpA_str 6 (Var.put a.toNat) Try.underlying24 Try.underlying5 Try.underlying9 rfl rfl (by simp) rfl rfl (fun _ => rfl) ?_
  simp only [putS, List.set_cons_succ, List.set_cons_zero]
  refine wpA_value ext_grow ?_ (fun _ _ h => by cases h) rfl rfl ?_ ?_
  rotate_left 1
  · intro w' hw' C hC
    go_simp
    try go_bits
    exact hC
  simp only [putS, List.set_cons_succ, List.set_cons_zero]
  refine wpA_known (.has (BytesR (Var.put a.toNat))) (fun _ _ h => by cases h) rfl rfl (mono_bytes _) (fun w' hw' => ?_) ?_
  · go_simp
    exact ⟨Below.refl _ _, (refPut _ _ a0 A1.out).mono fun e w'' h => by obtain ⟨v, h1, h2, h3⟩ := h; exact bytes_ret h1 h2 h3⟩
  simp only [putS, List.set_cons_succ, List.set_cons_zero]
  refine wpA_str 9 (Var.put a.toNat) Try.underlying24 Try.underlying5 Try.underlying9 rfl rfl (by simp) rfl rfl (fun _ => rfl) ?_
  simp only [putS, List.set_cons_succ, List.set_cons_zero]
  refine wpA_value ext_grow ?_ (fun _ _ h => by cases h) rfl rfl ?_ ?_
  rotate_left 1
  · intro w' hw' C hC
    go_simp
    try go_bits
    exact hC
  simp only [putS, List.set_cons_succ, List.set_cons_zero]
  refine wpA_value ext_grow ?_ (fun _ _ h => by cases h) rfl rfl ?_ ?_
  rotate_left 1
  · intro w' hw' C hC
    go_simp
    try go_bits
    exact hC
  simp only [putS, List.set_cons_succ, List.set_cons_zero]
  refine wpA_value ext_grow ?_ (fun _ _ h => by cases h) rfl rfl ?_ ?_
  rotate_left 1
  · intro w' hw' C hC
    go_simp
    try go_bits
    exact hC
  simp only [putS, List.set_cons_succ, List.set_cons_zero]
  refine wpA_value ext_grow ?_ (fun _ _ h => by cases h) rfl rfl ?_ ?_
  rotate_left 1
  · intro w' hw' C hC
    go_simp
    try go_bits
    exact hC
  simp only [putS, List.set_cons_succ, List.set_cons_zero]
  refine wpA_value ext_grow ?_ (fun _ _ h => by cases h) rfl rfl ?_ ?_
  rotate_left 1
  · intro w' hw' C hC
    go_simp
    try go_bits
    exact hC
  simp only [putS, List.set_cons_succ, List.set_cons_zero]
  refine wpA_known (.has (BytesR (Var.put (zig (wrap64 a))))) (fun _ _ h => by cases h) rfl rfl (mono_bytes _) (fun w' hw' => ?_) ?_
  · go_simp
    exact ⟨Below.refl _ _, (varPutInt _ _ W64.out.1 W64.out.2).mono fun e w'' h => by obtain ⟨v, h1, h2, h3⟩ := h; exact bytes_ret h1 h2 h3⟩
  simp only [putS, List.set_cons_succ, List.set_cons_zero]
  refine wpA_str 16 (Var.put (zig (wrap64 a))) Try.underlying24 Try.underlying5 Try.underlying9 rfl rfl (by simp) rfl rfl (fun _ => rfl) ?_
  simp only [putS, List.set_cons_succ, List.set_cons_zero]
  refine wpA_value ext_grow ?_ (fun _ _ h => by cases h) rfl rfl ?_ ?_
  rotate_left 1
  · intro w' hw' C hC
    go_simp
    try go_bits
    exact hC
  simp only [putS, List.set_cons_succ, List.set_cons_zero]
  refine wpA_value ext_grow ?_ (fun _ _ h => by cases h) rfl rfl ?_ ?_
  rotate_left 1
  · intro w' hw' C hC
    go_simp
    try go_bits
    exact hC
  simp only [putS, List.set_cons_succ, List.set_cons_zero]
  refine wpA_known (.has (BytesR (Var.put (zig (wrap64 a))))) (fun _ _ h => by cases h) rfl rfl (mono_bytes _) (fun w' hw' => ?_) ?_
  · go_simp
    exact ⟨Below.refl _ _, (refPutInt _ _ W64.out.1 W64.out.2).mono fun e w'' h => by obtain ⟨v, h1, h2, h3⟩ := h; exact bytes_ret h1 h2 h3⟩
  simp only [putS, List.set_cons_succ, List.set_cons_zero]
  refine wpA_str 20 (Var.put (zig (wrap64 a))) Try.underlying24 Try.underlying5 Try.underlying9 rfl rfl (by simp) rfl rfl (fun _ => rfl) ?_
  simp only [putS, List.set_cons_succ, List.set_cons_zero]
  refine wpA_value ext_grow ?_ (fun _ _ h => by cases h) rfl rfl ?_ ?_
  rotate_left 1
  · intro w' hw' C hC
    go_simp
    try go_bits
    exact hC
  simp only [putS, List.set_cons_succ, List.set_cons_zero]
  refine wpA_value ext_grow ?_ (fun _ _ h => by cases h) rfl rfl ?_ ?_
  rotate_left 1
  · intro w' hw' C hC
    go_simp
    try go_bits
    exact hC
  simp only [putS, List.set_cons_succ, List.set_cons_zero]
  refine wpA_value ext_grow ?_ (fun _ _ h => by cases h) rfl rfl ?_ ?_
  rotate_left 1
  · intro w' hw' C hC
    go_simp
    try go_bits
    exact hC
  simp only [putS, List.set_cons_succ, List.set_cons_zero]
  intro w' hw'
  simp only [openS]
  intro u1 _ u2 _ u3 _ u4 _
  go_wp2
  go_ret
  exact ⟨rfl, below_of_drew hw'⟩

set_option maxRecDepth 100000 in
theorem lifted (os : Os) (started : os.Started) (H : Type) (enc : TypeId × Value → H) :
    ReturnsInHanded {} Try.checked os 3 .any (Rows.varintPutsSpec.pre6 enc Try.prog Try.f3 Rows.varintPutsRow.domain false) (Rows.varintPutsSpec.post enc Try.prog Try.f3 false true false false) := by
  refine returnsInHanded_of_change (C := Try.checked) own started (by kernel_rfl) Try.func3
    (ChangeSpec.witness6 (enc := enc) (C := Try.checked) false ⟨#[], #[.int .u64 0], []⟩ 8 (by kernel_rfl) (by kernel_rfl) (by kernel_rfl) (by kernel_rfl)) ?_
  intro W base args ds gs before hval0 hW hcnd _
  have hval : ∀ (j : Nat) t v, Try.f3.params[j]? = some t → args[j]? = some v → Value.okWide Try.prog W .any base t v := hval0
  have hW' := hW
  obtain ⟨p, q, hA0, hV, rfl, hfz, hnd⟩ := hW
  have hA : DataW.TrodAll enc Try.prog W 0 (fun _ => true) true Try.f3.params.toList args.toList ds p := hA0
  rw [Try.params3] at hA hval
  obtain ⟨v0, vs0, d0, ds0, p0, q0, hargs, rfl, rfl, h0, r0⟩ := trodAll_cons hA
  obtain ⟨rfl, rfl, rfl⟩ := trodAll_nil r0
  obtain rfl : args = #[v0] := by cases args; simp_all
  obtain ⟨rfl, rfl⟩ := trodVars_none hV
  have k0 := h0
  have lt0 : ∀ x ∈ p0, x.block < W.heap.size := by obtain ⟨m, hm⟩ := k0; exact DataW.trod_lt m _ _ _ hm
  obtain ⟨a0, rfl, hd0, hp0, w0⟩ := open_int Try.underlying22 (hval 0 22 v0 rfl rfl) h0
  clear hA0 hval0
  refine (walk W a0 (bounds_u64 w0).1 (bounds_u64 w0).2).mono fun e W' ⟨he, bel⟩ => ?_
  subst he
  exact ⟨_, rfl, _, _, _, [], _, [], hW', trodAll_mk1 (shut_bool Try.underlying4 _), (trodAll_cons_mk (Below.trod laidOut (by kernel_rfl) (of_decide_eq_true (by kernel_rfl)) k0 bel lt0) trodAll_mk0), rfl, bel.frame _, fun h => by cases h⟩

theorem over : Rows.varintPutsRow.holds Try.pinned (OpenSpec.ofChange Rows.varintPutsSpec) :=
  OpenClaim.holds_of_wide 3 Try.f3 rfl rfl rfl rfl rfl rfl rfl ⟨rfl, rfl, rfl, rfl, rfl⟩ rfl rfl rfl rfl rfl (by kernel_rfl) Try.func3 (by kernel_rfl)
    (of_decide_eq_true (by kernel_rfl)) (by unfold Func.isWrapper; first | (rw [if_pos (by decide +kernel)]; kernel_rfl) | (rw [if_neg (by decide +kernel)]; exact ⟨rfl, rfl⟩))
    (fun os started H enc _ => lifted os started H enc)

theorem proved : Rows.VarintPutsSaid := over
#print axioms proved
end Go.Proofs.Ytjjileokdikcmaa.varintPuts
