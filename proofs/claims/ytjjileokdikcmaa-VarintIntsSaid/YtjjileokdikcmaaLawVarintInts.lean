/- VarintInts: for every input the law returns true, and what was there is as it was. No condition. -/
import Derived.Test.YtjjileokdikcmaaRows
import Derived.Test.YtjjileokdikcmaaFrame
import Derived.Test.YtjjileokdikcmaaVarL
import Derived.Test.YtjjileokdikcmaaAbs
namespace Go.Proofs.Ytjjileokdikcmaa.varintInts
open Go.Proofs.Ytjjileokdikcmaa
open Go.ChangeShapes Go.WideShapes Go.ChangeAt Go.RowKit
open Go.ChangeMaps (open_string shut_string)

theorem own : ownKnob Try.prog.godebug = none := by kernel_rfl
theorem laidOut : laidOutB Try.prog = true := by kernel_rfl

theorem put_two (n : Nat) : ∃ (h : Nat) (tl : List UInt8), h % 2 = 0 ∧ h + 1 < 256 ∧ Var.put (2 * n) = UInt8.ofNat h :: tl ∧ Var.put (2 * n + 1) = UInt8.ofNat (h + 1) :: tl := by
  by_cases hn : 2 * n < 128
  · exact ⟨2 * n, [], by omega, by omega, Var.put_lt hn, Var.put_lt (by omega)⟩
  · refine ⟨2 * n % 128 + 128, Var.put (2 * n / 128), by omega, by omega, Var.put_ge (by omega), ?_⟩
    rw [Var.put_ge (by omega), show (2 * n + 1) / 128 = 2 * n / 128 by omega, show (2 * n + 1) % 128 = 2 * n % 128 + 1 by omega]
theorem xor_two (h : Nat) (h2 : h % 2 = 0) (h3 : h + 1 < 256) : bits BinOp.xor .u8 ((UInt8.ofNat h).toNat : Int) ((UInt8.ofNat (h + 1)).toNat : Int) = 1 := by
  rw [Var.toNat_ofNat_lt (by omega), Var.toNat_ofNat_lt h3, u8_xor_nat h (h + 1) (by omega) h3]
  have e : h + 1 = h ||| 1 := by rw [nat_join 1 h 1 (by omega) (by decide)]
  have e2 : h ^^^ (h + 1) = 1 := by
    apply Nat.eq_of_testBit_eq
    intro i
    rw [Nat.testBit_xor, e, Nat.testBit_or]
    have h0 : h.testBit 0 = false := by rw [Nat.testBit_zero]; simp; omega
    cases i with
    | zero => rw [h0]; rfl
    | succ i =>
      have : Nat.testBit 1 (i + 1) = false := by rw [Nat.testBit_succ]; simp
      rw [this]; simp
  rw [e2]
  rfl
theorem put_pq (n : Nat) : ∃ (p q : UInt8) (tl : List UInt8), bits BinOp.xor .u8 (p.toNat : Int) (q.toNat : Int) = 1 ∧ Var.put (2 * n) = p :: tl ∧ Var.put (2 * n + 1) = q :: tl := by
  obtain ⟨h, tl, h2, h3, he, ho⟩ := put_two n
  exact ⟨_, _, tl, xor_two h h2 h3, he, ho⟩
set_option maxRecDepth 100000 in
set_option maxHeartbeats 1000000 in
theorem walk (w : World) (a : Int) (a0 : -9223372036854775808 ≤ a) (a1 : a ≤ 9223372036854775807) :
    Calls Try.prog 6 #[.int .i64 a] w (RetVal w (.bool true)) := by
  obtain ⟨x, hx⟩ : ∃ x : Nat, (x : Int) = if a < 0 then -(a + 1) else a := ⟨(if a < 0 then -(a + 1) else a).toNat, by split <;> omega⟩
  have hxl : x ≤ 9223372036854775807 := by split at hx <;> omega
  obtain ⟨p, q, tl, hxor, he, ho⟩ := put_pq x
  have hz1 : Var.put (zig (x : Int)) = p :: tl := by rw [← he]; unfold zig; rw [if_pos (by omega)]; congr 1 <;> omega
  have hz2 : Var.put (zig (-(x : Int) - 1)) = q :: tl := by rw [← ho]; unfold zig; rw [if_neg (by omega)]; congr 1 <;> omega
  have H1 := hide hz1
  have H2 := hide hz2
  have HX := hide hx
  clear hz1 hz2 hx he ho
  by_cases hneg : a < 0
  · have t0 : decide (a < 0) = true := by simpa using hneg
    have e0 : wrap64 (-wrap64 (a + 1)) = (x : Int) := by rw [HX.out, if_pos hneg, IntWalk.wrap64_in (a + 1) ⟨by omega, by omega⟩, IntWalk.wrap64_in _ ⟨by omega, by omega⟩]
    clear hneg a0 a1
    go_enter Try.func6, Try.ntmps6
    go_wp2_with fail
    refine (aliveVar _).mono ?_
    rintro e w1 ⟨rfl, hb1⟩
    go_wp2_with fail
    refine (varPutInt (x : Int) w1 (by omega) (by omega)).mono ?_
    rintro e w2 ⟨v2, rfl, hown2, hb2⟩
    have hb2' := below_call hb1 hb1.size hb2
    go_wp2_with fail
    refine (varPutInt (-(x : Int) - 1) w2 (by omega) (by omega)).mono ?_
    rintro e w3 ⟨v3, rfl, hown3, hb3⟩
    have hb3' := below_call hb2' hb2'.size hb3
    rw [H1.out] at hown2
    rw [H2.out] at hown3
    obtain ⟨A2, c2, rfl, hr2'⟩ := Rd.of_own hown2
    obtain ⟨A3, c3, rfl, hr3⟩ := Rd.of_own hown3
    have hr2 := (hr2'.below hb3).more hb3.size
    obtain ⟨b2, o2, rfl, q2, hc2⟩ := hr2.cellAt (k := 0) (by simp [bytesV])
    obtain ⟨b3, o3, rfl, q3, hc3⟩ := hr3.cellAt (k := 0) (by simp [bytesV])
    have hc2' : w3.cell? ⟨b2, o2, none⟩ = some (.int .u8 (p.toNat : Int)) := hc2
    have hc3' : w3.cell? ⟨b3, o3, none⟩ = some (.int .u8 (q.toNat : Int)) := hc3
    have k2 : Rd w3 w3.heap.size 1 (if c2 = 1 then some ⟨b2, o2, none⟩ else some ⟨b2, o2 + 1, none⟩) tl.length (c2 - 1) (bytesV tl) := by
      have := hr2.cut (lo := 1) (hi := (p :: tl).length) (by simp) (Nat.le_refl _)
      have e : ((bytesV (p :: tl)).drop (1 * 1)).take (((p :: tl).length - 1) * 1) = bytesV tl := by show (bytesV tl).take _ = _; exact List.take_of_length_le (by simp [bytesV])
      rw [e] at this
      simpa [Addr.add_lit] using this
    have k3 : Rd w3 w3.heap.size 1 (if c3 = 1 then some ⟨b3, o3, none⟩ else some ⟨b3, o3 + 1, none⟩) tl.length (c3 - 1) (bytesV tl) := by
      have := hr3.cut (lo := 1) (hi := (q :: tl).length) (by simp) (Nat.le_refl _)
      have e : ((bytesV (q :: tl)).drop (1 * 1)).take (((q :: tl).length - 1) * 1) = bytesV tl := by show (bytesV tl).take _ = _; exact List.take_of_length_le (by simp [bytesV])
      rw [e] at this
      simpa [Addr.add_lit] using this
    have l2 := hr2.le
    have l3 := hr3.le
    have s2 := cut_lo tyBytes (some ⟨b2, o2, none⟩) (tl.length + 1) c2 .i64 1 1 rfl (by omega) l2
    have s3 := cut_lo tyBytes (some ⟨b3, o3, none⟩) (tl.length + 1) c3 .i64 1 1 rfl (by omega) l3
    simp only [List.length_cons]
    clear hown2 hown3 hr2' hb1 hb2 hb3 hb2' hc2 hc3
    go_wp2_with fail
    refine wp_region_abs ext_grow (by kernel_rfl) (by kernel_rfl) ?_
    simp only [List.map_cons, List.map_nil]
    refine wpA_value ext_grow ?_ (fun _ _ h => by cases h) rfl rfl ?_ ?_
    rotate_left 1
    · intro w' hw' C hC
      go_simp
      try go_bits
      exact hC
    simp only [putS, List.set_cons_succ, List.set_cons_zero]
    refine wpA_value ext_grow ?_ (fun _ _ h => by cases h) rfl rfl ?_ ?_
    rotate_left 1
    · intro w' hw' C hC
      go_simp
      try go_bits
      exact hC
    simp only [putS, List.set_cons_succ, List.set_cons_zero]
    refine wpA_value ext_grow ?_ (fun _ _ h => by cases h) rfl rfl ?_ ?_
    rotate_left 1
    · intro w' hw' C hC
      go_simp
      try go_bits
      exact hC
    simp only [putS, List.set_cons_succ, List.set_cons_zero]
    refine wpA_value ext_grow ?_ (fun _ _ h => by cases h) rfl rfl ?_ ?_
    rotate_left 1
    · intro w' hw' C hC
      go_simp
      try go_bits
      exact hC
    simp only [putS, List.set_cons_succ, List.set_cons_zero]
    refine wpA_value ext_grow ?_ (fun _ _ h => by cases h) rfl rfl ?_ ?_
    rotate_left 1
    · intro w' hw' C hC
      go_simp
      try go_bits
      exact hC
    simp only [putS, List.set_cons_succ, List.set_cons_zero]
    refine wpA_value ext_grow ?_ (fun _ _ h => by cases h) rfl rfl ?_ ?_
    rotate_left 1
    · intro w' hw' C hC
      go_simp
      try go_bits
      exact hC
    simp only [putS, List.set_cons_succ, List.set_cons_zero]
    refine wpA_value ext_grow ?_ (fun _ _ h => by cases h) rfl rfl ?_ ?_
    rotate_left 1
    · intro w' hw' C hC
      go_simp
      try go_bits
      exact hC
    simp only [putS, List.set_cons_succ, List.set_cons_zero]
    refine wpA_value ext_grow ?_ (fun _ _ h => by cases h) rfl rfl ?_ ?_
    rotate_left 1
    · intro w' hw' C hC
      go_simp
      try go_bits
      exact hC
    simp only [putS, List.set_cons_succ, List.set_cons_zero]
    refine wpA_value ext_grow ?_ (fun _ _ h => by cases h) rfl rfl ?_ ?_
    rotate_left 1
    · intro w' hw' C hC
      have hcw : w'.cell? ⟨b2, o2, none⟩ = some (.int .u8 (p.toNat : Int)) := (hw'.cell (p := ⟨b2, o2, none⟩) q2).trans hc2'
      go_simp
      try go_bits
      exact hC
    simp only [putS, List.set_cons_succ, List.set_cons_zero]
    refine wpA_value ext_grow ?_ (fun _ _ h => by cases h) rfl rfl ?_ ?_
    rotate_left 1
    · intro w' hw' C hC
      go_simp
      try go_bits
      exact hC
    simp only [putS, List.set_cons_succ, List.set_cons_zero]
    refine wpA_value ext_grow ?_ (fun _ _ h => by cases h) rfl rfl ?_ ?_
    rotate_left 1
    · intro w' hw' C hC
      go_simp
      try go_bits
      exact hC
    simp only [putS, List.set_cons_succ, List.set_cons_zero]
    refine wpA_value ext_grow ?_ (fun _ _ h => by cases h) rfl rfl ?_ ?_
    rotate_left 1
    · intro w' hw' C hC
      have hcw : w'.cell? ⟨b3, o3, none⟩ = some (.int .u8 (q.toNat : Int)) := (hw'.cell (p := ⟨b3, o3, none⟩) q3).trans hc3'
      go_simp
      try go_bits
      exact hC
    simp only [putS, List.set_cons_succ, List.set_cons_zero]
    refine wpA_value ext_grow ?_ (fun _ _ h => by cases h) rfl rfl ?_ ?_
    rotate_left 1
    · intro w' hw' C hC
      go_simp
      try go_bits
      exact hC
    simp only [putS, List.set_cons_succ, List.set_cons_zero]
    refine wpA_value ext_grow ?_ (fun _ _ h => by cases h) rfl rfl ?_ ?_
    rotate_left 1
    · intro w' hw' C hC
      go_simp
      try go_bits
      exact hC
    simp only [putS, List.set_cons_succ, List.set_cons_zero]
    refine wpA_value ext_grow ?_ (fun _ _ h => by cases h) rfl rfl ?_ ?_
    rotate_left 1
    · intro w' hw' C hC
      go_simp
      try go_bits
      exact hC
    simp only [putS, List.set_cons_succ, List.set_cons_zero]
    refine wpA_value ext_grow ?_ (fun _ _ h => by cases h) rfl rfl ?_ ?_
    rotate_left 1
    · intro w' hw' C hC
      go_simp
      try go_bits
      exact hC
    simp only [putS, List.set_cons_succ, List.set_cons_zero]
    refine wpA_value ext_grow ?_ (fun _ _ h => by cases h) rfl rfl ?_ ?_
    rotate_left 1
    · intro w' hw' C hC
      go_simp
      try go_bits
      exact hC
    simp only [putS, List.set_cons_succ, List.set_cons_zero]
    refine wpA_value ext_grow ?_ (fun _ _ h => by cases h) rfl rfl ?_ ?_
    rotate_left 1
    · intro w' hw' C hC
      go_simp
      try go_bits
      exact hC
    simp only [putS, List.set_cons_succ, List.set_cons_zero]
    refine wpA_value ext_grow ?_ (fun _ _ h => by cases h) rfl rfl ?_ ?_
    rotate_left 1
    · intro w' hw' C hC
      have hcv := run_str (P := Try.prog) w' Try.underlying24 Try.underlying5 Try.underlying9 (k2.drew.below hw')
      go_simp
      try go_bits
      exact hC
    simp only [putS, List.set_cons_succ, List.set_cons_zero]
    refine wpA_value ext_grow ?_ (fun _ _ h => by cases h) rfl rfl ?_ ?_
    rotate_left 1
    · intro w' hw' C hC
      go_simp
      try go_bits
      exact hC
    simp only [putS, List.set_cons_succ, List.set_cons_zero]
    refine wpA_value ext_grow ?_ (fun _ _ h => by cases h) rfl rfl ?_ ?_
    rotate_left 1
    · intro w' hw' C hC
      go_simp
      try go_bits
      exact hC
    simp only [putS, List.set_cons_succ, List.set_cons_zero]
    refine wpA_value ext_grow ?_ (fun _ _ h => by cases h) rfl rfl ?_ ?_
    rotate_left 1
    · intro w' hw' C hC
      have hcv := run_str (P := Try.prog) w' Try.underlying24 Try.underlying5 Try.underlying9 (k3.drew.below hw')
      go_simp
      try go_bits
      exact hC
    simp only [putS, List.set_cons_succ, List.set_cons_zero]
    refine wpA_value ext_grow ?_ (fun _ _ h => by cases h) rfl rfl ?_ ?_
    rotate_left 1
    · intro w' hw' C hC
      go_simp
      try go_bits
      exact hC
    simp only [putS, List.set_cons_succ, List.set_cons_zero]
    refine wpA_value ext_grow ?_ (fun _ _ h => by cases h) rfl rfl ?_ ?_
    rotate_left 1
    · intro w' hw' C hC
      go_simp
      try go_bits
      exact hC
    simp only [putS, List.set_cons_succ, List.set_cons_zero]
    refine wpA_value ext_grow ?_ (fun _ _ h => by cases h) rfl rfl ?_ ?_
    rotate_left 1
    · intro w' hw' C hC
      go_simp
      try go_bits
      exact hC
    simp only [putS, List.set_cons_succ, List.set_cons_zero]
    intro w' hw'
    simp only [openS]
    go_wp2
    all_goals go_ret
    all_goals exact ⟨rfl, hb3'.trans ((below_of_drew hw').mono hb3'.size)⟩
  · have t0 : decide (a < 0) = false := by simpa using hneg
    have e0 : a = (x : Int) := by rw [HX.out, if_neg hneg]
    subst e0
    clear hneg a0 a1
    go_enter Try.func6, Try.ntmps6
    go_wp2_with fail
    refine (aliveVar _).mono ?_
    rintro e w1 ⟨rfl, hb1⟩
    go_wp2_with fail
    refine (varPutInt (x : Int) w1 (by omega) (by omega)).mono ?_
    rintro e w2 ⟨v2, rfl, hown2, hb2⟩
    have hb2' := below_call hb1 hb1.size hb2
    go_wp2_with fail
    refine (varPutInt (-(x : Int) - 1) w2 (by omega) (by omega)).mono ?_
    rintro e w3 ⟨v3, rfl, hown3, hb3⟩
    have hb3' := below_call hb2' hb2'.size hb3
    rw [H1.out] at hown2
    rw [H2.out] at hown3
    obtain ⟨A2, c2, rfl, hr2'⟩ := Rd.of_own hown2
    obtain ⟨A3, c3, rfl, hr3⟩ := Rd.of_own hown3
    have hr2 := (hr2'.below hb3).more hb3.size
    obtain ⟨b2, o2, rfl, q2, hc2⟩ := hr2.cellAt (k := 0) (by simp [bytesV])
    obtain ⟨b3, o3, rfl, q3, hc3⟩ := hr3.cellAt (k := 0) (by simp [bytesV])
    have hc2' : w3.cell? ⟨b2, o2, none⟩ = some (.int .u8 (p.toNat : Int)) := hc2
    have hc3' : w3.cell? ⟨b3, o3, none⟩ = some (.int .u8 (q.toNat : Int)) := hc3
    have k2 : Rd w3 w3.heap.size 1 (if c2 = 1 then some ⟨b2, o2, none⟩ else some ⟨b2, o2 + 1, none⟩) tl.length (c2 - 1) (bytesV tl) := by
      have := hr2.cut (lo := 1) (hi := (p :: tl).length) (by simp) (Nat.le_refl _)
      have e : ((bytesV (p :: tl)).drop (1 * 1)).take (((p :: tl).length - 1) * 1) = bytesV tl := by show (bytesV tl).take _ = _; exact List.take_of_length_le (by simp [bytesV])
      rw [e] at this
      simpa [Addr.add_lit] using this
    have k3 : Rd w3 w3.heap.size 1 (if c3 = 1 then some ⟨b3, o3, none⟩ else some ⟨b3, o3 + 1, none⟩) tl.length (c3 - 1) (bytesV tl) := by
      have := hr3.cut (lo := 1) (hi := (q :: tl).length) (by simp) (Nat.le_refl _)
      have e : ((bytesV (q :: tl)).drop (1 * 1)).take (((q :: tl).length - 1) * 1) = bytesV tl := by show (bytesV tl).take _ = _; exact List.take_of_length_le (by simp [bytesV])
      rw [e] at this
      simpa [Addr.add_lit] using this
    have l2 := hr2.le
    have l3 := hr3.le
    have s2 := cut_lo tyBytes (some ⟨b2, o2, none⟩) (tl.length + 1) c2 .i64 1 1 rfl (by omega) l2
    have s3 := cut_lo tyBytes (some ⟨b3, o3, none⟩) (tl.length + 1) c3 .i64 1 1 rfl (by omega) l3
    simp only [List.length_cons]
    clear hown2 hown3 hr2' hb1 hb2 hb3 hb2' hc2 hc3
    go_wp2_with fail
    refine wp_region_abs ext_grow (by kernel_rfl) (by kernel_rfl) ?_
    simp only [List.map_cons, List.map_nil]
    refine wpA_value ext_grow ?_ (fun _ _ h => by cases h) rfl rfl ?_ ?_
    rotate_left 1
    · intro w' hw' C hC
      go_simp
      try go_bits
      exact hC
    simp only [putS, List.set_cons_succ, List.set_cons_zero]
    refine wpA_value ext_grow ?_ (fun _ _ h => by cases h) rfl rfl ?_ ?_
    rotate_left 1
    · intro w' hw' C hC
      go_simp
      try go_bits
      exact hC
    simp only [putS, List.set_cons_succ, List.set_cons_zero]
    refine wpA_value ext_grow ?_ (fun _ _ h => by cases h) rfl rfl ?_ ?_
    rotate_left 1
    · intro w' hw' C hC
      go_simp
      try go_bits
      exact hC
    simp only [putS, List.set_cons_succ, List.set_cons_zero]
    refine wpA_value ext_grow ?_ (fun _ _ h => by cases h) rfl rfl ?_ ?_
    rotate_left 1
    · intro w' hw' C hC
      go_simp
      try go_bits
      exact hC
    simp only [putS, List.set_cons_succ, List.set_cons_zero]
    refine wpA_value ext_grow ?_ (fun _ _ h => by cases h) rfl rfl ?_ ?_
    rotate_left 1
    · intro w' hw' C hC
      go_simp
      try go_bits
      exact hC
    simp only [putS, List.set_cons_succ, List.set_cons_zero]
    refine wpA_value ext_grow ?_ (fun _ _ h => by cases h) rfl rfl ?_ ?_
    rotate_left 1
    · intro w' hw' C hC
      go_simp
      try go_bits
      exact hC
    simp only [putS, List.set_cons_succ, List.set_cons_zero]
    refine wpA_value ext_grow ?_ (fun _ _ h => by cases h) rfl rfl ?_ ?_
    rotate_left 1
    · intro w' hw' C hC
      go_simp
      try go_bits
      exact hC
    simp only [putS, List.set_cons_succ, List.set_cons_zero]
    refine wpA_value ext_grow ?_ (fun _ _ h => by cases h) rfl rfl ?_ ?_
    rotate_left 1
    · intro w' hw' C hC
      go_simp
      try go_bits
      exact hC
    simp only [putS, List.set_cons_succ, List.set_cons_zero]
    refine wpA_value ext_grow ?_ (fun _ _ h => by cases h) rfl rfl ?_ ?_
    rotate_left 1
    · intro w' hw' C hC
      have hcw : w'.cell? ⟨b2, o2, none⟩ = some (.int .u8 (p.toNat : Int)) := (hw'.cell (p := ⟨b2, o2, none⟩) q2).trans hc2'
      go_simp
      try go_bits
      exact hC
    simp only [putS, List.set_cons_succ, List.set_cons_zero]
    refine wpA_value ext_grow ?_ (fun _ _ h => by cases h) rfl rfl ?_ ?_
    rotate_left 1
    · intro w' hw' C hC
      go_simp
      try go_bits
      exact hC
    simp only [putS, List.set_cons_succ, List.set_cons_zero]
    refine wpA_value ext_grow ?_ (fun _ _ h => by cases h) rfl rfl ?_ ?_
    rotate_left 1
    · intro w' hw' C hC
      go_simp
      try go_bits
      exact hC
    simp only [putS, List.set_cons_succ, List.set_cons_zero]
    refine wpA_value ext_grow ?_ (fun _ _ h => by cases h) rfl rfl ?_ ?_
    rotate_left 1
    · intro w' hw' C hC
      have hcw : w'.cell? ⟨b3, o3, none⟩ = some (.int .u8 (q.toNat : Int)) := (hw'.cell (p := ⟨b3, o3, none⟩) q3).trans hc3'
      go_simp
      try go_bits
      exact hC
    simp only [putS, List.set_cons_succ, List.set_cons_zero]
    refine wpA_value ext_grow ?_ (fun _ _ h => by cases h) rfl rfl ?_ ?_
    rotate_left 1
    · intro w' hw' C hC
      go_simp
      try go_bits
      exact hC
    simp only [putS, List.set_cons_succ, List.set_cons_zero]
    refine wpA_value ext_grow ?_ (fun _ _ h => by cases h) rfl rfl ?_ ?_
    rotate_left 1
    · intro w' hw' C hC
      go_simp
      try go_bits
      exact hC
    simp only [putS, List.set_cons_succ, List.set_cons_zero]
    refine wpA_value ext_grow ?_ (fun _ _ h => by cases h) rfl rfl ?_ ?_
    rotate_left 1
    · intro w' hw' C hC
      go_simp
      try go_bits
      exact hC
    simp only [putS, List.set_cons_succ, List.set_cons_zero]
    refine wpA_value ext_grow ?_ (fun _ _ h => by cases h) rfl rfl ?_ ?_
    rotate_left 1
    · intro w' hw' C hC
      go_simp
      try go_bits
      exact hC
    simp only [putS, List.set_cons_succ, List.set_cons_zero]
    refine wpA_value ext_grow ?_ (fun _ _ h => by cases h) rfl rfl ?_ ?_
    rotate_left 1
    · intro w' hw' C hC
      go_simp
      try go_bits
      exact hC
    simp only [putS, List.set_cons_succ, List.set_cons_zero]
    refine wpA_value ext_grow ?_ (fun _ _ h => by cases h) rfl rfl ?_ ?_
    rotate_left 1
    · intro w' hw' C hC
      go_simp
      try go_bits
      exact hC
    simp only [putS, List.set_cons_succ, List.set_cons_zero]
    refine wpA_value ext_grow ?_ (fun _ _ h => by cases h) rfl rfl ?_ ?_
    rotate_left 1
    · intro w' hw' C hC
      have hcv := run_str (P := Try.prog) w' Try.underlying24 Try.underlying5 Try.underlying9 (k2.drew.below hw')
      go_simp
      try go_bits
      exact hC
    simp only [putS, List.set_cons_succ, List.set_cons_zero]
    refine wpA_value ext_grow ?_ (fun _ _ h => by cases h) rfl rfl ?_ ?_
    rotate_left 1
    · intro w' hw' C hC
      go_simp
      try go_bits
      exact hC
    simp only [putS, List.set_cons_succ, List.set_cons_zero]
    refine wpA_value ext_grow ?_ (fun _ _ h => by cases h) rfl rfl ?_ ?_
    rotate_left 1
    · intro w' hw' C hC
      go_simp
      try go_bits
      exact hC
    simp only [putS, List.set_cons_succ, List.set_cons_zero]
    refine wpA_value ext_grow ?_ (fun _ _ h => by cases h) rfl rfl ?_ ?_
    rotate_left 1
    · intro w' hw' C hC
      have hcv := run_str (P := Try.prog) w' Try.underlying24 Try.underlying5 Try.underlying9 (k3.drew.below hw')
      go_simp
      try go_bits
      exact hC
    simp only [putS, List.set_cons_succ, List.set_cons_zero]
    refine wpA_value ext_grow ?_ (fun _ _ h => by cases h) rfl rfl ?_ ?_
    rotate_left 1
    · intro w' hw' C hC
      go_simp
      try go_bits
      exact hC
    simp only [putS, List.set_cons_succ, List.set_cons_zero]
    refine wpA_value ext_grow ?_ (fun _ _ h => by cases h) rfl rfl ?_ ?_
    rotate_left 1
    · intro w' hw' C hC
      go_simp
      try go_bits
      exact hC
    simp only [putS, List.set_cons_succ, List.set_cons_zero]
    refine wpA_value ext_grow ?_ (fun _ _ h => by cases h) rfl rfl ?_ ?_
    rotate_left 1
    · intro w' hw' C hC
      go_simp
      try go_bits
      exact hC
    simp only [putS, List.set_cons_succ, List.set_cons_zero]
    intro w' hw'
    simp only [openS]
    go_wp2
    all_goals go_ret
    all_goals exact ⟨rfl, hb3'.trans ((below_of_drew hw').mono hb3'.size)⟩

set_option maxRecDepth 100000 in
theorem lifted (os : Os) (started : os.Started) (H : Type) (enc : TypeId × Value → H) :
    ReturnsInHanded {} Try.checked os 6 .any (Rows.varintIntsSpec.pre6 enc Try.prog Try.f6 Rows.varintIntsRow.domain false) (Rows.varintIntsSpec.post enc Try.prog Try.f6 false true false false) := by
  refine returnsInHanded_of_change (C := Try.checked) own started (by kernel_rfl) Try.func6
    (ChangeSpec.witness6 (enc := enc) (C := Try.checked) false ⟨#[], #[.int .i64 0], []⟩ 8 (by kernel_rfl) (by kernel_rfl) (by kernel_rfl) (by kernel_rfl)) ?_
  intro W base args ds gs before hval0 hW hcnd _
  have hval : ∀ (j : Nat) t v, Try.f6.params[j]? = some t → args[j]? = some v → Value.okWide Try.prog W .any base t v := hval0
  have hW' := hW
  obtain ⟨p, q, hA0, hV, rfl, hfz, hnd⟩ := hW
  have hA : DataW.TrodAll enc Try.prog W 0 (fun _ => true) true Try.f6.params.toList args.toList ds p := hA0
  rw [Try.params6] at hA hval
  obtain ⟨v0, vs0, d0, ds0, p0, q0, hargs, rfl, rfl, h0, r0⟩ := trodAll_cons hA
  obtain ⟨rfl, rfl, rfl⟩ := trodAll_nil r0
  obtain rfl : args = #[v0] := by cases args; simp_all
  obtain ⟨rfl, rfl⟩ := trodVars_none hV
  have k0 := h0
  have lt0 : ∀ x ∈ p0, x.block < W.heap.size := by obtain ⟨m, hm⟩ := k0; exact DataW.trod_lt m _ _ _ hm
  obtain ⟨a0, rfl, hd0, hp0, w0⟩ := open_int Try.underlying2 (hval 0 2 v0 rfl rfl) h0
  clear hA0 hval0
  refine (walk W a0 (bounds_i64 w0).1 (bounds_i64 w0).2).mono fun e W' ⟨he, bel⟩ => ?_
  subst he
  exact ⟨_, rfl, _, _, _, [], _, [], hW', trodAll_mk1 (shut_bool Try.underlying4 _), (trodAll_cons_mk (Below.trod laidOut (by kernel_rfl) (of_decide_eq_true (by kernel_rfl)) k0 bel lt0) trodAll_mk0), rfl, bel.frame _, fun h => by cases h⟩

theorem over : Rows.varintIntsRow.holds Try.pinned (OpenSpec.ofChange Rows.varintIntsSpec) :=
  OpenClaim.holds_of_wide 6 Try.f6 rfl rfl rfl rfl rfl rfl rfl ⟨rfl, rfl, rfl, rfl, rfl⟩ rfl rfl rfl rfl rfl (by kernel_rfl) Try.func6 (by kernel_rfl)
    (of_decide_eq_true (by kernel_rfl)) (by unfold Func.isWrapper; first | (rw [if_pos (by decide +kernel)]; kernel_rfl) | (rw [if_neg (by decide +kernel)]; exact ⟨rfl, rfl⟩))
    (fun os started H enc _ => lifted os started H enc)

theorem proved : Rows.VarintIntsSaid := over
#print axioms proved
end Go.Proofs.Ytjjileokdikcmaa.varintInts
