/- THE WALKS of the document's Same at lists of entries that are alike, and of Great. No statement of the seat is proved here; no condition. -/
import Derived.Test.YtbcnekaagkdmeaaDoorEnOp
namespace Go.Proofs.YtbcnekaagkdmeaaDoor
open Go.RowKit

set_option maxRecDepth 100000 in
theorem neq_st (s : St) (w : World) : (binOp .neq 53 (.agg #[.int .i64 s.rows.toInt, .int .i64 s.nulls.toInt, .bool s.som, .bool s.high, .int .u8 (s.mn.kind.toNat : Int), .int .i64 s.mn.n.toInt, .string s.mn.s, .int .u8 (s.mx.kind.toNat : Int), .int .i64 s.mx.n.toInt, .string s.mx.s])
    (.agg #[.int .i64 s.rows.toInt, .int .i64 s.nulls.toInt, .bool s.som, .bool s.high, .int .u8 (s.mn.kind.toNat : Int), .int .i64 s.mn.n.toInt, .string s.mn.s, .int .u8 (s.mx.kind.toNat : Int), .int .i64 s.mx.n.toInt, .string s.mx.s])).run Tryd.prog w = .ok (.bool false) w := by
  rw [run_neq_struct]
  go_simp
set_option maxRecDepth 100000 in
set_option maxHeartbeats 2000000 in
theorem refSameE (w : World) (x : En) (A1 A2 : Option Addr) (c1 c2 : Nat) (h1 : Rd w w.heap.size 10 A1 x.stats.length c1 (stsV x.stats)) (h2 : Rd w w.heap.size 10 A2 x.stats.length c2 (stsV x.stats)) :
    Calls Tryd.prog 35 #[.agg #[.string x.name, .bool x.keys, .int .u64 (x.seq.toNat : Int), .int .i64 x.rows.toInt, .int .u32 (x.sch.toNat : Int), .slice A1 x.stats.length c1], .agg #[.string x.name, .bool x.keys, .int .u64 (x.seq.toNat : Int), .int .i64 x.rows.toInt, .int .u32 (x.sch.toNat : Int), .slice A2 x.stats.length c2]] w (RetVal w (.bool true)) := by
  have hmax : x.stats.length ≤ 9223372036854775807 := by have h3 := h1.le; have h4 := h1.cap; unfold maxLen at h4; omega
  have y1 := boxN_new w #[.string x.name, .bool x.keys, .int .u64 (x.seq.toNat : Int), .int .i64 x.rows.toInt, .int .u32 (x.sch.toNat : Int), .slice A1 x.stats.length c1] 36
  have hb1 := (Below.refl w.heap.size w).alloc (Nat.le_refl _) (.cells #[.string x.name, .bool x.keys, .int .u64 (x.seq.toNat : Int), .int .i64 x.rows.toInt, .int .u32 (x.sch.toNat : Int), .slice A1 x.stats.length c1] 36)
  have e1 : (w.alloc (.cells #[.string x.name, .bool x.keys, .int .u64 (x.seq.toNat : Int), .int .i64 x.rows.toInt, .int .u32 (x.sch.toNat : Int), .slice A1 x.stats.length c1] 36)).heap.size = w.heap.size + 1 := by simp
  go_enter Tryd.func35, Tryd.ntmps35
  go_upto_region 1 with fail
  generalize w.alloc (.cells #[.string x.name, .bool x.keys, .int .u64 (x.seq.toNat : Int), .int .i64 x.rows.toInt, .int .u32 (x.sch.toNat : Int), .slice A1 x.stats.length c1] 36) = wa at *
  have y2 := boxN_new wa #[.string x.name, .bool x.keys, .int .u64 (x.seq.toNat : Int), .int .i64 x.rows.toInt, .int .u32 (x.sch.toNat : Int), .slice A2 x.stats.length c2] 36
  have hb2 := (Below.refl wa.heap.size wa).alloc (Nat.le_refl _) (.cells #[.string x.name, .bool x.keys, .int .u64 (x.seq.toNat : Int), .int .i64 x.rows.toInt, .int .u32 (x.sch.toNat : Int), .slice A2 x.stats.length c2] 36)
  have y3 := y1.keep hb2 y1.z
  have hbb := below_call hb1 hb1.size hb2
  rw [e1] at y2
  generalize wa.alloc (.cells #[.string x.name, .bool x.keys, .int .u64 (x.seq.toNat : Int), .int .i64 x.rows.toInt, .int .u32 (x.sch.toNat : Int), .slice A2 x.stats.length c2] 36) = wb at *
  have hr1 := h1.below hbb
  have hr2 := h2.below hbb
  have d0 := y2.cell 0 _ rfl
  have d1 := y2.cell 1 _ rfl
  have d2 := y2.cell 2 _ rfl
  have d3 := y2.cell 3 _ rfl
  have d4 := y2.cell 4 _ rfl
  have d5 := y2.cell 5 _ rfl
  have f0 := y3.cell 0 _ rfl
  have f1 := y3.cell 1 _ rfl
  have f2 := y3.cell 2 _ rfl
  have f3 := y3.cell 3 _ rfl
  have f4 := y3.cell 4 _ rfl
  have f5 := y3.cell 5 _ rfl
  have HY := hide (And.intro y3 y2)
  clear y1 y2 y3 hb1 hb2 e1 h1 h2
  go_wp2_with fail
  go_loopw [5] (fun iv wr => ∃ k : Nat, iv = .int .i64 (k : Int) ∧ k ≤ x.stats.length ∧ Below wb.heap.size wb wr) (fun iv _ => x.stats.length - (intOf iv).toNat)
  case atStart => exact ⟨0, rfl, Nat.zero_le _, Below.refl _ _⟩
  case round =>
    clear d0 d1 d2 d3 d4 d5 f0 f1 f2 f3 f4 f5
    obtain ⟨k, rfl, hk, hbr⟩ := hrel
    have hbz : w.heap.size ≤ wb.heap.size := hbb.size
    have g5 := (HY.out.1.keep hbr HY.out.1.z).cell 5 _ rfl
    have d5 := (HY.out.2.keep hbr HY.out.2.z).cell 5 _ rfl
    by_cases hlt : k < x.stats.length
    · obtain ⟨sb1, so1, hS1, hsb1, hc1⟩ := (hr1.below (hbr.mono hbz)).stA hlt
      obtain ⟨sb2, so2, hS2, hsb2, hc2⟩ := (hr2.below (hbr.mono hbz)).stA hlt
      obtain ⟨s, hs⟩ : ∃ s, x.stats.getD k default = s := ⟨_, rfl⟩
      obtain ⟨a0, a1, a2, a3, a4, a5, a6, a7, a8, a9⟩ := hc1 s hs
      obtain ⟨b0, b1, b2, b3, b4, b5, b6, b7, b8, b9⟩ := hc2 s hs
      have hneq := neq_st s
      rw [hS1] at g5
      rw [hS2] at d5
      clear hc1 hc2 hs hS1 hS2
      go_upto_region 6 with fail
      go_quiet (fail)
      go_wp2_with fail
      go_roundw
      case rel => exact ⟨k + 1, by go_num, hlt, below_dN hbr _⟩
      case measure => simp [intOf]; omega
    · go_wp2_with fail
      go_ret
      exact ⟨rfl, hbb.trans (hbr.mono hbz)⟩
set_option maxRecDepth 100000 in
set_option maxHeartbeats 2000000 in
theorem refSame13 (w : World) (A1 A2 : Option Addr) (c1 c2 : Nat) (l1 l2 : List El) (h1 : EnR w w.heap.size A1 c1 l1) (h2 : EnR w w.heap.size A2 c2 l2) (he : l1.map El.p = l2.map El.p) :
    Calls Tryd.prog 16 #[.slice A1 l1.length c1, .slice A2 l2.length c2] w (RetVal w (.bool true)) := by
  have hmax : l1.length ≤ 9223372036854775807 := by have h3 := h1.row.le; have h4 := h1.row.cap; unfold maxLen at h4; omega
  have hlen : l2.length = l1.length := by have := congrArg List.length he; simpa using this.symm
  have hget : ∀ k, (l2.getD k default).p = (l1.getD k default).p := fun k => by rw [← map_get, ← map_get, he]
  rw [hlen]
  clear he
  go_enter Tryd.func16, Tryd.ntmps16
  go_wp2_with fail
  go_loopw [5] (fun iv wr => ∃ k : Nat, iv = .int .i64 (k : Int) ∧ k ≤ l1.length ∧ Below w.heap.size w wr) (fun iv _ => l1.length - (intOf iv).toNat)
  case atStart => exact ⟨0, rfl, Nat.zero_le _, Below.refl _ _⟩
  case round =>
    obtain ⟨k, rfl, hk, hbr⟩ := hrel
    by_cases hlt : k < l1.length
    · have hlt2 : k < l2.length := by omega
      obtain ⟨gb1, o1, rfl, hgb1, hc1⟩ := h1.row.elA hlt
      obtain ⟨gb2, o2, rfl, hgb2, hc2⟩ := h2.row.elA hlt2
      have hg := hget k
      have i1 := h1.ins (l1.getD k default) (getD_mem hlt)
      have i2 := h2.ins (l2.getD k default) (getD_mem hlt2)
      obtain ⟨x, hx⟩ : ∃ x, l1.getD k default = x := ⟨_, rfl⟩
      obtain ⟨y, hy⟩ : ∃ y, l2.getD k default = y := ⟨_, rfl⟩
      obtain ⟨a0, a1, a2, a3, a4, a5⟩ := hc1 x hx
      obtain ⟨b0, b1, b2, b3, b4, b5⟩ := hc2 y hy
      rw [hx] at i1 hg
      rw [hy] at i2 hg
      rw [hg] at b0 b1 b2 b3 b4 b5 i2
      have hbd : Below w.heap.size w wr.drew := hbr.drew
      clear hc1 hc2 hx hy hg
      go_upto_region 6 with fail
      refine wp_region_held_drew (S := fun w' => Below w.heap.size w w') (by kernel_rfl) ?_ (fun hHeld => ?_)
      · exact hbd
      refine wpAnyH_take (i := 0) (v := ?_) rfl (by kernel_rfl) (by kernel_rfl) (by kernel_rfl) (fun _ _ _ h => h) (Or.inl ⟨by rfl, ?_⟩) hHeld ?_
      rotate_left 1
      · (intro w' hSw; go_simp; first | done | with_reducible rfl)
      (try simp only [Act.put, List.setIfInBounds_toArray, List.set_cons_zero, List.set_cons_succ])
      refine wpAnyH_take (i := 1) (v := ?_) rfl (by kernel_rfl) (by kernel_rfl) (by kernel_rfl) (fun _ _ _ h => h) (Or.inl ⟨by rfl, ?_⟩) hHeld ?_
      rotate_left 1
      · (intro w' hSw; go_simp; first | done | with_reducible rfl)
      (try simp only [Act.put, List.setIfInBounds_toArray, List.set_cons_zero, List.set_cons_succ])
      refine wpAnyH_take (i := 2) (v := ?_) rfl (by kernel_rfl) (by kernel_rfl) (by kernel_rfl) (fun _ _ _ h => h) (Or.inl ⟨by rfl, ?_⟩) hHeld ?_
      rotate_left 1
      · (intro w' hSw; go_simp; first | done | with_reducible rfl)
      (try simp only [Act.put, List.setIfInBounds_toArray, List.set_cons_zero, List.set_cons_succ])
      refine wpAnyH_take (i := 3) (v := ?_) rfl (by kernel_rfl) (by kernel_rfl) (by kernel_rfl) (fun _ _ _ h => h) (Or.inl ⟨by rfl, ?_⟩) hHeld ?_
      rotate_left 1
      · (intro w' hSw; have q0 := (hSw.cell (p := ⟨gb1, o1 + k * 6, none⟩) hgb1).trans a0; have q1 := (hSw.cell (p := ⟨gb1, o1 + k * 6 + 1, none⟩) hgb1).trans a1; have q2 := (hSw.cell (p := ⟨gb1, o1 + k * 6 + 2, none⟩) hgb1).trans a2; have q3 := (hSw.cell (p := ⟨gb1, o1 + k * 6 + 3, none⟩) hgb1).trans a3; have q4 := (hSw.cell (p := ⟨gb1, o1 + k * 6 + 4, none⟩) hgb1).trans a4; have q5 := (hSw.cell (p := ⟨gb1, o1 + k * 6 + 5, none⟩) hgb1).trans a5; go_simp; first | done | with_reducible rfl)
      (try simp only [Act.put, List.setIfInBounds_toArray, List.set_cons_zero, List.set_cons_succ])
      refine wpAnyH_take (i := 4) (v := ?_) rfl (by kernel_rfl) (by kernel_rfl) (by kernel_rfl) (fun _ _ _ h => h) (Or.inl ⟨by rfl, ?_⟩) hHeld ?_
      rotate_left 1
      · (intro w' hSw; go_simp; first | done | with_reducible rfl)
      (try simp only [Act.put, List.setIfInBounds_toArray, List.set_cons_zero, List.set_cons_succ])
      refine wpAnyH_take (i := 5) (v := ?_) rfl (by kernel_rfl) (by kernel_rfl) (by kernel_rfl) (fun _ _ _ h => h) (Or.inl ⟨by rfl, ?_⟩) hHeld ?_
      rotate_left 1
      · (intro w' hSw; go_simp; first | done | with_reducible rfl)
      (try simp only [Act.put, List.setIfInBounds_toArray, List.set_cons_zero, List.set_cons_succ])
      refine wpAnyH_take (i := 6) (v := ?_) rfl (by kernel_rfl) (by kernel_rfl) (by kernel_rfl) (fun _ _ _ h => h) (Or.inl ⟨by rfl, ?_⟩) hHeld ?_
      rotate_left 1
      · (intro w' hSw; go_simp; first | done | with_reducible rfl)
      (try simp only [Act.put, List.setIfInBounds_toArray, List.set_cons_zero, List.set_cons_succ])
      refine wpAnyH_take (i := 7) (v := ?_) rfl (by kernel_rfl) (by kernel_rfl) (by kernel_rfl) (fun _ _ _ h => h) (Or.inl ⟨by rfl, ?_⟩) hHeld ?_
      rotate_left 1
      · (intro w' hSw; have q0 := (hSw.cell (p := ⟨gb2, o2 + k * 6, none⟩) hgb2).trans b0; have q1 := (hSw.cell (p := ⟨gb2, o2 + k * 6 + 1, none⟩) hgb2).trans b1; have q2 := (hSw.cell (p := ⟨gb2, o2 + k * 6 + 2, none⟩) hgb2).trans b2; have q3 := (hSw.cell (p := ⟨gb2, o2 + k * 6 + 3, none⟩) hgb2).trans b3; have q4 := (hSw.cell (p := ⟨gb2, o2 + k * 6 + 4, none⟩) hgb2).trans b4; have q5 := (hSw.cell (p := ⟨gb2, o2 + k * 6 + 5, none⟩) hgb2).trans b5; go_simp; first | done | with_reducible rfl)
      (try simp only [Act.put, List.setIfInBounds_toArray, List.set_cons_zero, List.set_cons_succ])
      refine wpAnyH_ready (rs := [8]) (by kernel_rfl) (by simp) ?_
      refine AllReadyH.cons rfl (fun K hK => ?_) AllReadyH.nil
      go_simp
      go_at_call 35
      refine (refSameE wr.drew x.p x.A y.A x.c y.c ((i1.below hbd).more hbd.size) ((i2.below hbd).more hbd.size)).mono ?_
      rintro e w3 ⟨rfl, hb3⟩
      have hb4 := below_call hbd hbd.size hb3
      refine hK.out _ _ hb4 (fun hHeld => ?_)
      clear hK K
      (try simp only [Act.put, List.setIfInBounds_toArray, List.set_cons_zero, List.set_cons_succ])
      refine wpAnyH_take (i := 9) (v := ?_) rfl (by kernel_rfl) (by kernel_rfl) (by kernel_rfl) (fun _ _ _ h => h) (Or.inl ⟨by rfl, ?_⟩) hHeld ?_
      rotate_left 1
      · (intro w' hSw; go_simp; first | done | with_reducible rfl)
      (try simp only [Act.put, List.setIfInBounds_toArray, List.set_cons_zero, List.set_cons_succ])
      refine wpAnyH_done (by kernel_rfl) ?_ _
      go_wp2_with fail
      go_roundw
      case rel => exact ⟨k + 1, by go_num, hlt, hb4⟩
      case measure => simp [intOf]; omega
    · go_wp2_with fail
      go_ret
      exact ⟨rfl, hbr⟩
end Go.Proofs.YtbcnekaagkdmeaaDoor
