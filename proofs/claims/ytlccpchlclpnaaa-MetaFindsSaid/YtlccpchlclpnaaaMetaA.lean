/- THE WALK of the tables' stage: the document's examples. No statement of the seat is proved here; no condition. -/
import Derived.Test.YtlccpchlclpnaaaMetaDr
import Derived.Test.YtlccpchlclpnaaaMetaG
import Derived.Test.YtlccpchlclpnaaaAlive
namespace Go.Proofs.Ytlccpchlclpnaaa
open Go.RowKit

def sn1 : Sn := ⟨1, 0, 0, 5, 0, 1, []⟩
def sn2 : Sn := ⟨2, 0, 0, 4, 0, 1, []⟩
theorem le1 {α : Type} (x : α) : [x].length ≤ 1000000 := by simp
theorem two_le : two.length ≤ 1000000 := by decide
theorem ms_le : ([] : List ByteArray).length ≤ 1000000 := by decide
theorem push_1 : pushErr [(1, two)] [] sn1 = 0 := by decide +kernel
theorem push_2 : pushErr [(1, two)] [sn1] sn2 = 1 := by decide +kernel
theorem drop_1 : dropErr [sn1] 1 [1] = 1 := by decide +kernel
theorem push_ok {w : World} {ss : List Ps} {ns : List Sn} {p : Sn} (h : pushErr ss ns p = 0) : PushEnd w ss ns p = StepEnd w 0 ss (ns ++ [p]) p.id.toNat := by
  unfold PushEnd
  rw [if_pos h]
theorem push_bad {w : World} {ss : List Ps} {ns : List Sn} {p : Sn} (h : pushErr ss ns p = 1) : PushEnd w ss ns p = StepEnd w 1 [] [] 0 := by
  unfold PushEnd
  rw [h, if_neg (by decide)]
theorem one_map {α β : Type} {f : α → β} {l : List α} {b : β} (h : l.map f = [b]) : ∃ a, l = [a] ∧ f a = b := by
  match l, h with
  | [a], h => exact ⟨a, rfl, by simpa using h⟩
theorem step_one {w w' : World} {e : Ending} {s : Ps} {p : Sn} (h : StepEnd w 0 [s] [p] 1 e w') : ∃ sA sc x nA nc y, e = .returned (.tuple #[.agg #[.slice sA 1 sc, .slice nA 1 nc, .int .u64 1], .int .i64 0]) ∧ OwnT w' w.heap.size sA sc [x] nA nc [y] ∧ plS x = s ∧ plN y = p ∧ Below w.heap.size w w' := by
  obtain ⟨sA, sc, ss, nA, nc, ns, rfl, hO, h1, h2, hb⟩ := h
  obtain ⟨x, rfl, hx⟩ := one_map h1
  obtain ⟨y, rfl, hy⟩ := one_map h2
  exact ⟨sA, sc, x, nA, nc, y, rfl, hO, hx, hy, hb⟩
theorem step_two {w w' : World} {e : Ending} (h : StepEnd w 1 [] [] 0 e w') : ∃ sA n sc nA m nc, e = .returned (.tuple #[.agg #[.slice sA n sc, .slice nA m nc, .int .u64 0], .int .i64 1]) ∧ Below w.heap.size w w' := by
  obtain ⟨sA, sc, ss, nA, nc, ns, rfl, _, _, _, hb⟩ := h
  exact ⟨sA, _, sc, nA, _, nc, rfl, hb⟩
set_option maxRecDepth 100000 in
set_option maxHeartbeats 1000000 in
theorem alive14 (w : World) : Calls Try.prog 33 #[] w fun e w' => e = .returned (.bool true) ∧ Below w.heap.size w w' := by
  go_enter Try.func33, Try.ntmps33
  go_wp2_with fail
  refine (lawTwo w).mono ?_
  rintro e w1 ⟨v, rfl, ⟨A, c, rfl, hr1⟩, hb1⟩
  go_wp2_with fail
  have lit := Rd.lit w1 (n := 1) (sz := 2) 25 #[.int .u32 1, .slice A two.length c] rfl (by decide)
  have hba := (Below.refl w1.heap.size w1).alloc (Nat.le_refl _) (.cells #[.int .u32 1, .slice A two.length c] 25)
  have hza : (w1.alloc (.cells #[.int .u32 1, .slice A two.length c] 25)).heap.size = w1.heap.size + 1 := by simp
  generalize w1.alloc (.cells #[.int .u32 1, .slice A two.length c] 25) = wa at *
  have xt := boxN_new wa #[.slice (some ⟨w1.heap.size, 0, none⟩) 1 1, .slice none 0 0, .int .u64 0] 70
  have hbb := (Below.refl wa.heap.size wa).alloc (Nat.le_refl _) (.cells #[.slice (some ⟨w1.heap.size, 0, none⟩) 1 1, .slice none 0 0, .int .u64 0] 70)
  rw [← hza] at lit ⊢
  generalize wa.alloc (.cells #[.slice (some ⟨w1.heap.size, 0, none⟩) 1 1, .slice none 0 0, .int .u64 0] 70) = w2 at *
  have hB2 : Below w.heap.size w w2 := below_call (below_call hb1 hb1.size hba) (by have := hb1.size; omega) hbb
  have hT2 : TabR w2 w2.heap.size (some ⟨w1.heap.size, 0, none⟩) 1 [⟨1, two, A, c⟩] none 0 [] := by
    refine ⟨(lit.below hbb).more hbb.size, fun s hs => ?_, Rd.nil _ _ _, by simp⟩
    obtain rfl := List.mem_singleton.1 hs
    exact (((hr1.below hba).more hba.size).below hbb).more hbb.size
  generalize w1.heap.size = bl at *
  generalize wa.heap.size = bt at *
  clear lit hba hbb hza hr1 hb1
  have hnow : Calls Try.prog 35 #[.agg #[.slice (some ⟨bl, 0, none⟩) 1 1, .slice none 0 0, .int .u64 0]] w2 (SnapEnd w2 [] (-1)) := metaNow w2 (some ⟨bl, 0, none⟩) 1 [⟨1, two, A, c⟩] none 0 [] 0 hT2 (by decide) (by simp)
  refine hnow.mono ?_
  rintro e w3 ⟨A3, c3, rfl, _, hb3⟩
  have hd : decide ((0 : Int) ≤ -1) = false := rfl
  rw [hd]
  generalize snAt [] (-1) = q at *
  clear hd hnow
  have hbq := (Below.refl w3.heap.size w3).alloc (Nat.le_refl _) (.cells #[.int .u64 (q.id.toNat : Int), .int .u64 (q.par.toNat : Int), .int .u64 (q.seq.toNat : Int), .int .u64 (q.off.toNat : Int), .int .u64 (q.tim.toNat : Int), .int .u32 (q.sch.toNat : Int), .slice A3 q.ms.length c3] 73)
  have xt4 := (xt.keep hb3 xt.z).keep hbq (xt.keep hb3 xt.z).z
  have c0 := xt4.cell 0 _ rfl
  have c1 := xt4.cell 1 _ rfl
  have c2 := xt4.cell 2 _ rfl
  have hT4 := (hT2.later hb3).later hbq
  have hB4 : Below w.heap.size w _ := below_call (below_call hB2 hB2.size hb3) (by have := hB2.size; have := hb3.size; omega) hbq
  clear xt hT2 hB2 hb3 hbq
  go_wp2_with fail
  generalize w3.alloc (.cells #[.int .u64 (q.id.toNat : Int), .int .u64 (q.par.toNat : Int), .int .u64 (q.seq.toNat : Int), .int .u64 (q.off.toNat : Int), .int .u64 (q.tim.toNat : Int), .int .u32 (q.sch.toNat : Int), .slice A3 q.ms.length c3] 73) = w4 at *
  have hpush : Calls Try.prog 42 #[.agg #[.slice (some ⟨bl, 0, none⟩) 1 1, .slice none 0 0, .int .u64 0], .agg #[.int .u64 1, .int .u64 0, .int .u64 0, .int .u64 5, .int .u64 0, .int .u32 1, .slice none 0 0]] w4 (StepEnd w4 0 [(1, two)] [sn1] 1) := by
    rw [show StepEnd w4 0 [(1, two)] [sn1] 1 = PushEnd w4 [(1, two)] [] sn1 from (push_ok push_1).symm]
    exact metaPush w4 (some ⟨bl, 0, none⟩) 1 [⟨1, two, A, c⟩] none 0 [] 0 hT4 (le1 _) (by intro s hs; obtain rfl := List.mem_singleton.1 hs; exact two_le) (by decide) (by simp) sn1 none 0 (Rd.nil _ _ _) (by decide)
  refine hpush.mono ?_
  intro e w5 hs5
  obtain ⟨sA, sc, x, nA, nc, y, rfl, O5, hx, hy, hb5⟩ := step_one hs5
  obtain ⟨yp, yA, yc⟩ := y
  obtain rfl : yp = sn1 := hy
  clear c0 c1 c2 xt4 hT4 hpush hs5
  have x6 := boxN_new w5 #[.slice sA 1 sc, .slice nA 1 nc, .int .u64 1] 70
  have hb6 := (Below.refl w5.heap.size w5).alloc (Nat.le_refl _) (.cells #[.slice sA 1 sc, .slice nA 1 nc, .int .u64 1] 70)
  have c0 := x6.cell 0 _ rfl
  have c1 := x6.cell 1 _ rfl
  have c2 := x6.cell 2 _ rfl
  have O6 := O5.keep hb6
  have hB6 : Below w.heap.size w _ := below_call (below_call hB4 hB4.size hb5) (by have := hB4.size; have := hb5.size; omega) hb6
  go_wp2_with fail
  generalize w5.alloc (.cells #[.slice sA 1 sc, .slice nA 1 nc, .int .u64 1] 70) = w6 at *
  generalize w5.heap.size = bu at *
  clear O5 hb6 hb5 hB4 c0 c1 c2
  have hnow2 : Calls Try.prog 35 #[.agg #[.slice sA 1 sc, .slice nA 1 nc, .int .u64 1]] w6 (SnapEnd w6 [⟨sn1, yA, yc⟩] 0) := by
    have h := metaNow w6 sA sc [x] nA nc [⟨sn1, yA, yc⟩] 1 O6.tab (le1 _) (by intro s hs; obtain rfl := List.mem_singleton.1 hs; exact ms_le)
    exact h
  refine hnow2.mono ?_
  rintro e w7 ⟨A7, c7, rfl, _, hb7⟩
  have hd : decide ((0 : Int) ≤ 0) = true := rfl
  rw [hd]
  have hq : (.returned (.tuple #[.agg #[.int .u64 ((snAt [⟨sn1, yA, yc⟩] 0).id.toNat : Int), .int .u64 ((snAt [⟨sn1, yA, yc⟩] 0).par.toNat : Int), .int .u64 ((snAt [⟨sn1, yA, yc⟩] 0).seq.toNat : Int), .int .u64 ((snAt [⟨sn1, yA, yc⟩] 0).off.toNat : Int), .int .u64 ((snAt [⟨sn1, yA, yc⟩] 0).tim.toNat : Int), .int .u32 ((snAt [⟨sn1, yA, yc⟩] 0).sch.toNat : Int), .slice A7 (snAt [⟨sn1, yA, yc⟩] 0).ms.length c7], .bool true]) : Ending) = .returned (.tuple #[.agg #[.int .u64 1, .int .u64 0, .int .u64 0, .int .u64 5, .int .u64 0, .int .u32 1, .slice A7 0 c7], .bool true]) := rfl
  rw [hq]
  clear hd hnow2 hq
  have x8 := boxN_new w7 #[.int .u64 1, .int .u64 0, .int .u64 0, .int .u64 5, .int .u64 0, .int .u32 1, .slice A7 0 c7] 73
  have hb8 := (Below.refl w7.heap.size w7).alloc (Nat.le_refl _) (.cells #[.int .u64 1, .int .u64 0, .int .u64 0, .int .u64 5, .int .u64 0, .int .u32 1, .slice A7 0 c7] 73)
  have x6b := (x6.keep hb7 x6.z).keep hb8 (x6.keep hb7 x6.z).z
  have c0 := x6b.cell 0 _ rfl
  have c1 := x6b.cell 1 _ rfl
  have c2 := x6b.cell 2 _ rfl
  have O8 := (O6.keep hb7).keep hb8
  have hB8 : Below w.heap.size w _ := below_call (below_call hB6 hB6.size hb7) (by have := hB6.size; have := hb7.size; omega) hb8
  clear x6 O6 hB6 hb8
  go_wp2_with fail
  generalize w7.alloc (.cells #[.int .u64 1, .int .u64 0, .int .u64 0, .int .u64 5, .int .u64 0, .int .u32 1, .slice A7 0 c7] 73) = w8 at *
  generalize w7.heap.size = bq at *
  clear c0 c1 c2 hb7
  have hpush2 : Calls Try.prog 42 #[.agg #[.slice sA 1 sc, .slice nA 1 nc, .int .u64 1], .agg #[.int .u64 2, .int .u64 0, .int .u64 0, .int .u64 4, .int .u64 0, .int .u32 1, .slice none 0 0]] w8 (StepEnd w8 1 [] [] 0) := by
    have h := metaPush w8 sA sc [x] nA nc [⟨sn1, yA, yc⟩] 1 O8.tab (le1 _) (by intro s hs; obtain rfl := List.mem_singleton.1 hs; rw [show s.fs = two from congrArg Prod.snd hx]; exact two_le) (le1 _) (by intro s hs; obtain rfl := List.mem_singleton.1 hs; exact ms_le) sn2 none 0 (Rd.nil _ _ _) (by decide)
    rw [show [x].map plS = [(1, two)] by rw [← hx]; rfl, show ([⟨sn1, yA, yc⟩] : List Nl).map plN = [sn1] from rfl] at h
    rw [← push_bad push_2]
    exact h
  refine hpush2.mono ?_
  intro e w9 hs9
  obtain ⟨bA, bn, bc, dA, dn, dc, rfl, hb9⟩ := step_two hs9
  clear hpush2 hs9
  have hbT := (Below.refl w9.heap.size w9).alloc (Nat.le_refl _) (.cells #[.slice bA bn bc, .slice dA dn dc, .int .u64 0] 70)
  have x6c := (x6b.keep hb9 x6b.z).keep hbT (x6b.keep hb9 x6b.z).z
  have x8c := (x8.keep hb9 x8.z).keep hbT (x8.keep hb9 x8.z).z
  have c0 := x6c.cell 0 _ rfl
  have c1 := x6c.cell 1 _ rfl
  have c2 := x6c.cell 2 _ rfl
  have O9 := (O8.keep hb9).keep hbT
  have hB9 : Below w.heap.size w _ := below_call (below_call hB8 hB8.size hb9) (by have := hB8.size; have := hb9.size; omega) hbT
  clear x6b x8 O8 hB8 hb9 hbT
  have hzT : (w9.alloc (.cells #[.slice bA bn bc, .slice dA dn dc, .int .u64 0] 70)).heap.size = w9.heap.size + 1 := by simp
  go_wp2_with fail
  rw [← hzT]
  clear hzT
  generalize w9.alloc (.cells #[.slice bA bn bc, .slice dA dn dc, .int .u64 0] 70) = w10 at *
  have lit := Rd.lit w10 (n := 1) (sz := 1) 68 #[.int .u64 1] rfl (by decide)
  have hbU := (Below.refl w10.heap.size w10).alloc (Nat.le_refl _) (.cells #[.int .u64 1] 68)
  have hzU : (w10.alloc (.cells #[.int .u64 1] 68)).heap.size = w10.heap.size + 1 := by simp
  rw [← hzU] at lit
  have x8d := x8c.keep hbU x8c.z
  have O10 := O9.keep hbU
  have hB10 : Below w.heap.size w _ := below_call hB9 hB9.size hbU
  generalize w10.alloc (.cells #[.int .u64 1] 68) = w11 at *
  generalize w10.heap.size = bi at *
  clear c0 c1 c2 x6c x8c O9 hB9 hbU hzU
  have hdrop : Calls Try.prog 46 #[.agg #[.slice sA 1 sc, .slice nA 1 nc, .int .u64 1], .slice (some ⟨bi, 0, none⟩) 1 1] w11 (StepEnd w11 1 [] [] 0) := by
    have h := metaDropBad w11 sA sc [x] nA nc [⟨sn1, yA, yc⟩] 1 O10.tab (le1 _) (by intro s hs; obtain rfl := List.mem_singleton.1 hs; exact ms_le) [1] (some ⟨bi, 0, none⟩) 1 lit (by decide) (by rw [show ([⟨sn1, yA, yc⟩] : List Nl).map plN = [sn1] from rfl, drop_1]; decide)
    rw [show ([⟨sn1, yA, yc⟩] : List Nl).map plN = [sn1] from rfl, drop_1] at h
    exact h
  refine hdrop.mono ?_
  intro e w12 hs12
  obtain ⟨eA, en, ec, fA, fn, fc, rfl, hb12⟩ := step_two hs12
  clear hdrop hs12
  have hbV := (Below.refl w12.heap.size w12).alloc (Nat.le_refl _) (.cells #[.slice eA en ec, .slice fA fn fc, .int .u64 0] 70)
  have x8e := x8d.keep hb12 x8d.z
  have c3 := x8e.cell 3 _ rfl
  have z8e : bq < w12.heap.size := x8e.z
  have z8n : bq ≠ w12.heap.size := by omega
  have hB12 : Below w.heap.size w _ := below_call (below_call hB10 hB10.size hb12) (by have := hB10.size; have := hb12.size; omega) hbV
  clear x8d x8e O10 hB10 hb12 hbV lit
  go_wp2_with fail
  go_ret
  exact ⟨rfl, hB12⟩
end Go.Proofs.Ytlccpchlclpnaaa
