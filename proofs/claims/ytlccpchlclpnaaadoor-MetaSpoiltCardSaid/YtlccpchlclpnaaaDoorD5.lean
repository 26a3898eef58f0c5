/- WHAT SERVES THE TABLES' STATEMENTS, part 5: MetaDr, MetaA, MetaB, MetaX, MetaY, MetaRR, MetaRP, MetaZ, MetaSP. No statement of the seat is proved here. -/
import Derived.Test.YtlccpchlclpnaaaDoorD4
import Derived.Deep.CutRange
namespace Go.Proofs.YtlccpchlclpnaaaDoor

section
open Go.RowKit

def hasId (ns : List Sn) (id : UInt64) : Bool := ns.any fun s => (s.id.toNat : Int) == (id.toNat : Int)
def isIn (ids : List UInt64) (x : UInt64) : Bool := ids.any fun y => (x.toNat : Int) == (y.toNat : Int)
def dropErr (ns : List Sn) (cur : UInt64) (ids : List UInt64) : Nat := if ids.all (hasId ns) = true then (if isIn ids cur = true then 1 else 0) else 2
theorem hasId_ix (ns : List Nl) (id : UInt64) : decide ((0 : Int) ≤ sIx ns id) = hasId (ns.map plN) id := by
  unfold sIx hasId
  rw [ixA_ge, List.any_map]
  rfl
theorem drop_none {ns : List Sn} {cur : UInt64} {ids : List UInt64} {k : Nat} (hk : k < ids.length) (h : hasId ns (ids.getD k default) = false) : dropErr ns cur ids = 2 := by
  unfold dropErr
  rw [if_neg]
  intro q
  have := List.all_eq_true.1 q (ids.getD k default) (by simp [List.getD, hk])
  rw [h] at this
  cases this
theorem drop_all {ns : List Sn} {ids : List UInt64} (h : ∀ j, j < ids.length → hasId ns (ids.getD j default) = true) : ids.all (hasId ns) = true := by
  refine List.all_eq_true.2 fun x hx => ?_
  obtain ⟨j, hj, rfl⟩ := List.mem_iff_getElem.1 hx
  have := h j hj
  simpa [List.getD, hj] using this
set_option maxRecDepth 100000 in
set_option maxHeartbeats 4000000 in
theorem metaDropBad (w : World) (sA : Option Addr) (sc : Nat) (ss : List Sl) (nA : Option Addr) (nc : Nat) (ns : List Nl) (cur : UInt64) (hT : TabR w w.heap.size sA sc ss nA nc ns) (h3 : ns.length ≤ 1000000) (h4 : ∀ s ∈ ns, s.p.ms.length ≤ 1000000)
    (ids : List UInt64) (iA : Option Addr) (ic : Nat) (hri : Rd w w.heap.size 1 iA ids.length ic (u64sV ids)) (hi : ids.length ≤ 1000000) (hbad : dropErr (ns.map plN) cur ids ≠ 0) :
    Calls Tryd.prog 14 #[.agg #[.slice sA ss.length sc, .slice nA ns.length nc, .int .u64 (cur.toNat : Int)], .slice iA ids.length ic] w (StepEnd w (dropErr (ns.map plN) cur ids) [] [] 0) := by
  obtain ⟨P', hP'⟩ : ∃ P', P' = StepEnd w (dropErr (ns.map plN) cur ids) [] [] 0 := ⟨_, rfl⟩
  rw [← hP']
  have HP := hide hP'
  have HBAD := hide hbad
  clear hP' hbad
  go_enter Tryd.func14, Tryd.ntmps14
  go_wp2_with fail
  have hb1 := (Below.refl w.heap.size w).alloc (Nat.le_refl _) (.cells #[.slice sA ss.length sc, .slice nA ns.length nc, .int .u64 (cur.toNat : Int)] 26)
  have x1 := boxN_new w #[.slice sA ss.length sc, .slice nA ns.length nc, .int .u64 (cur.toNat : Int)] 26
  have hz1 : (w.alloc (.cells #[.slice sA ss.length sc, .slice nA ns.length nc, .int .u64 (cur.toNat : Int)] 26)).heap.size = w.heap.size + 1 := by simp
  generalize w.alloc (.cells #[.slice sA ss.length sc, .slice nA ns.length nc, .int .u64 (cur.toNat : Int)] 26) = w1 at *
  have x2 := boxN_new w1 #[.slice iA ids.length ic] 60
  have hb2 := (Below.refl w1.heap.size w1).alloc (Nat.le_refl _) (.cells #[.slice iA ids.length ic] 60)
  have hz2 : (w1.alloc (.cells #[.slice iA ids.length ic] 60)).heap.size = w1.heap.size + 1 := by simp
  have x1b := x1.keep hb2 x1.z
  have hB2 := below_call hb1 hb1.size hb2
  generalize w1.alloc (.cells #[.slice iA ids.length ic] 60) = w2 at *
  have x3 := boxN_new w2 #[.slice none 0 0, .slice none 0 0, .int .u64 0] 26
  have hb3 := (Below.refl w2.heap.size w2).alloc (Nat.le_refl _) (.cells #[.slice none 0 0, .slice none 0 0, .int .u64 0] 26)
  have x1c := x1b.keep hb3 x1b.z
  have x2c := x2.keep hb3 x2.z
  have hB3 := below_call hB2 hB2.size hb3
  generalize w2.alloc (.cells #[.slice none 0 0, .slice none 0 0, .int .u64 0] 26) = w3 at *
  have hT3 := hT.later hB3
  have hri3 := (hri.below hB3).more hB3.size
  rw [← hz1, ← hz2]
  have z12 : w.heap.size < w1.heap.size := by omega
  have z23 : w1.heap.size < w2.heap.size := by omega
  have z34 : w2.heap.size < w3.heap.size := x3.z
  generalize hb1e : w.heap.size = b1 at *
  generalize w1.heap.size = b2 at *
  generalize w2.heap.size = b3 at *
  have H1 := hide hb1e
  have c0 := x1c.cell 0 _ rfl
  have c1 := x1c.cell 1 _ rfl
  have c2 := x1c.cell 2 _ rfl
  have c3 := x2c.cell 0 _ rfl
  clear hz1 hz2 hb1 hb2 hb3 x1 x1b x2 hB2 hT hri hb1e
  have zb1 : b1 < w3.heap.size := by omega
  go_loopw [13] (fun iv wr => ∃ k : Nat, k ≤ ids.length ∧ iv = .int .i64 (k : Int) ∧ Hid (∀ j, j < k → hasId (ns.map plN) (ids.getD j default) = true) ∧ Below w3.heap.size w3 wr) (fun iv _ => ids.length - (intOf iv).toNat)
  case atStart => exact ⟨0, Nat.zero_le _, rfl, hide (fun j h => by omega), Below.refl _ _⟩
  case round =>
    clear c0 c1 c2 c3
    obtain ⟨k, hk, rfl, hf, hbr⟩ := hrel
    have X1 := x1c.keep hbr x1c.z
    have X2 := x2c.keep hbr x2c.z
    have X3 := x3.keep hbr x3.z
    have c0 := X1.cell 0 _ rfl
    have c1 := X1.cell 1 _ rfl
    have c2 := X1.cell 2 _ rfl
    have c3 := X2.cell 0 _ rfl
    have hTr := hT3.later hbr
    have hrr := (hri3.below hbr).more hbr.size
    have hzr := hbr.size
    have HX3 := hide X3
    have HBr := hide hbr
    clear X1 X2 X3 hbr
    by_cases hlt : k < ids.length
    · obtain ⟨bi, off, rfl, hbi, fi⟩ := hrr.u64 hlt
      generalize hd : ids.getD k default = id at *
      have HD := hide hd
      clear hd hrr
      go_wp2_with fail
      refine (metaSnap wr sA sc ss nA nc ns cur.toNat hTr h3 h4 id).mono ?_
      rintro e w4 ⟨A4, c4, rfl, hown4, hb4⟩
      have hd := hasId_ix ns id
      generalize decide ((0 : Int) ≤ sIx ns id) = db at hd ⊢
      generalize snAt ns (sIx ns id) = q at *
      have HX4 := hide (HX3.out.keep hb4 (Nat.lt_of_lt_of_le x3.z hzr))
      have hB4 := below_call HBr.out HBr.out.size hb4
      clear hown4 hTr c0 c1 c2 c3 fi
      have hbA := (Below.refl w4.heap.size w4).alloc (Nat.le_refl _) (.cells #[.int .u64 (q.id.toNat : Int), .int .u64 (q.par.toNat : Int), .int .u64 (q.seq.toNat : Int), .int .u64 (q.off.toNat : Int), .int .u64 (q.tim.toNat : Int), .int .u32 (q.sch.toNat : Int), .slice A4 q.ms.length c4] 30)
      have z4 : b3 < w4.heap.size := HX4.out.z
      have hB5 := hide (hB4.alloc hB4.size (.cells #[.int .u64 (q.id.toNat : Int), .int .u64 (q.par.toNat : Int), .int .u64 (q.seq.toNat : Int), .int .u64 (q.off.toNat : Int), .int .u64 (q.tim.toNat : Int), .int .u32 (q.sch.toNat : Int), .slice A4 q.ms.length c4] 30))
      have q3 : w3.heap.size ≤ w4.heap.size := hB4.size
      have HDB := hide hd
      have HB4 := hide hB4
      clear hd hB4 hbA hb4
      cases db with
      | false =>
        have HE := hide (drop_none (cur := cur) hlt (by rw [HD.out]; exact HDB.out.symm))
        have z5 : b3 ≠ w4.heap.size := by omega
        have e0 := HX4.out.cell 0 _ rfl
        have e1 := HX4.out.cell 1 _ rfl
        have e2 := HX4.out.cell 2 _ rfl
        have f0 := HX4.out.free 0 (by simp)
        have f1 := HX4.out.free 1 (by simp)
        have f2 := HX4.out.free 2 (by simp)
        go_wp2_with fail
        (try simp only [Exit.inBlock, Exit.then])
        refine bodyPost_ret (ret_tb2 (b := b3) rfl _ _ rfl (HX4.out.set3b.keep ((Below.refl _ _).alloc (Nat.le_refl _) _) HX4.out.set3b.z)) rfl ?_
        rw [HP.out, HE.out]
        refine step_bad w _ 2 ?_
        rw [H1.out]
        have hz : b1 ≤ w4.heap.size := by omega
        have hq := below_set3b (b := b3) (v0 := .slice none 0 0) (v1 := .slice none 0 0) (v2 := .int .u64 0) (hB3.trans (HB4.out.mono (show b1 ≤ w3.heap.size by omega))) (show b1 ≤ b3 by omega)
        exact hq.alloc (by rw [show (set3b w4 b3 (.slice none 0 0) (.slice none 0 0) (.int .u64 0)).heap.size = w4.heap.size by simp [set3b]]; exact hz) _
      | true =>
        go_wp2_with fail
        go_roundw
        case rel =>
          refine ⟨k + 1, by omega, by go_num, hide (fun j hj => ?_), hB5.out⟩
          by_cases e : j = k
          · rw [e, HD.out]; exact HDB.out.symm
          · exact hf.out j (by omega)
        case measure => simp [intOf]; omega
    · have hall : ids.all (hasId (ns.map plN)) = true := drop_all (fun j hj => hf.out j (by omega))
      have HK : Hid (isIn ids cur = true ∧ dropErr (ns.map plN) cur ids = 1) := hide (by
        have h0 := HBAD.out
        unfold dropErr at h0 ⊢
        rw [if_pos hall] at h0 ⊢
        cases hi : isIn ids cur with
        | true => exact ⟨rfl, rfl⟩
        | false => rw [hi] at h0; exact absurd rfl h0)
      have f0 := HX3.out.free 0 (by simp)
      have f1 := HX3.out.free 1 (by simp)
      have f2 := HX3.out.free 2 (by simp)
      have e0 := HX3.out.cell 0 _ rfl
      have e1 := HX3.out.cell 1 _ rfl
      have e2 := HX3.out.cell 2 _ rfl
      clear hall hf
      go_wp2_with fail
      refine (containsU wr _ _ _ iA ids hrr hi cur).mono ?_
      have HI := HK.out.1
      unfold isIn at HI
      rw [HI]
      clear HI
      rintro e w4 ⟨rfl, rfl⟩
      go_wp2_with fail
      (try simp only [Exit.inBlock, Exit.then])
      refine bodyPost_ret (ret_tb2 (b := b3) rfl _ _ rfl HX3.out.set3b) rfl ?_
      rw [HP.out, HK.out.2]
      refine step_bad w _ 1 ?_
      rw [H1.out]
      exact below_set3b (hB3.trans (HBr.out.mono (by omega))) (by omega)
end

section
open Go.RowKit

def sn1 : Sn := ⟨1, 0, 0, 5, 0, 1, []⟩
def sn2 : Sn := ⟨2, 0, 0, 4, 0, 1, []⟩
theorem le1 {α : Type} (x : α) : [x].length ≤ 1000000 := by simp
theorem two_le : two.length ≤ 1000000 := by decide
theorem ms_le : ([] : List ByteArray).length ≤ 1000000 := by decide
theorem push_1 : pushErr [(1, two)] [] sn1 = 0 := by decide +kernel
theorem push_2 : pushErr [(1, two)] [sn1] sn2 = 1 := by decide +kernel
theorem drop_1 : dropErr [sn1] 1 [1] = 1 := by decide +kernel
theorem push_ok {w : World} {ss : List Ps} {ns : List Sn} {p : Sn} (h : pushErr ss ns p = 0) : PushEnd w ss ns p = StepEnd w 0 ss (ns ++ [p]) p.id.toNat := by
  unfold PushEnd
  rw [if_pos h]
theorem push_bad {w : World} {ss : List Ps} {ns : List Sn} {p : Sn} (h : pushErr ss ns p = 1) : PushEnd w ss ns p = StepEnd w 1 [] [] 0 := by
  unfold PushEnd
  rw [h, if_neg (by decide)]
theorem one_map {α β : Type} {f : α → β} {l : List α} {b : β} (h : l.map f = [b]) : ∃ a, l = [a] ∧ f a = b := by
  match l, h with
  | [a], h => exact ⟨a, rfl, by simpa using h⟩
theorem step_one {w w' : World} {e : Ending} {s : Ps} {p : Sn} (h : StepEnd w 0 [s] [p] 1 e w') : ∃ sA sc x nA nc y, e = .returned (.tuple #[.agg #[.slice sA 1 sc, .slice nA 1 nc, .int .u64 1], .int .i64 0]) ∧ OwnT w' w.heap.size sA sc [x] nA nc [y] ∧ plS x = s ∧ plN y = p ∧ Below w.heap.size w w' := by
  obtain ⟨sA, sc, ss, nA, nc, ns, rfl, hO, h1, h2, hb⟩ := h
  obtain ⟨x, rfl, hx⟩ := one_map h1
  obtain ⟨y, rfl, hy⟩ := one_map h2
  exact ⟨sA, sc, x, nA, nc, y, rfl, hO, hx, hy, hb⟩
theorem step_two {w w' : World} {e : Ending} (h : StepEnd w 1 [] [] 0 e w') : ∃ sA n sc nA m nc, e = .returned (.tuple #[.agg #[.slice sA n sc, .slice nA m nc, .int .u64 0], .int .i64 1]) ∧ Below w.heap.size w w' := by
  obtain ⟨sA, sc, ss, nA, nc, ns, rfl, _, _, _, hb⟩ := h
  exact ⟨sA, _, sc, nA, _, nc, rfl, hb⟩
set_option maxRecDepth 100000 in
set_option maxHeartbeats 1000000 in
theorem alive14 (w : World) : Calls Tryd.prog 7 #[] w fun e w' => e = .returned (.bool true) ∧ Below w.heap.size w w' := by
  go_enter Tryd.func7, Tryd.ntmps7
  go_wp2_with fail
  refine (lawTwo w).mono ?_
  rintro e w1 ⟨v, rfl, ⟨A, c, rfl, hr1⟩, hb1⟩
  go_wp2_with fail
  have lit := Rd.lit w1 (n := 1) (sz := 2) 47 #[.int .u32 1, .slice A two.length c] rfl (by decide)
  have hba := (Below.refl w1.heap.size w1).alloc (Nat.le_refl _) (.cells #[.int .u32 1, .slice A two.length c] 47)
  have hza : (w1.alloc (.cells #[.int .u32 1, .slice A two.length c] 47)).heap.size = w1.heap.size + 1 := by simp
  generalize w1.alloc (.cells #[.int .u32 1, .slice A two.length c] 47) = wa at *
  have xt := boxN_new wa #[.slice (some ⟨w1.heap.size, 0, none⟩) 1 1, .slice none 0 0, .int .u64 0] 26
  have hbb := (Below.refl wa.heap.size wa).alloc (Nat.le_refl _) (.cells #[.slice (some ⟨w1.heap.size, 0, none⟩) 1 1, .slice none 0 0, .int .u64 0] 26)
  rw [← hza] at lit ⊢
  generalize wa.alloc (.cells #[.slice (some ⟨w1.heap.size, 0, none⟩) 1 1, .slice none 0 0, .int .u64 0] 26) = w2 at *
  have hB2 : Below w.heap.size w w2 := below_call (below_call hb1 hb1.size hba) (by have := hb1.size; omega) hbb
  have hT2 : TabR w2 w2.heap.size (some ⟨w1.heap.size, 0, none⟩) 1 [⟨1, two, A, c⟩] none 0 [] := by
    refine ⟨(lit.below hbb).more hbb.size, fun s hs => ?_, Rd.nil _ _ _, by simp⟩
    obtain rfl := List.mem_singleton.1 hs
    exact (((hr1.below hba).more hba.size).below hbb).more hbb.size
  generalize w1.heap.size = bl at *
  generalize wa.heap.size = bt at *
  clear lit hba hbb hza hr1 hb1
  have hnow : Calls Tryd.prog 13 #[.agg #[.slice (some ⟨bl, 0, none⟩) 1 1, .slice none 0 0, .int .u64 0]] w2 (SnapEnd w2 [] (-1)) := metaNow w2 (some ⟨bl, 0, none⟩) 1 [⟨1, two, A, c⟩] none 0 [] 0 hT2 (by decide) (by simp)
  refine hnow.mono ?_
  rintro e w3 ⟨A3, c3, rfl, _, hb3⟩
  have hd : decide ((0 : Int) ≤ -1) = false := rfl
  rw [hd]
  generalize snAt [] (-1) = q at *
  clear hd hnow
  have hbq := (Below.refl w3.heap.size w3).alloc (Nat.le_refl _) (.cells #[.int .u64 (q.id.toNat : Int), .int .u64 (q.par.toNat : Int), .int .u64 (q.seq.toNat : Int), .int .u64 (q.off.toNat : Int), .int .u64 (q.tim.toNat : Int), .int .u32 (q.sch.toNat : Int), .slice A3 q.ms.length c3] 30)
  have xt4 := (xt.keep hb3 xt.z).keep hbq (xt.keep hb3 xt.z).z
  have c0 := xt4.cell 0 _ rfl
  have c1 := xt4.cell 1 _ rfl
  have c2 := xt4.cell 2 _ rfl
  have hT4 := (hT2.later hb3).later hbq
  have hB4 : Below w.heap.size w _ := below_call (below_call hB2 hB2.size hb3) (by have := hB2.size; have := hb3.size; omega) hbq
  clear xt hT2 hB2 hb3 hbq
  go_wp2_with fail
  generalize w3.alloc (.cells #[.int .u64 (q.id.toNat : Int), .int .u64 (q.par.toNat : Int), .int .u64 (q.seq.toNat : Int), .int .u64 (q.off.toNat : Int), .int .u64 (q.tim.toNat : Int), .int .u32 (q.sch.toNat : Int), .slice A3 q.ms.length c3] 30) = w4 at *
  have hpush : Calls Tryd.prog 12 #[.agg #[.slice (some ⟨bl, 0, none⟩) 1 1, .slice none 0 0, .int .u64 0], .agg #[.int .u64 1, .int .u64 0, .int .u64 0, .int .u64 5, .int .u64 0, .int .u32 1, .slice none 0 0]] w4 (StepEnd w4 0 [(1, two)] [sn1] 1) := by
    rw [show StepEnd w4 0 [(1, two)] [sn1] 1 = PushEnd w4 [(1, two)] [] sn1 from (push_ok push_1).symm]
    exact metaPush w4 (some ⟨bl, 0, none⟩) 1 [⟨1, two, A, c⟩] none 0 [] 0 hT4 (le1 _) (by intro s hs; obtain rfl := List.mem_singleton.1 hs; exact two_le) (by decide) (by simp) sn1 none 0 (Rd.nil _ _ _) (by decide)
  refine hpush.mono ?_
  intro e w5 hs5
  obtain ⟨sA, sc, x, nA, nc, y, rfl, O5, hx, hy, hb5⟩ := step_one hs5
  obtain ⟨yp, yA, yc⟩ := y
  obtain rfl : yp = sn1 := hy
  clear c0 c1 c2 xt4 hT4 hpush hs5
  have x6 := boxN_new w5 #[.slice sA 1 sc, .slice nA 1 nc, .int .u64 1] 26
  have hb6 := (Below.refl w5.heap.size w5).alloc (Nat.le_refl _) (.cells #[.slice sA 1 sc, .slice nA 1 nc, .int .u64 1] 26)
  have c0 := x6.cell 0 _ rfl
  have c1 := x6.cell 1 _ rfl
  have c2 := x6.cell 2 _ rfl
  have O6 := O5.keep hb6
  have hB6 : Below w.heap.size w _ := below_call (below_call hB4 hB4.size hb5) (by have := hB4.size; have := hb5.size; omega) hb6
  go_wp2_with fail
  generalize w5.alloc (.cells #[.slice sA 1 sc, .slice nA 1 nc, .int .u64 1] 26) = w6 at *
  generalize w5.heap.size = bu at *
  clear O5 hb6 hb5 hB4 c0 c1 c2
  have hnow2 : Calls Tryd.prog 13 #[.agg #[.slice sA 1 sc, .slice nA 1 nc, .int .u64 1]] w6 (SnapEnd w6 [⟨sn1, yA, yc⟩] 0) := by
    have h := metaNow w6 sA sc [x] nA nc [⟨sn1, yA, yc⟩] 1 O6.tab (le1 _) (by intro s hs; obtain rfl := List.mem_singleton.1 hs; exact ms_le)
    exact h
  refine hnow2.mono ?_
  rintro e w7 ⟨A7, c7, rfl, _, hb7⟩
  have hd : decide ((0 : Int) ≤ 0) = true := rfl
  rw [hd]
  have hq : (.returned (.tuple #[.agg #[.int .u64 ((snAt [⟨sn1, yA, yc⟩] 0).id.toNat : Int), .int .u64 ((snAt [⟨sn1, yA, yc⟩] 0).par.toNat : Int), .int .u64 ((snAt [⟨sn1, yA, yc⟩] 0).seq.toNat : Int), .int .u64 ((snAt [⟨sn1, yA, yc⟩] 0).off.toNat : Int), .int .u64 ((snAt [⟨sn1, yA, yc⟩] 0).tim.toNat : Int), .int .u32 ((snAt [⟨sn1, yA, yc⟩] 0).sch.toNat : Int), .slice A7 (snAt [⟨sn1, yA, yc⟩] 0).ms.length c7], .bool true]) : Ending) = .returned (.tuple #[.agg #[.int .u64 1, .int .u64 0, .int .u64 0, .int .u64 5, .int .u64 0, .int .u32 1, .slice A7 0 c7], .bool true]) := rfl
  rw [hq]
  clear hd hnow2 hq
  have x8 := boxN_new w7 #[.int .u64 1, .int .u64 0, .int .u64 0, .int .u64 5, .int .u64 0, .int .u32 1, .slice A7 0 c7] 30
  have hb8 := (Below.refl w7.heap.size w7).alloc (Nat.le_refl _) (.cells #[.int .u64 1, .int .u64 0, .int .u64 0, .int .u64 5, .int .u64 0, .int .u32 1, .slice A7 0 c7] 30)
  have x6b := (x6.keep hb7 x6.z).keep hb8 (x6.keep hb7 x6.z).z
  have c0 := x6b.cell 0 _ rfl
  have c1 := x6b.cell 1 _ rfl
  have c2 := x6b.cell 2 _ rfl
  have O8 := (O6.keep hb7).keep hb8
  have hB8 : Below w.heap.size w _ := below_call (below_call hB6 hB6.size hb7) (by have := hB6.size; have := hb7.size; omega) hb8
  clear x6 O6 hB6 hb8
  go_wp2_with fail
  generalize w7.alloc (.cells #[.int .u64 1, .int .u64 0, .int .u64 0, .int .u64 5, .int .u64 0, .int .u32 1, .slice A7 0 c7] 30) = w8 at *
  generalize w7.heap.size = bq at *
  clear c0 c1 c2 hb7
  have hpush2 : Calls Tryd.prog 12 #[.agg #[.slice sA 1 sc, .slice nA 1 nc, .int .u64 1], .agg #[.int .u64 2, .int .u64 0, .int .u64 0, .int .u64 4, .int .u64 0, .int .u32 1, .slice none 0 0]] w8 (StepEnd w8 1 [] [] 0) := by
    have h := metaPush w8 sA sc [x] nA nc [⟨sn1, yA, yc⟩] 1 O8.tab (le1 _) (by intro s hs; obtain rfl := List.mem_singleton.1 hs; rw [show s.fs = two from congrArg Prod.snd hx]; exact two_le) (le1 _) (by intro s hs; obtain rfl := List.mem_singleton.1 hs; exact ms_le) sn2 none 0 (Rd.nil _ _ _) (by decide)
    rw [show [x].map plS = [(1, two)] by rw [← hx]; rfl, show ([⟨sn1, yA, yc⟩] : List Nl).map plN = [sn1] from rfl] at h
    rw [← push_bad push_2]
    exact h
  refine hpush2.mono ?_
  intro e w9 hs9
  obtain ⟨bA, bn, bc, dA, dn, dc, rfl, hb9⟩ := step_two hs9
  clear hpush2 hs9
  have hbT := (Below.refl w9.heap.size w9).alloc (Nat.le_refl _) (.cells #[.slice bA bn bc, .slice dA dn dc, .int .u64 0] 26)
  have x6c := (x6b.keep hb9 x6b.z).keep hbT (x6b.keep hb9 x6b.z).z
  have x8c := (x8.keep hb9 x8.z).keep hbT (x8.keep hb9 x8.z).z
  have c0 := x6c.cell 0 _ rfl
  have c1 := x6c.cell 1 _ rfl
  have c2 := x6c.cell 2 _ rfl
  have O9 := (O8.keep hb9).keep hbT
  have hB9 : Below w.heap.size w _ := below_call (below_call hB8 hB8.size hb9) (by have := hB8.size; have := hb9.size; omega) hbT
  clear x6b x8 O8 hB8 hb9 hbT
  have hzT : (w9.alloc (.cells #[.slice bA bn bc, .slice dA dn dc, .int .u64 0] 26)).heap.size = w9.heap.size + 1 := by simp
  go_wp2_with fail
  rw [← hzT]
  clear hzT
  generalize w9.alloc (.cells #[.slice bA bn bc, .slice dA dn dc, .int .u64 0] 26) = w10 at *
  have lit := Rd.lit w10 (n := 1) (sz := 1) 24 #[.int .u64 1] rfl (by decide)
  have hbU := (Below.refl w10.heap.size w10).alloc (Nat.le_refl _) (.cells #[.int .u64 1] 24)
  have hzU : (w10.alloc (.cells #[.int .u64 1] 24)).heap.size = w10.heap.size + 1 := by simp
  rw [← hzU] at lit
  have x8d := x8c.keep hbU x8c.z
  have O10 := O9.keep hbU
  have hB10 : Below w.heap.size w _ := below_call hB9 hB9.size hbU
  generalize w10.alloc (.cells #[.int .u64 1] 24) = w11 at *
  generalize w10.heap.size = bi at *
  clear c0 c1 c2 x6c x8c O9 hB9 hbU hzU
  have hdrop : Calls Tryd.prog 14 #[.agg #[.slice sA 1 sc, .slice nA 1 nc, .int .u64 1], .slice (some ⟨bi, 0, none⟩) 1 1] w11 (StepEnd w11 1 [] [] 0) := by
    have h := metaDropBad w11 sA sc [x] nA nc [⟨sn1, yA, yc⟩] 1 O10.tab (le1 _) (by intro s hs; obtain rfl := List.mem_singleton.1 hs; exact ms_le) [1] (some ⟨bi, 0, none⟩) 1 lit (by decide) (by rw [show ([⟨sn1, yA, yc⟩] : List Nl).map plN = [sn1] from rfl, drop_1]; decide)
    rw [show ([⟨sn1, yA, yc⟩] : List Nl).map plN = [sn1] from rfl, drop_1] at h
    exact h
  refine hdrop.mono ?_
  intro e w12 hs12
  obtain ⟨eA, en, ec, fA, fn, fc, rfl, hb12⟩ := step_two hs12
  clear hdrop hs12
  have hbV := (Below.refl w12.heap.size w12).alloc (Nat.le_refl _) (.cells #[.slice eA en ec, .slice fA fn fc, .int .u64 0] 26)
  have x8e := x8d.keep hb12 x8d.z
  have c3 := x8e.cell 3 _ rfl
  have z8e : bq < w12.heap.size := x8e.z
  have z8n : bq ≠ w12.heap.size := by omega
  have hB12 : Below w.heap.size w _ := below_call (below_call hB10 hB10.size hb12) (by have := hB10.size; have := hb12.size; omega) hbV
  clear x8d x8e O10 hB10 hb12 hbV lit
  go_wp2_with fail
  go_ret
  exact ⟨rfl, hB12⟩
end

section
open Go.RowKit

theorem ixA_cases {α : Type} [Inhabited α] (p : α → Bool) (l : List α) : (∃ k : Nat, ixA p l = (k : Int) ∧ k < l.length) ∨ ixA p l = -1 := by
  unfold ixA
  split
  · rename_i ha
    exact .inl ⟨_, rfl, List.findIdx_lt_length_of_exists (p := p) (xs := l) (by simpa using ha)⟩
  · exact .inr rfl
/-- what the boxes hold -/
structure FindB (w : World) (bx b7 b9 b11 : Nat) (sA : Option Addr) (sc : Nat) (ss : List Sl) (nA : Option Addr) (nc : Nat) (ns : List Nl) (cur : Nat) (q1 : Sn) (A1 : Option Addr) (c1 : Nat) (q2 : Sn) (A2 : Option Addr) (c2 : Nat) (sid : UInt32) (sfs : List Fd) (F : Option Addr) (fc : Nat) : Prop where
  X : BoxN w bx #[.slice sA ss.length sc, .slice nA ns.length nc, .int .u64 (cur : Int)].toList
  Y1 : BoxN w b7 #[.int .u64 (q1.id.toNat : Int), .int .u64 (q1.par.toNat : Int), .int .u64 (q1.seq.toNat : Int), .int .u64 (q1.off.toNat : Int), .int .u64 (q1.tim.toNat : Int), .int .u32 (q1.sch.toNat : Int), .slice A1 q1.ms.length c1].toList
  Y2 : BoxN w b9 #[.int .u64 (q2.id.toNat : Int), .int .u64 (q2.par.toNat : Int), .int .u64 (q2.seq.toNat : Int), .int .u64 (q2.off.toNat : Int), .int .u64 (q2.tim.toNat : Int), .int .u32 (q2.sch.toNat : Int), .slice A2 q2.ms.length c2].toList
  Y3 : BoxN w b11 [.int .u32 (sid.toNat : Int), .slice F sfs.length fc]
  T : TabR w w.heap.size sA sc ss nA nc ns
  r1 : Rd w w.heap.size 1 A1 q1.ms.length c1 (strsV q1.ms)
  r2 : Rd w w.heap.size 1 A2 q2.ms.length c2 (strsV q2.ms)
  r3 : Rd w w.heap.size 4 F sfs.length fc (fdsV sfs)
section
variable {w w' : World} {bx b7 b9 b11 : Nat} {sA : Option Addr} {sc : Nat} {ss : List Sl} {nA : Option Addr} {nc : Nat} {ns : List Nl} {cur : Nat} {q1 : Sn} {A1 : Option Addr} {c1 : Nat} {q2 : Sn} {A2 : Option Addr} {c2 : Nat} {sid : UInt32} {sfs : List Fd} {F : Option Addr} {fc : Nat}
theorem FindB.keep (h : FindB w bx b7 b9 b11 sA sc ss nA nc ns cur q1 A1 c1 q2 A2 c2 sid sfs F fc) (hb : Below w.heap.size w w') : FindB w' bx b7 b9 b11 sA sc ss nA nc ns cur q1 A1 c1 q2 A2 c2 sid sfs F fc :=
  ⟨h.X.keep hb h.X.z, h.Y1.keep hb h.Y1.z, h.Y2.keep hb h.Y2.z, h.Y3.keep hb h.Y3.z, h.T.later hb, (h.r1.below hb).more hb.size, (h.r2.below hb).more hb.size, (h.r3.below hb).more hb.size⟩
end
theorem snEq_self (p : Sn) : snEq p p = true := by
  unfold snEq
  simp [txEq]
theorem sameSch_self (id : UInt32) (l : List Fd) : sameSch id id l l = true := by
  unfold sameSch
  simp [fdEq]
/-- the same snapshot -/
theorem sameSnapT (w : World) (p : Sn) (A1 A2 : Option Addr) (c1 c2 : Nat) (hr1 : Rd w w.heap.size 1 A1 p.ms.length c1 (strsV p.ms)) (q : Sn) (hr2 : Rd w w.heap.size 1 A2 q.ms.length c2 (strsV q.ms)) (hq : p = q) :
    Calls Tryd.prog 49 #[.agg #[.int .u64 (p.id.toNat : Int), .int .u64 (p.par.toNat : Int), .int .u64 (p.seq.toNat : Int), .int .u64 (p.off.toNat : Int), .int .u64 (p.tim.toNat : Int), .int .u32 (p.sch.toNat : Int), .slice A1 p.ms.length c1], .agg #[.int .u64 (q.id.toNat : Int), .int .u64 (q.par.toNat : Int), .int .u64 (q.seq.toNat : Int), .int .u64 (q.off.toNat : Int), .int .u64 (q.tim.toNat : Int), .int .u32 (q.sch.toNat : Int), .slice A2 q.ms.length c2]] w (RetVal w (.bool true)) := by
  subst hq
  have h := refSameSnap w p p A1 A2 c1 c2 hr1 hr2
  rw [snEq_self] at h
  exact h
theorem sameSchT (w : World) (i1 i2 : UInt32) (A1 A2 : Option Addr) (c1 c2 : Nat) (l1 l2 : List Fd) (hr1 : Rd w w.heap.size 4 A1 l1.length c1 (fdsV l1)) (hr2 : Rd w w.heap.size 4 A2 l2.length c2 (fdsV l2)) (hi : i1 = i2) (hl : l1 = l2) :
    Calls Tryd.prog 48 #[.agg #[.int .u32 (i1.toNat : Int), .slice A1 l1.length c1], .agg #[.int .u32 (i2.toNat : Int), .slice A2 l2.length c2]] w (RetVal w (.bool true)) := by
  subst hi hl
  have h := refSame w i1 i1 l1.length c1 l1.length c2 A1 A2 l1 l1 hr1 hr2
  rw [sameSch_self] at h
  exact h
end

section
open Go.RowKit

theorem oth_set (g k : Nat) (w : World) (u : Value) : Oth g w (w.setCell ⟨g, k, none⟩ u) :=
  ⟨rfl, rfl, rfl, by simp [World.setCell], fun j _ hne => by simp [World.setCell, Array.getElem?_modify, Ne.symm hne]⟩
section
variable {w : World} {B sz g n c : Nat} {e : TypeId} {xs : List Value}
theorem own_sets : ∀ (L : List Value) (w : World) (xs : List Value) (o : Nat), w.ownsRow B e sz (.slice (some ⟨g, 0, none⟩) n c) n xs →
    ∃ xs', (w.setCells g o L).ownsRow B e sz (.slice (some ⟨g, 0, none⟩) n c) n xs' ∧ (∀ m, m ≤ o → xs'.take m = xs.take m) ∧ Oth g w (w.setCells g o L)
  | [], w, xs, o, h => ⟨xs, h, fun _ _ => rfl, Oth.refl _ _⟩
  | v :: L, w, xs, o, h => by
    obtain ⟨xs', h', ht, ho⟩ := own_sets L (w.setCell ⟨g, o, none⟩ v) (xs.set o v) (o + 1) (own_set1 h o v)
    refine ⟨xs', h', fun m hm => ?_, (oth_set g o w v).trans ho⟩
    rw [ht m (by omega), List.take_set_of_le hm]
theorem own_cut (h : w.ownsRow B e sz (.slice (some ⟨g, 0, none⟩) n c) n xs) {i : Nat} (hi : i ≤ n) : w.ownsRow B e sz (.slice (some ⟨g, 0, none⟩) i c) i (xs.take (i * sz)) := by
  obtain ⟨cur, hc, hb, hs, hn, hm, ht, hl⟩ := own_blk h
  have hle : i * sz ≤ n * sz := Nat.mul_le_mul_right _ hi
  refine ⟨by rw [List.length_take, hl]; omega, .inr ⟨g, c, cur, rfl, hb, hc, by omega, hm, hs, ?_⟩⟩
  rw [← ht, List.take_take, Nat.min_eq_left hle]
theorem own_cell (h : w.ownsRow B e sz (.slice (some ⟨g, 0, none⟩) n c) n xs) {j : Nat} (hj : j < n * sz) : (w.cell? ⟨g, j, none⟩).isSome = true := by
  obtain ⟨cur, hc, hb, hs, hn, hm, ht, hl⟩ := own_blk h
  have : j < cur.size := by have := Nat.mul_le_mul_right sz hn; omega
  simp [World.cell?, hc, this]
end
theorem run_clear_rows (w : World) (g o n c : Nat) (hn : 0 < n) (hc : ∀ j, j < n * 7 → (w.cell? ⟨g, o + j, none⟩).isSome = true) (hf : ∀ j, j < n * 7 → w.frozen? ⟨g, o + j, none⟩ = false) :
    ∃ L : List Value, ∀ ty, (Builtin.clear_ #[23] ty #[.slice (some ⟨g, o, none⟩) n c]).run Tryd.prog w = .ok (.tuple #[]) (w.setCells g o L) := by
  have hsz : (Builtin.zeroCells (Value.agg #[.int .u64 0, .int .u64 0, .int .u64 0, .int .u64 0, .int .u64 0, .int .u32 0, .slice none 0 0]).cells n).toList.length = n * 7 := by
    simp [Builtin.zeroCells]
    rfl
  have hone : ∀ v ∈ (Builtin.zeroCells (Value.agg #[.int .u64 0, .int .u64 0, .int .u64 0, .int .u64 0, .int .u64 0, .int .u32 0, .slice none 0 0]).cells n).toList, v.oneCell' = true := by
    intro v hv
    simp only [Builtin.zeroCells, Array.toList_map, List.mem_map] at hv
    obtain ⟨i, _, rfl⟩ := hv
    have e : (Value.agg #[.int .u64 0, .int .u64 0, .int .u64 0, .int .u64 0, .int .u64 0, .int .u32 0, .slice none 0 0]).cells = #[.int .u64 0, .int .u64 0, .int .u64 0, .int .u64 0, .int .u64 0, .int .u32 0, .slice none 0 0] := rfl
    rw [e]
    have h7 : i % 7 < 7 := Nat.mod_lt _ (by decide)
    show ((#[.int .u64 0, .int .u64 0, .int .u64 0, .int .u64 0, .int .u64 0, .int .u32 0, .slice none 0 0] : Array Value)[i % 7]!).oneCell' = true
    generalize i % 7 = k at h7
    match k, h7 with
    | 0, _ => rfl
    | 1, _ => rfl
    | 2, _ => rfl
    | 3, _ => rfl
    | 4, _ => rfl
    | 5, _ => rfl
    | 6, _ => rfl
  have hst := run_storeCells_cells (P := Tryd.prog) g o (Builtin.zeroCells (Value.agg #[.int .u64 0, .int .u64 0, .int .u64 0, .int .u64 0, .int .u64 0, .int .u32 0, .slice none 0 0]).cells n).toList 0 w (by rw [hsz]; simpa using hc) (by rw [hsz]; simpa using hf) hone
  refine ⟨(Builtin.zeroCells (Value.agg #[.int .u64 0, .int .u64 0, .int .u64 0, .int .u64 0, .int .u64 0, .int .u32 0, .slice none 0 0]).cells n).toList, fun ty => ?_⟩
  simp only [Nat.add_zero] at hst
  obtain ⟨m, rfl⟩ : ∃ m, n = m + 1 := ⟨n - 1, by omega⟩
  simp [Builtin.clear_, run_underlying Tryd.underlying23, hst]
/-- what a closure gives, whatever was laid meanwhile, and whatever stands in block g -/
def PredO (w : World) (g fn : Nat) (lb : Array Value) (p : Nl → Bool) : Prop :=
  ∀ (W : World) (f : Nl), Oth g w W → Calls Tryd.prog fn (#[.agg #[.int .u64 (f.p.id.toNat : Int), .int .u64 (f.p.par.toNat : Int), .int .u64 (f.p.seq.toNat : Int), .int .u64 (f.p.off.toNat : Int), .int .u64 (f.p.tim.toNat : Int), .int .u32 (f.p.sch.toNat : Int), .slice f.A f.p.ms.length f.c]] ++ lb) W fun e w' => e = .returned (.bool (p f)) ∧ Below W.heap.size W w'
theorem nlsV_take : ∀ (l : List Nl) (k : Nat), (nlsV l).take (k * 7) = nlsV (l.take k)
  | [], k => by simp [nlsV]
  | a :: l, 0 => by simp [nlsV]
  | a :: l, k + 1 => by
    rw [List.take_succ_cons, nlsV_cons, nlsV_cons, ← nlsV_take l k, show (k + 1) * 7 = (nlV a).length + k * 7 by rw [nlV_length]; omega, List.take_length_add_append]
theorem ix_hit {α : Type} [Inhabited α] {p : α → Bool} {l : List α} {k : Nat} (h : ixA p l = (k : Int)) : k < l.length ∧ p (l.getD k default) = true ∧ ∀ j, j < k → p (l.getD j default) = false := by
  obtain ⟨h1, _, h3⟩ := ixA_at h (by omega)
  rw [Int.toNat_natCast] at h1 h3
  refine ⟨h1, h3, fun j hj => ?_⟩
  unfold ixA at h
  split at h
  · have hk : l.findIdx p = k := by omega
    have := List.not_of_lt_findIdx (p := p) (xs := l) (i := j) (by omega)
    simpa [List.getD, show j < l.length by omega] using this
  · omega
theorem ix_miss {α : Type} {p : α → Bool} {l : List α} (h : ixA p l = -1) : l.filter (fun f => !p f) = l := by
  unfold ixA at h
  split at h
  · omega
  · rename_i ha
    rw [List.filter_eq_self]
    intro a hm
    have : l.any p = false := by simpa using ha
    rw [List.any_eq_false] at this
    simp [this a hm]
theorem filt_start {α : Type} [Inhabited α] {p : α → Bool} {l : List α} {k : Nat} (hk : k < l.length) (h1 : p (l.getD k default) = true) (h2 : ∀ j, j < k → p (l.getD j default) = false) : (l.take (k + 1)).filter (fun f => !p f) = l.take k := by
  rw [List.take_add_one, List.filter_append]
  have e : l[k]?.toList = [l.getD k default] := by simp [List.getD, hk]
  rw [e]
  have e2 : (l.take k).filter (fun f => !p f) = l.take k := by
    rw [List.filter_eq_self]
    intro a ha
    obtain ⟨j, hj, rfl⟩ := List.getElem_of_mem ha
    rw [List.length_take] at hj
    have := h2 j (by omega)
    rw [List.getElem_take]
    simpa [List.getD, show j < l.length by omega] using this
  rw [e2, List.filter_cons_of_neg (by rw [h1]; decide), List.filter_nil, List.append_nil]
theorem filt_step {α : Type} [Inhabited α] {p : α → Bool} {l : List α} {j : Nat} (hj : j < l.length) : (l.take (j + 1)).filter (fun f => !p f) = (l.take j).filter (fun f => !p f) ++ (if p (l.getD j default) = true then [] else [l.getD j default]) := by
  rw [List.take_add_one, List.filter_append]
  have e : l[j]?.toList = [l.getD j default] := by simp [List.getD, hj]
  rw [e]
  cases h : p (l.getD j default) with
  | true => rw [List.filter_cons_of_neg (by rw [h]; decide), List.filter_nil, if_pos rfl]
  | false => rw [List.filter_cons_of_pos (by rw [h]; rfl), List.filter_nil, if_neg (by decide)]
theorem drop_getD {α : Type} [Inhabited α] {a b : List α} {j : Nat} (h : a.drop j = b.drop j) : a.getD j default = b.getD j default := by
  have := congrArg (fun l => l[0]?) h
  simp only [List.getElem?_drop, Nat.add_zero] at this
  simp [List.getD, this]
theorem drop_step {α : Type} {a b : List α} {j : Nat} (h : a.drop j = b.drop j) : a.drop (j + 1) = b.drop (j + 1) := by
  have := congrArg (fun l => l.drop 1) h
  simpa [List.drop_drop] using this
theorem own_nl {w : World} {B g c n j : Nat} {arr : List Nl} (h : w.ownsRow B 30 7 (.slice (some ⟨g, 0, none⟩) n c) n (nlsV arr)) (hl : arr.length = n) (hj : j < n) :
    w.cell? ⟨g, j * 7, none⟩ = some (.int .u64 ((arr.getD j default).p.id.toNat : Int)) ∧ w.cell? ⟨g, j * 7 + 1, none⟩ = some (.int .u64 ((arr.getD j default).p.par.toNat : Int)) ∧ w.cell? ⟨g, j * 7 + 2, none⟩ = some (.int .u64 ((arr.getD j default).p.seq.toNat : Int)) ∧
    w.cell? ⟨g, j * 7 + 3, none⟩ = some (.int .u64 ((arr.getD j default).p.off.toNat : Int)) ∧ w.cell? ⟨g, j * 7 + 4, none⟩ = some (.int .u64 ((arr.getD j default).p.tim.toNat : Int)) ∧ w.cell? ⟨g, j * 7 + 5, none⟩ = some (.int .u32 ((arr.getD j default).p.sch.toNat : Int)) ∧
    w.cell? ⟨g, j * 7 + 6, none⟩ = some (.slice (arr.getD j default).A (arr.getD j default).p.ms.length (arr.getD j default).c) := by
  obtain ⟨b, off, e, _, f0, f1, f2, f3, f4, f5, f6⟩ := (rd_own h).nl (i := j) (by omega)
  injection e with e
  injection e with e1 e2
  subst e1 e2
  simp only [Nat.zero_add] at f0 f1 f2 f3 f4 f5 f6
  exact ⟨f0, f1, f2, f3, f4, f5, f6⟩
set_option maxRecDepth 100000 in
set_option maxHeartbeats 4000000 in
theorem deleteN (w : World) (B g c : Nat) (l : List Nl) (ho : w.ownsRow B 30 7 (.slice (some ⟨g, 0, none⟩) l.length c) l.length (nlsV l)) (hmax : l.length ≤ 1000000) (fn : Nat) (lb : Array Value) (p : Nl → Bool)
    (eg : ∀ args w, (callFunc fn args).run Tryd.prog w = .ok (.enter fn args) w) (hp : PredO w g fn lb p) :
    Calls Tryd.prog 34 #[.slice (some ⟨g, 0, none⟩) l.length c, .func (.func fn) #[] lb] w fun e w' => ∃ l', l' = l.filter (fun f => !p f) ∧ e = .returned (.slice (some ⟨g, 0, none⟩) l'.length c) ∧ w'.ownsRow B 30 7 (.slice (some ⟨g, 0, none⟩) l'.length c) l'.length (nlsV l') ∧ Oth g w w' := by
  have hgl := own_lt ho
  go_enter Tryd.func34, Tryd.ntmps34
  go_wp2_with fail
  refine (indexN w l.length c (some ⟨g, 0, none⟩) l (rd_own ho) hmax fn lb p eg (fun W f hb => (hp W f (Oth.of hb)).mono fun e w' h => ⟨h.1, below_call hb hb.size h.2⟩)).mono ?_
  rintro e w1 ⟨rfl, hb1⟩
  have O1 := own_below ho hb1
  rcases ixA_cases p l with ⟨k, hik, hk⟩ | him
  · rw [hik]
    obtain ⟨_, hpk, hpj⟩ := ix_hit hik
    have HST := hide (filt_start hk hpk hpj)
    have hne1 : ((k : Int) == -1) = false := by rw [beq_eq_false_iff_ne]; omega
    have HP := hide hp
    clear hik hpk hpj hp
    go_wp2_with fail
    go_loopw [5, 6] (fun iv jv wr => ∃ (i j : Nat) (arr : List Nl), iv = .int .i64 (i : Int) ∧ jv = .int .i64 (j : Int) ∧ i < j ∧ j ≤ l.length ∧ Hid (arr.length = l.length) ∧ Hid (arr.take i = (l.take j).filter (fun f => !p f)) ∧ Hid (arr.drop j = l.drop j) ∧ wr.ownsRow B 30 7 (.slice (some ⟨g, 0, none⟩) l.length c) l.length (nlsV arr) ∧ Oth g w wr) (fun _ jv _ => l.length - (intOf jv).toNat)
    case atStart => exact ⟨k, k + 1, l, rfl, by go_num, by omega, hk, hide rfl, hide HST.out.symm, hide rfl, O1, Oth.of hb1⟩
    case round =>
      clear hne1
      obtain ⟨i, j, arr, rfl, rfl, hij, hj, hal, htk, hdr, O, hoth⟩ := hrel
      by_cases hlt : j < l.length
      · obtain ⟨f0, f1, f2, f3, f4, f5, f6⟩ := own_nl O hal.out hlt
        rw [drop_getD hdr.out] at f0 f1 f2 f3 f4 f5 f6
        have hfs := filt_step (p := p) hlt
        generalize hf : l.getD j default = f at *
        have HF := hide hf
        have HFS := hide hfs
        clear hf hfs
        have y := boxN_new wr #[.int .u64 (f.p.id.toNat : Int), .int .u64 (f.p.par.toNat : Int), .int .u64 (f.p.seq.toNat : Int), .int .u64 (f.p.off.toNat : Int), .int .u64 (f.p.tim.toNat : Int), .int .u32 (f.p.sch.toNat : Int), .slice f.A f.p.ms.length f.c] 30
        have hbA := (Below.refl wr.heap.size wr).alloc (Nat.le_refl _) (.cells #[.int .u64 (f.p.id.toNat : Int), .int .u64 (f.p.par.toNat : Int), .int .u64 (f.p.seq.toNat : Int), .int .u64 (f.p.off.toNat : Int), .int .u64 (f.p.tim.toNat : Int), .int .u32 (f.p.sch.toNat : Int), .slice f.A f.p.ms.length f.c] 30)
        have O5 := own_below O hbA
        have hoth5 := hoth.trans (Oth.of hbA)
        have g0 := y.cell 0 _ rfl
        have g1 := y.cell 1 _ rfl
        have g2 := y.cell 2 _ rfl
        have g3 := y.cell 3 _ rfl
        have g4 := y.cell 4 _ rfl
        have g5 := y.cell 5 _ rfl
        have g6 := y.cell 6 _ rfl
        have hcall := HP.out _ f hoth5
        cases hq : p f with
        | true =>
          rw [hq] at hcall
          have HQ := hide hq
          clear hq
          go_wp2_with fail
          refine hcall.mono ?_
          rintro e w6 ⟨rfl, hb6⟩
          go_wp2_with fail
          go_roundw
          case rel =>
            refine ⟨i, j + 1, arr, rfl, by go_num, by omega, hlt, hal, hide ?_, hide (drop_step hdr.out), own_below O5 hb6, hoth5.trans (Oth.of hb6)⟩
            rw [HFS.out, HQ.out, htk.out]
            simp
          case measure => simp [intOf]; omega
        | false =>
          rw [hq] at hcall
          have HQ := hide hq
          clear hq
          go_wp2_with fail
          refine hcall.mono ?_
          rintro e w6 ⟨rfl, hb6⟩
          have O6 := own_below O5 hb6
          have y6 := y.keep hb6 y.z
          have hoth6 := hoth5.trans (Oth.of hb6)
          generalize wr.heap.size = b5 at *
          clear f0 f1 f2 f3 f4 f5 f6 g0 g1 g2 g3 g4 g5 g6 hcall
          have g0 := y6.cell 0 _ rfl
          have g1 := y6.cell 1 _ rfl
          have g2 := y6.cell 2 _ rfl
          have g3 := y6.cell 3 _ rfl
          have g4 := y6.cell 4 _ rfl
          have g5 := y6.cell 5 _ rfl
          have g6 := y6.cell 6 _ rfl
          obtain ⟨f0, f1, f2, f3, f4, f5, f6⟩ := own_nl O6 hal.out (show i < l.length by omega)
          have r0 := own_free O6 (i * 7)
          have r1 := own_free O6 (i * 7 + 1)
          have r2 := own_free O6 (i * 7 + 2)
          have r3 := own_free O6 (i * 7 + 3)
          have r4 := own_free O6 (i * 7 + 4)
          have r5 := own_free O6 (i * 7 + 5)
          have r6 := own_free O6 (i * 7 + 6)
          have HO6 := hide (And.intro O6 hoth6)
          have hil : i < l.length := by omega
          clear O O5 O6 hoth hoth5 hoth6 y y6 hbA hb6
          go_wp2_with fail
          go_roundw
          case rel =>
            have O7 := own_set1 (own_set1 (own_set1 (own_set1 (own_set1 (own_set1 (own_set1 HO6.out.1 (i * 7) (.int .u64 (f.p.id.toNat : Int))) (i * 7 + 1) (.int .u64 (f.p.par.toNat : Int))) (i * 7 + 2) (.int .u64 (f.p.seq.toNat : Int))) (i * 7 + 3) (.int .u64 (f.p.off.toNat : Int))) (i * 7 + 4) (.int .u64 (f.p.tim.toNat : Int))) (i * 7 + 5) (.int .u32 (f.p.sch.toNat : Int))) (i * 7 + 6) (.slice f.A f.p.ms.length f.c)
            rw [nlsV_set f rfl arr i (by rw [hal.out]; exact hil)] at O7
            refine ⟨i + 1, j + 1, arr.set i f, by go_num, by go_num, by omega, hlt, hide (by rw [List.length_set]; exact hal.out), hide ?_, hide ?_, O7, ?_⟩
            · rw [HFS.out, HQ.out, ← htk.out, List.take_add_one, List.take_set_of_le (Nat.le_refl _)]
              have : i < arr.length := by rw [hal.out]; exact hil
              simp [this]
            · rw [List.drop_set_of_lt (by omega)]; exact drop_step hdr.out
            · exact ((((((HO6.out.2.trans (oth_set _ _ _ _)).trans (oth_set _ _ _ _)).trans (oth_set _ _ _ _)).trans (oth_set _ _ _ _)).trans (oth_set _ _ _ _)).trans (oth_set _ _ _ _)).trans (oth_set _ _ _ _)
          case measure => simp [intOf]; omega
      · obtain rfl : j = l.length := by omega
        have hcc : l.length ≤ c := (rd_own O).le
        have hne : c ≠ i := by omega
        have hlo := fun W => run_cut_lo tySnaps (some ⟨g, 0, none⟩) l.length c .i64 (i : Int) i rfl (by omega) hcc W
        have hlo2 := fun W => cut_lo tySnaps (some ⟨g, 0, none⟩) l.length c .i64 (i : Int) i rfl (by omega) hcc W
        simp only [if_neg hne, Option.map_some, Addr.add_lit, Nat.zero_add] at hlo hlo2
        have hhi := fun W => run_cut_hi tySnaps (some ⟨g, 0, none⟩) l.length c .i64 (i : Int) i rfl (by omega) W
        have hhi2 := fun W => cut_hi tySnaps (some ⟨g, 0, none⟩) l.length c .i64 (i : Int) i rfl (by omega) W
        have hmul : i * 7 + (l.length - i) * 7 = l.length * 7 := by omega
        obtain ⟨L, hcl⟩ := run_clear_rows wr g (i * 7) (l.length - i) (c - i) (by omega) (fun t ht => own_cell O (by omega)) (fun t _ => own_free O _)
        have HO := hide (And.intro O hoth)
        clear O hoth hmul
        go_wp2_with (simp only [hcl])
        go_ret
        obtain ⟨xs', h', htx, ho'⟩ := own_sets L wr (nlsV arr) (i * 7) HO.out.1
        have hfin : l.filter (fun f => !p f) = arr.take i := by have := htk.out; rw [List.take_length] at this; exact this.symm
        have hlen : (arr.take i).length = i := by rw [List.length_take, hal.out]; omega
        refine ⟨arr.take i, hfin.symm, ?_, ?_, HO.out.2.trans ho'⟩
        · rw [hlen]; rfl
        · rw [hlen]
          have := own_cut h' (i := i) (by omega)
          rw [htx _ (Nat.le_refl _), nlsV_take] at this
          exact this
  · rw [him]
    have HE := hide (ix_miss him)
    clear him
    go_wp2_with fail
    go_ret
    exact ⟨l, HE.out.symm, rfl, O1, Oth.of hb1⟩
end

section
open Go.RowKit

theorem BoxT.oth {w w' : World} {b g : Nat} {cs : List Value} {t : TypeId} (h : BoxT w b cs t) (ho : Oth g w w') (hne : b ≠ g) : BoxT w' b cs t := by
  obtain ⟨arr, ha⟩ := h.ty
  exact ⟨h.bx.oth ho hne, arr, (ho.block b h.bx.z hne).trans ha⟩
/-- 'slices.Contains(ids, s.Id)', ids in a box -/
theorem predDrop (w : World) (g bf B : Nat) (iA : Option Addr) (n ic : Nat) (ids : List UInt64) (hc : w.cell? ⟨bf, 0, none⟩ = some (.slice iA n ic)) (hbf : bf < w.heap.size) (hne : bf ≠ g) (hr : Rd w B 1 iA n ic (u64sV ids)) (hB : B ≤ g) (hBw : B ≤ w.heap.size) (hi : ids.length ≤ 1000000) :
    PredO w g 35 #[.pointer (some ⟨bf, 0, none⟩)] (fun f => isIn ids f.p.id) := fun W f ho => by
  have h1 := (ho.cell (p := ⟨bf, 0, none⟩) hbf hne).trans hc
  have hrW : Rd W B 1 iA n ic (u64sV ids) := hr.keep fun p hp => ho.cell (Nat.lt_of_lt_of_le hp hBw) (by omega)
  have hBW : bf < W.heap.size := Nat.lt_of_lt_of_le hbf ho.size
  have hne2 : bf ≠ W.heap.size := Nat.ne_of_lt hBW
  have hsz : B ≤ W.heap.size := Nat.le_trans hBw ho.size
  show Calls Tryd.prog 35 #[.agg #[.int .u64 (f.p.id.toNat : Int), .int .u64 (f.p.par.toNat : Int), .int .u64 (f.p.seq.toNat : Int), .int .u64 (f.p.off.toNat : Int), .int .u64 (f.p.tim.toNat : Int), .int .u32 (f.p.sch.toNat : Int), .slice f.A f.p.ms.length f.c], .pointer (some ⟨bf, 0, none⟩)] W _
  clear hc
  go_enter Tryd.func35, Tryd.ntmps35
  go_wp2_with fail
  refine (containsU _ B n ic iA ids (hrW.alloc hsz _) hi f.p.id).mono ?_
  rintro e w' ⟨rfl, rfl⟩
  go_wp2_with fail
  go_ret
  exact ⟨rfl, (Below.refl _ _).alloc (Nat.le_refl _) _⟩
theorem deleteN0 (w : World) (fn : Nat) (lb : Array Value) (p : Nl → Bool) (eg : ∀ args w, (callFunc fn args).run Tryd.prog w = .ok (.enter fn args) w) {g : Nat} (hp : PredO w g fn lb p) :
    Calls Tryd.prog 34 #[.slice none 0 0, .func (.func fn) #[] lb] w fun e w' => e = .returned (.slice none 0 0) ∧ Below w.heap.size w w' := by
  go_enter Tryd.func34, Tryd.ntmps34
  go_wp2_with fail
  refine (indexN w 0 0 none [] (Rd.nil _ _ _) (by decide) fn lb p eg (fun W f hb => (hp W f (Oth.of hb)).mono fun e w' h => ⟨h.1, below_call hb hb.size h.2⟩)).mono ?_
  rintro e w1 ⟨rfl, hb1⟩
  have e1 : ixA p ([] : List Nl) = -1 := rfl
  rw [e1]
  go_wp2_with fail
  go_ret
  exact ⟨rfl, hb1⟩
set_option maxRecDepth 100000 in
set_option maxHeartbeats 4000000 in
theorem metaDrop0 (w : World) (sA : Option Addr) (sc : Nat) (ss : List Sl) (nA : Option Addr) (nc : Nat) (ns : List Nl) (cur : UInt64) (hT : TabR w w.heap.size sA sc ss nA nc ns) (h1 : ss.length ≤ 1000000) (h2 : ∀ s ∈ ss, s.fs.length ≤ 1000000) (h3 : ns.length ≤ 1000000) (h4 : ∀ s ∈ ns, s.p.ms.length ≤ 1000000)
    (ids : List UInt64) (iA : Option Addr) (ic : Nat) (hri : Rd w w.heap.size 1 iA ids.length ic (u64sV ids)) (hi : ids.length ≤ 1000000) (hgood : dropErr (ns.map plN) cur ids = 0) :
    Calls Tryd.prog 14 #[.agg #[.slice sA ss.length sc, .slice nA ns.length nc, .int .u64 (cur.toNat : Int)], .slice iA ids.length ic] w (StepEnd w 0 (ss.map plS) ((ns.map plN).filter fun s => !isIn ids s.id) cur.toNat) := by
  obtain ⟨P', hP'⟩ : ∃ P', P' = StepEnd w 0 (ss.map plS) ((ns.map plN).filter fun s => !isIn ids s.id) cur.toNat := ⟨_, rfl⟩
  rw [← hP']
  have HP := hide hP'
  have HG := hide hgood
  clear hP' hgood
  go_enter Tryd.func14, Tryd.ntmps14
  go_wp2_with fail
  have hb1 := (Below.refl w.heap.size w).alloc (Nat.le_refl _) (.cells #[.slice sA ss.length sc, .slice nA ns.length nc, .int .u64 (cur.toNat : Int)] 26)
  have x1 := boxN_new w #[.slice sA ss.length sc, .slice nA ns.length nc, .int .u64 (cur.toNat : Int)] 26
  have hz1 : (w.alloc (.cells #[.slice sA ss.length sc, .slice nA ns.length nc, .int .u64 (cur.toNat : Int)] 26)).heap.size = w.heap.size + 1 := by simp
  generalize w.alloc (.cells #[.slice sA ss.length sc, .slice nA ns.length nc, .int .u64 (cur.toNat : Int)] 26) = w1 at *
  have x2 := boxN_new w1 #[.slice iA ids.length ic] 60
  have hb2 := (Below.refl w1.heap.size w1).alloc (Nat.le_refl _) (.cells #[.slice iA ids.length ic] 60)
  have hz2 : (w1.alloc (.cells #[.slice iA ids.length ic] 60)).heap.size = w1.heap.size + 1 := by simp
  have x1b := x1.keep hb2 x1.z
  have hB2 := below_call hb1 hb1.size hb2
  generalize w1.alloc (.cells #[.slice iA ids.length ic] 60) = w2 at *
  have x3 := boxN_new w2 #[.slice none 0 0, .slice none 0 0, .int .u64 0] 26
  have hb3 := (Below.refl w2.heap.size w2).alloc (Nat.le_refl _) (.cells #[.slice none 0 0, .slice none 0 0, .int .u64 0] 26)
  have x1c := x1b.keep hb3 x1b.z
  have x2c := x2.keep hb3 x2.z
  have hB3 := below_call hB2 hB2.size hb3
  generalize w2.alloc (.cells #[.slice none 0 0, .slice none 0 0, .int .u64 0] 26) = w3 at *
  have hT3 := hT.later hB3
  have hri3 := (hri.below hB3).more hB3.size
  rw [← hz1, ← hz2]
  have z12 : w.heap.size < w1.heap.size := by omega
  have z23 : w1.heap.size < w2.heap.size := by omega
  have z34 : w2.heap.size < w3.heap.size := x3.z
  generalize hb1e : w.heap.size = b1 at *
  generalize w1.heap.size = b2 at *
  generalize w2.heap.size = b3 at *
  have H1 := hide hb1e
  have c0 := x1c.cell 0 _ rfl
  have c1 := x1c.cell 1 _ rfl
  have c2 := x1c.cell 2 _ rfl
  have c3 := x2c.cell 0 _ rfl
  have HRI := hide hri3
  clear hz1 hz2 hb1 hb2 hb3 x1 x1b x2 hB2 hT hri hb1e
  have zb1 : b1 < w3.heap.size := by omega
  go_loopw [13] (fun iv wr => ∃ k : Nat, k ≤ ids.length ∧ iv = .int .i64 (k : Int) ∧ Hid (∀ j, j < k → hasId (ns.map plN) (ids.getD j default) = true) ∧ Below w3.heap.size w3 wr) (fun iv _ => ids.length - (intOf iv).toNat)
  case atStart => exact ⟨0, Nat.zero_le _, rfl, hide (fun j h => by omega), Below.refl _ _⟩
  case round =>
    clear c0 c1 c2 c3
    obtain ⟨k, hk, rfl, hf, hbr⟩ := hrel
    have X1 := x1c.keep hbr x1c.z
    have X2 := x2c.keep hbr x2c.z
    have X3 := x3.keep hbr x3.z
    have c0 := X1.cell 0 _ rfl
    have c1 := X1.cell 1 _ rfl
    have c2 := X1.cell 2 _ rfl
    have c3 := X2.cell 0 _ rfl
    have hTr := hT3.later hbr
    have hrr := (hri3.below hbr).more hbr.size
    have hzr := hbr.size
    have HX3 := hide X3
    have HBr := hide hbr
    clear X1 X2 X3 hbr
    by_cases hlt : k < ids.length
    · obtain ⟨bi, off, rfl, hbi, fi⟩ := hrr.u64 hlt
      generalize hd : ids.getD k default = id at *
      have HD := hide hd
      clear hd hrr
      go_wp2_with fail
      refine (metaSnap wr sA sc ss nA nc ns cur.toNat hTr h3 h4 id).mono ?_
      rintro e w4 ⟨A4, c4, rfl, hown4, hb4⟩
      have hd := hasId_ix ns id
      generalize decide ((0 : Int) ≤ sIx ns id) = db at hd ⊢
      generalize snAt ns (sIx ns id) = q at *
      have HX4 := hide (HX3.out.keep hb4 (Nat.lt_of_lt_of_le x3.z hzr))
      have hB4 := below_call HBr.out HBr.out.size hb4
      clear hown4 hTr c0 c1 c2 c3 fi
      have hbA := (Below.refl w4.heap.size w4).alloc (Nat.le_refl _) (.cells #[.int .u64 (q.id.toNat : Int), .int .u64 (q.par.toNat : Int), .int .u64 (q.seq.toNat : Int), .int .u64 (q.off.toNat : Int), .int .u64 (q.tim.toNat : Int), .int .u32 (q.sch.toNat : Int), .slice A4 q.ms.length c4] 30)
      have z4 : b3 < w4.heap.size := HX4.out.z
      have hB5 := hide (hB4.alloc hB4.size (.cells #[.int .u64 (q.id.toNat : Int), .int .u64 (q.par.toNat : Int), .int .u64 (q.seq.toNat : Int), .int .u64 (q.off.toNat : Int), .int .u64 (q.tim.toNat : Int), .int .u32 (q.sch.toNat : Int), .slice A4 q.ms.length c4] 30))
      have q3 : w3.heap.size ≤ w4.heap.size := hB4.size
      have HDB := hide hd
      have HB4 := hide hB4
      clear hd hB4 hbA hb4
      cases db with
      | false =>
        have h2 := drop_none (cur := cur) hlt (by rw [HD.out]; exact HDB.out.symm)
        rw [HG.out] at h2
        cases h2
      | true =>
        go_wp2_with fail
        go_roundw
        case rel =>
          refine ⟨k + 1, by omega, by go_num, hide (fun j hj => ?_), hB5.out⟩
          by_cases e : j = k
          · rw [e, HD.out]; exact HDB.out.symm
          · exact hf.out j (by omega)
        case measure => simp [intOf]; omega
    · have hall : ids.all (hasId (ns.map plN)) = true := drop_all (fun j hj => hf.out j (by omega))
      have HI : isIn ids cur = false := by
        have h0 := HG.out
        unfold dropErr at h0
        rw [if_pos hall] at h0
        cases hi : isIn ids cur with
        | true => rw [hi] at h0; cases h0
        | false => rfl
      clear hall hf
      go_wp2_with fail
      refine (containsU wr _ _ _ iA ids hrr hi cur).mono ?_
      unfold isIn at HI
      rw [HI]
      clear HI
      rintro e w4 ⟨rfl, rfl⟩
      go_wp2_with fail
      refine (metaCopied wr sA sc ss nA nc ns cur.toNat hTr h1 h2 h3 h4).mono ?_
      rintro e w5 ⟨oA, oc, sd, pA', pc', nd, rfl, O5, hps, hpn, hb5⟩
      have X3 := HX3.out.keep hb5 HX3.out.z
      have X2 := (x2c.keep HBr.out x2c.z).keep hb5 (x2c.keep HBr.out x2c.z).z
      have hri5 : Rd w5 w3.heap.size 1 iA ids.length ic (u64sV ids) := (HRI.out.below HBr.out).below' hb5 hzr
      have hB5 : Below b1 w w5 := below_call (hB3.trans (HBr.out.mono (by omega))) (by omega) hb5
      have hnl : nd.length = ns.length := by have := congrArg List.length hpn; simpa using this
      have HNL := hide hnl
      have HPS := hide (And.intro hps hpn)
      clear hnl hps hpn
      have y := boxT_new w5 #[.slice oA sd.length oc, .slice pA' nd.length pc', .int .u64 (cur.toNat : Int)] 26
      have hbA := (Below.refl w5.heap.size w5).alloc (Nat.le_refl _) (.cells #[.slice oA sd.length oc, .slice pA' nd.length pc', .int .u64 (cur.toNat : Int)] 26)
      have O6 := O5.keep hbA
      have X36 := X3.keep hbA X3.z
      have X26 := X2.keep hbA X2.z
      have z5 : wr.heap.size ≤ w5.heap.size := hb5.size
      have hri6 := hri5.below' hbA (show w3.heap.size ≤ w5.heap.size by omega)
      have X2c := X26.cell 0 _ rfl
      have X2z := X26.z
      have hBA : Below b1 w _ := below_call hB5 (show b1 ≤ w5.heap.size by omega) hbA
      have zb3 : b3 < wr.heap.size := by omega
      have zb1 : b1 ≤ wr.heap.size := by omega
      have u1 := y.bx.cell 1 _ rfl
      have y5 : w5.heap.size < (w5.alloc (.cells #[.slice oA sd.length oc, .slice pA' nd.length pc', .int .u64 (cur.toNat : Int)] 26)).heap.size := y.bx.z
      go_wp2_with fail
      generalize w5.alloc (.cells #[.slice oA sd.length oc, .slice pA' nd.length pc', .int .u64 (cur.toNat : Int)] 26) = w6 at *
      have hpred : ∀ g, wr.heap.size ≤ g → PredO w6 g 35 #[.pointer (some ⟨b2, 0, none⟩)] (fun f => isIn ids f.p.id) := fun g hg => predDrop w6 g b2 w3.heap.size iA ids.length ic ids X2c X2z (by omega) hri6 (by omega) (by omega) hi
      have hnd : nd.length ≤ 1000000 := by have := HNL.out; omega
      have hgl : ∀ g, pA' = some ⟨g, 0, none⟩ → wr.heap.size ≤ g ∧ g < w5.heap.size := fun g e => own_lt (by have := O5.nown; rw [e] at this; exact this)
      have HDEL : Hid (Calls Tryd.prog 34 #[.slice pA' nd.length pc', .func (.func 35) #[] #[.pointer (some ⟨b2, 0, none⟩)]] w6 fun e w' => ∃ l', l' = nd.filter (fun f => !isIn ids f.p.id) ∧ e = .returned (.slice pA' l'.length pc') ∧ OwnT w' wr.heap.size oA oc sd pA' pc' l' ∧ BoxT w' w5.heap.size #[.slice oA sd.length oc, .slice pA' nd.length pc', .int .u64 (cur.toNat : Int)].toList 26 ∧ BoxN w' b3 [.slice none 0 0, .slice none 0 0, .int .u64 0] ∧ Below b1 w w') := hide (by
        rcases O6.nown.2 with ⟨eN, hnil⟩ | ⟨g, cap, curc, eN, _, _⟩
        · injection eN with e1 e2 e3
          subst e1 e3
          obtain rfl : nd = [] := List.eq_nil_of_length_eq_zero e2
          refine (deleteN0 w6 35 #[.pointer (some ⟨b2, 0, none⟩)] (fun f => isIn ids f.p.id) (fun args w => enters_of Tryd.func35 (by kernel_rfl) rfl args w) (hpred _ (Nat.le_refl _))).mono ?_
          rintro e w8 ⟨rfl, hb8⟩
          exact ⟨[], rfl, rfl, O6.keep hb8, y.keep hb8, X36.keep hb8 X36.z, below_call hBA (by have := hBA.size; omega) hb8⟩
        · injection eN with e1 e2 e3
          subst e1 e3
          obtain ⟨g1, g2⟩ := hgl g rfl
          refine (deleteN w6 wr.heap.size g pc' nd O6.nown hnd 35 #[.pointer (some ⟨b2, 0, none⟩)] (fun f => isIn ids f.p.id) (fun args w => enters_of Tryd.func35 (by kernel_rfl) rfl args w) (hpred g g1)).mono ?_
          rintro e w8 ⟨l', hl', rfl, On, hoth⟩
          refine ⟨l', hl', rfl, ⟨own_othT O6.sown O6.nown hoth (by decide), fun s hs => own_othT (O6.sin s hs) O6.nown hoth (by decide), On, fun s hs => own_othT (O6.nin s (by rw [hl'] at hs; exact (List.mem_filter.1 hs).1)) O6.nown hoth (by decide)⟩, y.oth hoth (by omega), X36.oth hoth (by omega), hBA.trans (hoth.belowB (by omega) (by omega))⟩)
      have HZ := hide (And.intro zb3 (And.intro zb1 z5))
      clear hpred hgl O5 O6 y X36 X26 X2c X2z hBA hbA hb5 hri6 hri5 X3 X2
      refine HDEL.out.mono ?_
      rintro e w8 ⟨l', hl', rfl, O8, y8, X8, hB8⟩
      have c0 := y8.bx.cell 0 _ rfl
      have c1 := y8.bx.cell 1 _ rfl
      have c2 := y8.bx.cell 2 _ rfl
      have f0 := y8.bx.free 1 (by simp)
      have nb : w5.heap.size ≠ b3 := by have := HZ.out; omega
      have nb' : b3 ≠ w5.heap.size := by have := HZ.out; omega
      have k0 := X8.cell 0 _ rfl
      have k1 := X8.cell 1 _ rfl
      have k2 := X8.cell 2 _ rfl
      have q0 := X8.free 0 (by simp)
      have q1 := X8.free 1 (by simp)
      have q2 := X8.free 2 (by simp)
      have HL := hide hl'
      have HO := hide (And.intro O8 (And.intro y8 X8))
      clear hl' O8 y8 X8
      go_wp2_with fail
      (try simp only [Exit.inBlock, Exit.then])
      refine bodyPost_ret (ret_tb2 (b := b3) rfl _ _ rfl (HO.out.2.2.else (p := ⟨w5.heap.size, 1, none⟩) nb _).set3b) rfl ?_
      rw [HP.out]
      refine ⟨oA, oc, sd, pA', pc', l', rfl, ?_, HPS.out.1, ?_, ?_⟩
      · rw [H1.out]
        exact ((HO.out.1.setT HO.out.2.1 1 _).set3b HZ.out.1).base HZ.out.2.1
      · rw [HL.out, ← HPS.out.2, List.filter_map]
        rfl
      · rw [H1.out]
        exact below_set3b (hB8.setCell (p := ⟨w5.heap.size, 1, none⟩) (show b1 ≤ w5.heap.size by have := HZ.out; omega) _) (by omega)
end

section
open Go.RowKit

theorem sOk_zero {ss : List Ps} (h : check (ss.getD 0 ps0).1 (ss.getD 0 ps0).2 = 0) : sOk ss 0 = true := by
  have h1 := (check_len h).1
  unfold sOk wasP
  rw [if_pos rfl, decide_eq_true h]
  have e : fdsEq (List.take ps0.2.length (ss.getD 0 ps0).2) ps0.2 = true := by simp [ps0, fdsEq]
  rw [e, decide_eq_true (show ps0.1.toNat < (ss.getD 0 ps0).1.toNat from h1), decide_eq_true (show ps0.2.length ≤ (ss.getD 0 ps0).2.length from Nat.zero_le _)]
  rfl
theorem take_getD {a : List Fd} {n j : Nat} (hj : j < n) : (a.take n).getD j default = a.getD j default := by
  simp [List.getD, hj]
theorem fds_pre {a b : List Fd} (hl : b.length ≤ a.length) (h : ∀ j, j < b.length → fdEq (a.getD j default) (b.getD j default) = true) : fdsEq (a.take b.length) b = true := by
  have e : (a.take b.length).length = b.length := by rw [List.length_take]; omega
  unfold fdsEq
  rw [decide_eq_true e, Bool.true_and, e]
  exact range_good (fun j hj => by rw [take_getD hj]; exact h j hj)
theorem fds_bad {a b : List Fd} {j : Nat} (hl : b.length ≤ a.length) (hj : j < b.length) (h : fdEq (a.getD j default) (b.getD j default) = false) : fdsEq (a.take b.length) b = false := by
  have e : (a.take b.length).length = b.length := by rw [List.length_take]; omega
  unfold fdsEq
  rw [e, range_bad hj (by rw [take_getD hj]; exact h), Bool.and_false]
theorem names_len {l : List ByteArray} (h : namesOk l = true) : l.length ≤ 8 := by
  unfold namesOk at h
  simp only [Bool.and_eq_true, decide_eq_true_eq] at h
  exact h.1
theorem names_bad1 {l : List ByteArray} {q : Nat} (hq : q < l.length) (h : pathOk (l.getD q default) = false) : namesOk l = false := by
  unfold namesOk
  rw [range_bad hq (by rw [h]; rfl), Bool.and_false]
theorem names_bad2 {l : List ByteArray} {q j : Nat} (hq : q < l.length) (hj : j < q) (h : ((l.getD j default).toList == (l.getD q default).toList) = true) : namesOk l = false := by
  unfold namesOk
  rw [range_bad hq, Bool.and_false]
  have : ((l.take q).any fun y => (l.getD q default).toList == y.toList) = true := by
    rw [List.any_eq_true]
    refine ⟨l.getD j default, ?_, ?_⟩
    · have : l.getD j default = (l.take q).getD j default := by simp [List.getD, hj]
      rw [this]
      exact getD_mem (by rw [List.length_take]; omega)
    · rw [beq_iff_eq] at h ⊢
      exact h.symm
  rw [this]
  simp
theorem names_good {l : List ByteArray} (h8 : l.length ≤ 8) (h : ∀ q, q < l.length → pathOk (l.getD q default) = true ∧ ∀ j, j < q → ((l.getD j default).toList == (l.getD q default).toList) = false) : namesOk l = true := by
  unfold namesOk
  rw [decide_eq_true h8, Bool.true_and]
  refine range_good fun q hq => ?_
  rw [(h q hq).1, Bool.true_and]
  have : ((l.take q).any fun y => (l.getD q default).toList == y.toList) = false := by
    rw [List.any_eq_false]
    intro y hy
    obtain ⟨j, hj, rfl⟩ := List.getElem_of_mem hy
    rw [List.length_take] at hj
    have h1 := (h q hq).2 j (by omega)
    rw [beq_eq_false_iff_ne] at h1
    simp only [List.getElem_take, beq_iff_eq]
    intro e
    apply h1
    rw [e]
    simp [List.getD, show j < l.length by omega]
  rw [this]
  rfl
theorem r25_bad {a b : Bool} {l : List ByteArray} (h : (a && (b && decide (l.length ≤ 8))) = false) : (a && (namesOk l && b)) = false := by
  cases a with
  | false => rfl
  | true =>
    cases b with
    | false => simp
    | true =>
      cases hn : namesOk l with
      | false => rfl
      | true =>
        have := names_len hn
        simp [this] at h
set_option maxRecDepth 100000 in
set_option maxHeartbeats 8000000 in
theorem refRight (w : World) (sA : Option Addr) (sc : Nat) (ss : List Sl) (nA : Option Addr) (nc : Nat) (ns : List Nl) (cur : Nat) (hT : TabR w w.heap.size sA sc ss nA nc ns) (hms : ∀ s ∈ ns, ∀ m ∈ s.p.ms, m.size ≤ 9223372036854775807) :
    Calls Tryd.prog 10 #[.agg #[.slice sA ss.length sc, .slice nA ns.length nc, .int .u64 (cur : Int)]] w fun e w' => e = .returned (.bool (rightP (ss.map plS) (ns.map plN) cur)) ∧ Below w.heap.size w w' := by
  obtain ⟨R, hR⟩ : ∃ R, R = rightP (ss.map plS) (ns.map plN) cur := ⟨_, rfl⟩
  rw [← hR]
  have HR := hide hR
  have HMS := hide hms
  clear hR hms
  have hcap1 : ss.length ≤ 9223372036854775807 := by have h1 := hT.srow.le; have h2 := hT.srow.cap; unfold maxLen at h2; omega
  have hcap2 : ns.length ≤ 9223372036854775807 := by have h1 := hT.nrow.le; have h2 := hT.nrow.cap; unfold maxLen at h2; omega
  by_cases g : ss.length = 0
  · have HF : Hid (R = false) := hide (by rw [HR.out]; exact right_len (by simp only [List.length_map]; omega))
    have y1 : ((ss.length : Int) == 0) = true := by rw [beq_iff_eq]; omega
    clear g
    go_enter Tryd.func10, Tryd.ntmps10
    go_wp2_with fail
    go_ret
    exact ⟨by rw [HF.out]; rfl, (Below.refl _ _).alloc (Nat.le_refl _) _⟩
  have y1 : ((ss.length : Int) == 0) = false := by rw [beq_eq_false_iff_ne]; omega
  have H1 := hide g
  clear g
  by_cases g : 16 < ss.length
  · have HF : Hid (R = false) := hide (by rw [HR.out]; exact right_len (by simp only [List.length_map]; omega))
    have y2 : decide ((16 : Int) < (ss.length : Int)) = true := decide_eq_true (by omega)
    clear g
    go_enter Tryd.func10, Tryd.ntmps10
    go_wp2_with fail
    go_ret
    exact ⟨by rw [HF.out]; rfl, (Below.refl _ _).alloc (Nat.le_refl _) _⟩
  have y2 : decide ((16 : Int) < (ss.length : Int)) = false := decide_eq_false (by omega)
  have H2 := hide g
  clear g
  by_cases g : 32 < ns.length
  · have HF : Hid (R = false) := hide (by rw [HR.out]; exact right_len (by simp only [List.length_map]; omega))
    have y3 : decide ((32 : Int) < (ns.length : Int)) = true := decide_eq_true (by omega)
    clear g
    go_enter Tryd.func10, Tryd.ntmps10
    go_wp2_with fail
    go_ret
    exact ⟨by rw [HF.out]; rfl, (Below.refl _ _).alloc (Nat.le_refl _) _⟩
  have y3 : decide ((32 : Int) < (ns.length : Int)) = false := decide_eq_false (by omega)
  have H3 := hide g
  clear g
  have HL : Hid (1 ≤ ss.length ∧ ss.length ≤ 16 ∧ ns.length ≤ 32) := hide (by have := H1.out; have := H2.out; have := H3.out; omega)
  clear H1 H2 H3
  go_enter Tryd.func10, Tryd.ntmps10
  go_wp2_with fail
  have x1 := boxN_new w #[.slice sA ss.length sc, .slice nA ns.length nc, .int .u64 (cur : Int)] 26
  have hb1 := (Below.refl w.heap.size w).alloc (Nat.le_refl _) (.cells #[.slice sA ss.length sc, .slice nA ns.length nc, .int .u64 (cur : Int)] 26)
  generalize w.alloc (.cells #[.slice sA ss.length sc, .slice nA ns.length nc, .int .u64 (cur : Int)] 26) = w1 at *
  have hT1 := hT.later hb1
  have z11 : w.heap.size < w1.heap.size := x1.z
  generalize hb1e : w.heap.size = b1 at *
  have HB1 := hide hb1e
  clear y1 y2 y3 hb1e
  go_loopw [3] (fun iv wr => ∃ k : Nat, iv = .int .i64 (k : Int) ∧ k ≤ ss.length ∧ Hid (∀ j, j < k → sOk (ss.map plS) j = true) ∧ Below w1.heap.size w1 wr) (fun iv _ => ss.length - (intOf iv).toNat)
  case atStart => exact ⟨0, rfl, Nat.zero_le _, hide (fun j h => by omega), Below.refl _ _⟩
  case round =>
    obtain ⟨k, rfl, hk, hall, hbr⟩ := hrel
    have X := x1.keep hbr x1.z
    have c0 := X.cell 0 _ rfl
    have c1 := X.cell 1 _ rfl
    have hTr := hT1.later hbr
    by_cases hlt : k < ss.length
    · obtain ⟨b, off, rfl, hb, f0, f1⟩ := hTr.srow.sl hlt
      have hrd := hTr.s_at hlt
      have hge := plS_get ss k
      generalize hf : ss.getD k default = f at *
      have HGE := hide hge
      have hlm : k < (ss.map plS).length := by rw [List.length_map]; exact hlt
      have HLM := hide hlm
      have y := boxN_new wr #[.int .u32 (f.id.toNat : Int), .slice f.A f.fs.length f.c] 47
      have hbA := (Below.refl wr.heap.size wr).alloc (Nat.le_refl _) (.cells #[.int .u32 (f.id.toNat : Int), .slice f.A f.fs.length f.c] 47)
      have X5 := X.keep hbA X.z
      have hT5 := hTr.later hbA
      have hrd5 := (hrd.below hbA).more hbA.size
      have hB5 : Below w1.heap.size w1 _ := below_call hbr hbr.size hbA
      have u0 := y.cell 0 _ rfl
      have u1 := y.cell 1 _ rfl
      clear hf hge hlm
      go_wp2_with fail
      generalize wr.alloc (.cells #[.int .u32 (f.id.toNat : Int), .slice f.A f.fs.length f.c] 47) = w5 at *
      generalize wr.heap.size = b5 at *
      refine (refCheck w5 f.id _ f.c f.A f.fs hrd5).mono ?_
      rintro e w6 ⟨rfl, hb6⟩
      have X6 := X5.keep hb6 X5.z
      have Y6 := y.keep hb6 y.z
      have hT6 := hT5.later hb6
      have hrd6 := (hrd5.below hb6).more hb6.size
      have hB6 : Below w1.heap.size w1 w6 := below_call hB5 hB5.size hb6
      clear u0 u1 f0 f1 c0 c1 X X5 y hTr hT5 hrd hrd5 hbr hB5 hbA hb6
      by_cases g : check f.id f.fs = 0
      · rw [show ((check f.id f.fs : Nat) : Int) = 0 by rw [g]; rfl]
        have HCK := hide g
        clear g
        cases k with
        | zero =>
          have HOK := hide (sOk_zero (ss := ss.map plS) (by rw [HGE.out]; exact HCK.out))
          go_wp2_with fail
          go_roundw
          case rel =>
            refine ⟨1, rfl, by omega, hide (fun j hj => ?_), hB6⟩
            obtain rfl : j = 0 := by omega
            exact HOK.out
          case measure => simp [intOf]; omega
        | succ k =>
          obtain ⟨b', off', ee, _, f0, f1⟩ := hT6.srow.sl (i := k) (by omega)
          obtain ⟨rfl, rfl⟩ : b = b' ∧ off = off' := by injection ee with ee; injection ee with e1 e2; exact ⟨e1, e2⟩
          have hrdg := hT6.s_at (i := k) (by omega)
          have hge2 := plS_get ss k
          generalize hg : ss.getD k default = g at *
          have HGE2 := hide hge2
          have hso : sOk (ss.map plS) (k + 1) = (decide (check f.id f.fs = 0) && (decide (g.id.toNat < f.id.toNat) && (decide (g.fs.length ≤ f.fs.length) && fdsEq (f.fs.take g.fs.length) g.fs))) := sOk_eq (s := plS f) (was := plS g) HGE.out (by rw [wasP_succ]; exact hge2)
          have HSO := hide hso
          clear ee hg hge2 hso
          have hkm : k + 1 ≤ 9223372036854775807 := by omega
          have c0 := X6.cell 0 _ rfl
          have c1 := X6.cell 1 _ rfl
          have hbA := (Below.refl w6.heap.size w6).alloc (Nat.le_refl _) (.cells #[.int .u32 (g.id.toNat : Int), .slice g.A g.fs.length g.c] 47)
          have yg := boxN_new w6 #[.int .u32 (g.id.toNat : Int), .slice g.A g.fs.length g.c] 47
          have Y7 := Y6.keep hbA Y6.z
          have hrd7 := (hrd6.below hbA).more hbA.size
          have hrdg7 := (hrdg.below hbA).more hbA.size
          have hB7 : Below w1.heap.size w1 _ := below_call hB6 hB6.size hbA
          have u0 := Y7.cell 0 _ rfl
          have u1 := Y7.cell 1 _ rfl
          have v0 := yg.cell 0 _ rfl
          have v1 := yg.cell 1 _ rfl
          go_upto_region 11 with fail
          generalize w6.alloc (.cells #[.int .u32 (g.id.toNat : Int), .slice g.A g.fs.length g.c] 47) = w7 at *
          generalize w6.heap.size = b7 at *
          by_cases g1 : f.id.toNat ≤ g.id.toNat
          · have HF : Hid (R = false) := hide (by rw [HR.out]; exact right_s HLM.out (by rw [HSO.out, decide_eq_false (show ¬ g.id.toNat < f.id.toNat by omega)]; simp))
            go_wp2_with fail
            go_ret
            exact ⟨by rw [HF.out]; rfl, by rw [HB1.out]; exact hb1.trans (hB7.mono (Nat.le_of_lt z11))⟩
          by_cases g2 : f.fs.length < g.fs.length
          · have HF : Hid (R = false) := hide (by rw [HR.out]; exact right_s HLM.out (by rw [HSO.out, decide_eq_false (show ¬ g.fs.length ≤ f.fs.length by omega)]; simp))
            go_wp2_with fail
            go_ret
            exact ⟨by rw [HF.out]; rfl, by rw [HB1.out]; exact hb1.trans (hB7.mono (Nat.le_of_lt z11))⟩
          have zy := Y7.z
          have zg := yg.z
          have hgc : g.fs.length ≤ 9223372036854775807 := by have h1 := hrdg7.le; have h2 := hrdg7.cap; unfold maxLen at h2; omega
          clear f0 f1 c0 c1 X6 Y6 hT6 hrd6 hrdg hB6 hbA
          go_wp2_with fail
          go_loopw [6] (fun iv wr => ∃ m : Nat, iv = .int .i64 (m : Int) ∧ m ≤ g.fs.length ∧ Hid (∀ j, j < m → fdEq (f.fs.getD j default) (g.fs.getD j default) = true) ∧ Below w7.heap.size w7 wr) (fun iv _ => g.fs.length - (intOf iv).toNat)
          case atStart => exact ⟨0, rfl, Nat.zero_le _, hide (fun j h => by omega), Below.refl _ _⟩
          case round =>
            obtain ⟨m, rfl, hm, hfd, hbq⟩ := hrel
            have q1 := (hbq.cell (p := ⟨b5, 1, none⟩) zy).trans u1
            have q2 := (hbq.cell (p := ⟨b7, 1, none⟩) zg).trans v1
            have hBq : Below w1.heap.size w1 wr := below_call hB7 hB7.size hbq
            by_cases hltm : m < g.fs.length
            · obtain ⟨d1, o1, hA1, _, p0, p1, p2, p3⟩ := (hrd7.below hbq).fd (k := m) (by omega)
              obtain ⟨d2, o2, hA2, _, r0, r1, r2, r3⟩ := (hrdg7.below hbq).fd hltm
              rw [hA1] at q1
              rw [hA2] at q2
              have hlt3 : m < f.fs.length := by omega
              generalize hff : f.fs.getD m default = ff at *
              generalize hgg : g.fs.getD m default = gf at *
              have HFG := hide (And.intro hff hgg)
              clear hff hgg hA1 hA2
              have hne := neq_fd ff gf
              cases hq : fdEq ff gf with
              | true =>
                rw [hq, Bool.not_true] at hne
                have HQ := hide hq
                clear hq
                go_wp2_with fail
                go_quiet (fail)
                go_wp2_with fail
                go_roundw
                case rel =>
                  refine ⟨m + 1, by go_num, hltm, hide (fun j hj => ?_), below_dN hbq _⟩
                  by_cases e : j = m
                  · rw [e, HFG.out.1, HFG.out.2]; exact HQ.out
                  · exact hfd.out j (by omega)
                case measure => simp [intOf]; omega
              | false =>
                rw [hq, Bool.not_false] at hne
                have HF : Hid (R = false) := hide (by rw [HR.out]; exact right_s HLM.out (by rw [HSO.out, fds_bad (by omega) hltm (by rw [HFG.out.1, HFG.out.2]; exact hq)]; simp))
                clear hq
                go_wp2_with fail
                go_quiet (fail)
                go_wp2_with fail
                go_ret
                exact ⟨by rw [HF.out]; rfl, by rw [HB1.out]; exact below_dN (hb1.trans (hBq.mono (Nat.le_of_lt z11))) _⟩
            · have HOK : Hid (sOk (ss.map plS) (k + 1) = true) := hide (by
                rw [HSO.out, decide_eq_true HCK.out, decide_eq_true (show g.id.toNat < f.id.toNat by omega), decide_eq_true (show g.fs.length ≤ f.fs.length by omega), fds_pre (by omega) (fun j hj => hfd.out j (by omega))]
                rfl)
              go_wp2_with fail
              go_roundw
              case rel =>
                refine ⟨k + 2, by go_num, by omega, hide (fun j hj => ?_), hBq⟩
                by_cases e : j = k + 1
                · rw [e]; exact HOK.out
                · exact hall.out j (by omega)
              case measure => simp [intOf]; omega
      · have t1 : ((check f.id f.fs : Int) != 0) = true := by rw [bne_iff_ne]; omega
        have HF : Hid (R = false) := hide (by rw [HR.out]; exact right_s HLM.out (by rw [sOk_eq HGE.out rfl]; show (decide (check f.id f.fs = 0) && _) = false; rw [decide_eq_false g]; rfl))
        clear g
        go_wp2_with fail
        go_ret
        exact ⟨by rw [HF.out]; rfl, by rw [HB1.out]; exact hb1.trans (hB6.mono (Nat.le_of_lt z11))⟩
    · have hallS : Hid (∀ j, j < (ss.map plS).length → sOk (ss.map plS) j = true) := hide (fun j hj => hall.out j (by rw [List.length_map] at hj; omega))
      have hB0 : Below b1 w wr := hb1.trans (hbr.mono (Nat.le_of_lt z11))
      have z1r : b1 < wr.heap.size := Nat.lt_of_lt_of_le z11 hbr.size
      have hb6 := (Below.refl wr.heap.size wr).alloc (Nat.le_refl _) (.cells #[.int .u64 0, .int .u64 0, .int .u64 0, .int .u64 0, .int .u64 0, .int .u32 0, .slice none 0 0] 30)
      have x6 := boxN_new wr #[.int .u64 0, .int .u64 0, .int .u64 0, .int .u64 0, .int .u64 0, .int .u32 0, .slice none 0 0] 30
      have XT6 := X.keep hb6 X.z
      have hT6 := hTr.later hb6
      have hB6 : Below b1 w _ := hB0.trans (hb6.mono (Nat.le_of_lt z1r))
      have d0 := XT6.cell 0 _ rfl
      have d1 := XT6.cell 1 _ rfl
      have d2 := XT6.cell 2 _ rfl
      clear hall hbr hT1 x1
      go_wp2_with fail
      generalize wr.alloc (.cells #[.int .u64 0, .int .u64 0, .int .u64 0, .int .u64 0, .int .u64 0, .int .u32 0, .slice none 0 0] 30) = w6 at *
      generalize wr.heap.size = b6 at *
      have z66 : b6 < w6.heap.size := x6.z
      clear hTr hB0 hb6 hlt hk X d0 d1 d2 c0 c1
      go_loopw [8] (fun iv wr => ∃ (k : Nat) (p : Sn) (A : Option Addr) (c : Nat), iv = .int .i64 (k : Int) ∧ k ≤ ns.length ∧ BoxN wr b6 #[.int .u64 (p.id.toNat : Int), .int .u64 (p.par.toNat : Int), .int .u64 (p.seq.toNat : Int), .int .u64 (p.off.toNat : Int), .int .u64 (p.tim.toNat : Int), .int .u32 (p.sch.toNat : Int), .slice A p.ms.length c].toList ∧ Hid (wasN (ns.map plN) k = p) ∧ Hid (∀ j, j < k → nOk (ss.map plS) (ns.map plN) j = true) ∧ Below b6 w6 wr) (fun iv _ => ns.length - (intOf iv).toNat)
      case atStart => exact ⟨0, default, none, 0, rfl, Nat.zero_le _, x6, hide rfl, hide (fun j h => by omega), Below.refl _ _⟩
      case round =>
        obtain ⟨m, p, pA, pc, rfl, hm, X, hwas, hall, hbr⟩ := hrel
        have XT := XT6.keep hbr z1r
        have e0 := XT.cell 0 _ rfl
        have e1 := XT.cell 1 _ rfl
        have e2 := XT.cell 2 _ rfl
        have hBr : Below b1 w wr := hB6.trans (hbr.mono (Nat.le_of_lt z1r))
        have hTr := (hT.below hBr).more (show b1 ≤ wr.heap.size by have := hbr.size; omega)
        by_cases hlt : m < ns.length
        · obtain ⟨b, off, rfl, hb, f0, f1, f2, f3, f4, f5, f6⟩ := hTr.nrow.nl hlt
          have hrd := hTr.n_at hlt
          have hfm := HMS.out _ (getD_mem hlt)
          have hge := plN_get ns m
          generalize hf : ns.getD m default = f at *
          have hno := nOk_eq (ss := ss.map plS) (s := f.p) (was := p) hge hwas.out
          have HNO := hide hno
          have HGE := hide hge
          have HFM := hide hfm
          have hlm : m < (ns.map plN).length := by rw [List.length_map]; exact hlt
          have HLM := hide hlm
          clear hf hge hno hlm hfm
          have y := boxN_new wr #[.int .u64 (f.p.id.toNat : Int), .int .u64 (f.p.par.toNat : Int), .int .u64 (f.p.seq.toNat : Int), .int .u64 (f.p.off.toNat : Int), .int .u64 (f.p.tim.toNat : Int), .int .u32 (f.p.sch.toNat : Int), .slice f.A f.p.ms.length f.c] 30
          have hbA := (Below.refl wr.heap.size wr).alloc (Nat.le_refl _) (.cells #[.int .u64 (f.p.id.toNat : Int), .int .u64 (f.p.par.toNat : Int), .int .u64 (f.p.seq.toNat : Int), .int .u64 (f.p.off.toNat : Int), .int .u64 (f.p.tim.toNat : Int), .int .u32 (f.p.sch.toNat : Int), .slice f.A f.p.ms.length f.c] 30)
          have X5 := X.keep hbA X.z
          have XT5 := XT.keep hbA XT.z
          have hz6 : b6 < wr.heap.size := X.z
          have hT5 := hTr.later hbA
          have hrd5 := (hrd.below hbA).more hbA.size
          have hB5 : Below b6 w6 _ := below_call hbr (Nat.le_of_lt hz6) hbA
          have hBr5 : Below b1 w _ := below_call hBr (show b1 ≤ wr.heap.size by omega) hbA
          have g0 := y.cell 0 _ rfl
          have v0 := X5.cell 0 _ rfl
          have g1 := y.cell 1 _ rfl
          have v1 := X5.cell 1 _ rfl
          have g2 := y.cell 2 _ rfl
          have v2 := X5.cell 2 _ rfl
          have g3 := y.cell 3 _ rfl
          have v3 := X5.cell 3 _ rfl
          have g4 := y.cell 4 _ rfl
          have v4 := X5.cell 4 _ rfl
          have g5 := y.cell 5 _ rfl
          have v5 := X5.cell 5 _ rfl
          have g6 := y.cell 6 _ rfl
          have v6 := X5.cell 6 _ rfl
          have HX5 := hide X5
          have HY := hide y
          have HXT := hide XT5
          clear y X5 XT5
          go_upto_region 23 with fail
          go_cut [127] from 84 to 197 (fun v wx => v = .bool (!(n15 p f.p)) ∧ wx = wr.alloc (.cells #[.int .u64 (f.p.id.toNat : Int), .int .u64 (f.p.par.toNat : Int), .int .u64 (f.p.seq.toNat : Int), .int .u64 (f.p.off.toNat : Int), .int .u64 (f.p.tim.toNat : Int), .int .u32 (f.p.sch.toNat : Int), .slice f.A f.p.ms.length f.c] 30))
          case first =>
            by_cases h1 : f.p.id.toNat ≤ p.id.toNat
            · have HN : Hid (n15 p f.p = false) := hide (by unfold n15; rw [decide_eq_false (show ¬ p.id.toNat < f.p.id.toNat by omega)]; rfl)
              go_wp2_with fail
              go_meet
              exact ⟨by rw [HN.out]; rfl, rfl⟩
            by_cases h3 : f.p.id.toNat ≤ f.p.par.toNat
            · have HN : Hid (n15 p f.p = false) := hide (by unfold n15; rw [decide_eq_false (show ¬ f.p.par.toNat < f.p.id.toNat by omega)]; simp)
              go_wp2_with fail
              go_meet
              exact ⟨by rw [HN.out]; rfl, rfl⟩
            by_cases h2 : 1073741824 < f.p.id.toNat
            · have t2 : decide ((1073741824 : Int) < (f.p.id.toNat : Int)) = true := decide_eq_true (by omega)
              have HN : Hid (n15 p f.p = false) := hide (by unfold n15; rw [decide_eq_false (show ¬ f.p.id.toNat ≤ 1073741824 by omega)]; simp)
              clear h2
              go_wp2_with fail
              go_meet
              exact ⟨by rw [HN.out]; rfl, rfl⟩
            have t2 : decide ((1073741824 : Int) < (f.p.id.toNat : Int)) = false := decide_eq_false (by omega)
            have HN : Hid (n15 p f.p = decide (f.p.seq.toNat ≤ 1073741824 ∧ f.p.off.toNat ≤ 1073741824 ∧ f.p.tim.toNat ≤ 1073741824)) := hide (by
              unfold n15
              rw [decide_eq_true (show p.id.toNat < f.p.id.toNat by omega), decide_eq_true (show f.p.id.toNat ≤ 1073741824 by omega), decide_eq_true (show f.p.par.toNat < f.p.id.toNat by omega)]
              rfl)
            generalize f.p.seq.toNat = q1 at *
            generalize f.p.off.toNat = q2 at *
            generalize f.p.tim.toNat = q3 at *
            clear h2
            by_cases s1 : 1073741824 < q1
            · have t3 : decide ((1073741824 : Int) < (q1 : Int)) = true := decide_eq_true (by omega)
              have HN2 : Hid (n15 p f.p = false) := hide (by rw [HN.out]; exact decide_eq_false (by omega))
              clear s1
              go_wp2_with fail
              go_meet
              exact ⟨by rw [HN2.out]; rfl, rfl⟩
            have t3 : decide ((1073741824 : Int) < (q1 : Int)) = false := decide_eq_false (by omega)
            by_cases s2 : 1073741824 < q2
            · have t4 : decide ((1073741824 : Int) < (q2 : Int)) = true := decide_eq_true (by omega)
              have HN2 : Hid (n15 p f.p = false) := hide (by rw [HN.out]; exact decide_eq_false (by omega))
              clear s1 s2
              go_wp2_with fail
              go_meet
              exact ⟨by rw [HN2.out]; rfl, rfl⟩
            have t4 : decide ((1073741824 : Int) < (q2 : Int)) = false := decide_eq_false (by omega)
            by_cases s3 : 1073741824 < q3
            · have t5 : decide ((1073741824 : Int) < (q3 : Int)) = true := decide_eq_true (by omega)
              have HN2 : Hid (n15 p f.p = false) := hide (by rw [HN.out]; exact decide_eq_false (by omega))
              clear s1 s2 s3
              go_wp2_with fail
              go_meet
              exact ⟨by rw [HN2.out]; rfl, rfl⟩
            have t5 : decide ((1073741824 : Int) < (q3 : Int)) = false := decide_eq_false (by omega)
            have HN2 : Hid (n15 p f.p = true) := hide (by rw [HN.out]; exact decide_eq_true (by omega))
            clear s1 s2 s3
            go_wp2_with fail
            go_meet
            exact ⟨by rw [HN2.out]; rfl, rfl⟩
          case rest =>
            obtain ⟨rfl, rfl⟩ := hcut
            generalize wr.alloc (.cells #[.int .u64 (f.p.id.toNat : Int), .int .u64 (f.p.par.toNat : Int), .int .u64 (f.p.seq.toNat : Int), .int .u64 (f.p.off.toNat : Int), .int .u64 (f.p.tim.toNat : Int), .int .u32 (f.p.sch.toNat : Int), .slice f.A f.p.ms.length f.c] 30) = w7 at *
            generalize wr.heap.size = b8 at *
            clear f0 f1 f2 f3 f4 f5 f6 e0 e1 e2 hBr hTr hrd X XT hbr hbA
            cases hn15 : n15 p f.p with
            | false =>
              have HF : Hid (R = false) := hide (by rw [HR.out]; exact right_n HLM.out (by rw [HNO.out, nOk_split, hn15]; rfl))
              clear hn15
              go_wp2_with fail
              go_ret
              exact ⟨by rw [HF.out]; rfl, by rw [HB1.out]; exact hBr5⟩
            | true =>
              have HN15 := hide hn15
              clear hn15
              go_upto_region 25 with fail
              go_cut [166] from 84 to 197 (fun v wx => v = .bool (!(n17 p f.p && (hasSch (ss.map plS) f.p.sch && decide (f.p.ms.length ≤ 8)))) ∧ Below w7.heap.size w7 wx)
              case first =>
                by_cases h0 : f.p.seq.toNat < p.seq.toNat
                · have HN : Hid (n17 p f.p = false) := hide (by unfold n17; rw [decide_eq_false (show ¬ p.seq.toNat ≤ f.p.seq.toNat by omega)]; simp)
                  go_wp2_with fail
                  go_meet
                  exact ⟨by rw [HN.out]; rfl, Below.refl _ _⟩
                by_cases h1 : f.p.off.toNat < p.off.toNat
                · have HN : Hid (n17 p f.p = false) := hide (by unfold n17; rw [decide_eq_false (show ¬ p.off.toNat ≤ f.p.off.toNat by omega)]; simp)
                  go_wp2_with fail
                  go_meet
                  exact ⟨by rw [HN.out]; rfl, Below.refl _ _⟩
                by_cases h2 : f.p.tim.toNat < p.tim.toNat
                · have HN : Hid (n17 p f.p = false) := hide (by unfold n17; rw [decide_eq_false (show ¬ p.tim.toNat ≤ f.p.tim.toNat by omega)]; simp)
                  go_wp2_with fail
                  go_meet
                  exact ⟨by rw [HN.out]; rfl, Below.refl _ _⟩
                by_cases h3 : f.p.sch.toNat < p.sch.toNat
                · have HN : Hid (n17 p f.p = false) := hide (by unfold n17; rw [decide_eq_false (show ¬ p.sch.toNat ≤ f.p.sch.toNat by omega)]; simp)
                  go_wp2_with fail
                  go_meet
                  exact ⟨by rw [HN.out]; rfl, Below.refl _ _⟩
                have HN : Hid (n17 p f.p = true) := hide (by unfold n17; rw [decide_eq_true (show p.seq.toNat ≤ f.p.seq.toNat by omega), decide_eq_true (show p.off.toNat ≤ f.p.off.toNat by omega), decide_eq_true (show p.tim.toNat ≤ f.p.tim.toNat by omega), decide_eq_true (show p.sch.toNat ≤ f.p.sch.toNat by omega)]; rfl)
                have HAS := has_any ss f.p.sch
                have HH := hide HAS
                have o0 := HXT.out.cell 0 _ rfl
                have o1 := HXT.out.cell 1 _ rfl
                have o2 := HXT.out.cell 2 _ rfl
                clear HAS
                go_wp2_with fail
                refine (refShape w7 sA sc ss _ nc ns cur hT5 f.p.sch).mono ?_
                rintro e w8 ⟨rfl, hb8⟩
                obtain ⟨i, hi⟩ : ∃ i, i = cIx ss f.p.sch := ⟨_, rfl⟩
                have hi' : ixA (fun f_1 : Sl => (f_1.id.toNat : Int) == (f.p.sch.toNat : Int)) ss = i := hi.symm
                rw [hi']
                rw [← hi] at HH
                have Y8 := HY.out.keep hb8 HY.out.z
                have l6 := Y8.cell 6 _ rfl
                clear hi hi' g0 g1 g2 g3 g4 g5 g6 v0 v1 v2 v3 v4 v5 v6 o0 o1 o2 Y8
                by_cases hneg : i < 0
                · have t6 : decide (i < 0) = true := decide_eq_true hneg
                  have HB : Hid ((n17 p f.p && (hasSch (ss.map plS) f.p.sch && decide (f.p.ms.length ≤ 8))) = false) := hide (by rw [HH.out, decide_eq_false (by omega)]; simp)
                  clear hneg
                  go_wp2_with fail
                  go_meet
                  exact ⟨by rw [HB.out]; rfl, hb8⟩
                have t6 : decide (i < 0) = false := decide_eq_false hneg
                by_cases h8 : 8 < f.p.ms.length
                · have t7 : decide ((8 : Int) < (f.p.ms.length : Int)) = true := decide_eq_true (by omega)
                  have HB : Hid ((n17 p f.p && (hasSch (ss.map plS) f.p.sch && decide (f.p.ms.length ≤ 8))) = false) := hide (by rw [decide_eq_false (show ¬ f.p.ms.length ≤ 8 by omega)]; simp)
                  clear hneg h8
                  go_wp2_with fail
                  go_meet
                  exact ⟨by rw [HB.out]; rfl, hb8⟩
                have t7 : decide ((8 : Int) < (f.p.ms.length : Int)) = false := decide_eq_false (by omega)
                have HB : Hid ((n17 p f.p && (hasSch (ss.map plS) f.p.sch && decide (f.p.ms.length ≤ 8))) = true) := hide (by rw [HN.out, HH.out, decide_eq_true (show (0 : Int) ≤ i by omega), decide_eq_true (show f.p.ms.length ≤ 8 by omega)]; rfl)
                clear hneg h8
                go_wp2_with fail
                go_meet
                exact ⟨by rw [HB.out]; rfl, hb8⟩
              case rest =>
                obtain ⟨rfl, hb8⟩ := hcut
                have X8 := HX5.out.keep hb8 HX5.out.z
                have Y8 := HY.out.keep hb8 HY.out.z
                have z8 : b6 < w7.heap.size := HX5.out.z
                have hrd8 := (hrd5.below hb8).more hb8.size
                have hBr8 : Below b1 w wc := below_call hBr5 (show b1 ≤ w7.heap.size by omega) hb8
                have hB8 : Below b6 w6 wc := below_call hB5 (Nat.le_of_lt z8) hb8
                have zc : b6 < wc.heap.size := Nat.lt_of_lt_of_le z8 hb8.size
                have n86 : b8 ≠ b6 := by omega
                clear g0 v0 g1 v1 g2 v2 g3 v3 g4 v4 g5 v5 g6 v6 hT5 hB5 hBr5 hrd5 hb8
                cases hn17 : n17 p f.p && (hasSch (ss.map plS) f.p.sch && decide (f.p.ms.length ≤ 8)) with
                | false =>
                  have HF : Hid (R = false) := hide (by rw [HR.out]; exact right_n HLM.out (by rw [HNO.out, nOk_split, HN15.out, r25_bad hn17]; rfl))
                  clear hn17
                  go_wp2_with fail
                  go_ret
                  exact ⟨by rw [HF.out]; rfl, by rw [HB1.out]; exact hBr8⟩
                | true =>
                  have hn := hn17
                  simp only [Bool.and_eq_true, decide_eq_true_eq] at hn
                  have h8 : f.p.ms.length ≤ 8 := hn.2.2
                  have HNN := hide (And.intro hn.1 hn.2.1)
                  clear hn17 hn
                  have HXY := hide (And.intro X8 Y8)
                  have l6 := Y8.cell 6 _ rfl
                  clear X8
                  go_wp2_with fail
                  go_loopw [10] (fun iv wr => ∃ q : Nat, iv = .int .i64 (q : Int) ∧ q ≤ f.p.ms.length ∧ Hid (∀ i, i < q → pathOk (f.p.ms.getD i default) = true ∧ ∀ j, j < i → ((f.p.ms.getD j default).toList == (f.p.ms.getD i default).toList) = false) ∧ Below wc.heap.size wc wr) (fun iv _ => f.p.ms.length - (intOf iv).toNat)
                  case atStart => exact ⟨0, rfl, Nat.zero_le _, hide (fun j h => by omega), Below.refl _ _⟩
                  case round =>
                    obtain ⟨q, rfl, hq, hnm, hbq⟩ := hrel
                    have zyc := Y8.z
                    have m6 := (hbq.cell (p := ⟨b8, 6, none⟩) zyc).trans l6
                    have hBq : Below b1 w wr := below_call hBr8 (show b1 ≤ wc.heap.size by omega) hbq
                    clear l6
                    by_cases hltq : q < f.p.ms.length
                    · have hrq := (hrd8.below hbq).more hbq.size
                      obtain ⟨d1, o1, hA1, hd1, p0⟩ := hrq.st hltq
                      have hsz := HFM.out _ (getD_mem hltq)
                      rw [hA1] at m6
                      obtain ⟨x, hx⟩ : ∃ x, x = f.p.ms.getD q default := ⟨_, rfl⟩
                      rw [← hx] at p0 hsz
                      have HX := hide hx
                      clear hx
                      go_wp2_with fail
                      refine (refNamed12 wr x hsz).mono ?_
                      rintro e w9 ⟨rfl, rfl⟩
                      cases hpx : pathOk x with
                      | false =>
                        have HF : Hid (R = false) := hide (by rw [HR.out]; exact right_n HLM.out (by rw [HNO.out, nOk_split, names_bad1 hltq (by rw [← HX.out]; exact hpx)]; simp))
                        clear hpx
                        go_wp2_with fail
                        go_ret
                        exact ⟨by rw [HF.out]; rfl, by rw [HB1.out]; exact hBq⟩
                      | true =>
                        have HPX := hide hpx
                        have HRQ := hide hrq
                        have HA1 := hide hA1
                        clear hpx hrq hA1
                        go_wp2_with fail
                        have zq : b1 ≤ wr.heap.size := by have := hbq.size; omega
                        have zyq : b8 < wr.heap.size := Nat.lt_of_lt_of_le zyc hbq.size
                        have hqc : q ≤ 9223372036854775807 := by omega
                        go_loopw [11] (fun iv wr2 => ∃ j : Nat, iv = .int .i64 (j : Int) ∧ j ≤ q ∧ Hid (∀ i, i < j → ((f.p.ms.getD i default).toList == x.toList) = false) ∧ Below wr.heap.size wr wr2) (fun iv _ => q - (intOf iv).toNat)
                        case atStart => exact ⟨0, rfl, Nat.zero_le _, hide (fun j h => by omega), Below.refl _ _⟩
                        case round =>
                          obtain ⟨j, rfl, hj, hne, hb2⟩ := hrel
                          have m7 := (hb2.cell (p := ⟨b8, 6, none⟩) zyq).trans m6
                          have hB2 : Below b1 w wr := below_call hBq zq hb2
                          clear m6
                          by_cases hltj : j < q
                          · obtain ⟨d2, o2, hA2, _, r0⟩ := (HRQ.out.below hb2).st (k := j) (by omega)
                            obtain ⟨rfl, rfl⟩ : d1 = d2 ∧ o1 = o2 := by rw [HA1.out] at hA2; injection hA2 with ee; injection ee with e1 e2; exact ⟨e1, e2⟩
                            have p7 := (hb2.cell (p := ⟨d1, o1 + q, none⟩) hd1).trans p0
                            obtain ⟨x2, hx2⟩ : ∃ x2, x2 = f.p.ms.getD j default := ⟨_, rfl⟩
                            rw [← hx2] at r0
                            have HX2 := hide hx2
                            clear hx2 hA2 p0
                            cases he : x2.toList == x.toList with
                            | true =>
                              have HF : Hid (R = false) := hide (by rw [HR.out]; exact right_n HLM.out (by rw [HNO.out, nOk_split, names_bad2 hltq hltj (by rw [← HX.out, ← HX2.out]; exact he)]; simp))
                              go_wp2_with fail
                              go_quiet (fail)
                              go_wp2_with fail
                              go_ret
                              exact ⟨by rw [HF.out]; rfl, by rw [HB1.out]; exact below_dN hB2 _⟩
                            | false =>
                              have HE := hide he
                              go_wp2_with fail
                              go_quiet (fail)
                              go_wp2_with fail
                              go_roundw
                              case rel =>
                                refine ⟨j + 1, by go_num, hltj, hide (fun i hi => ?_), below_dN hb2 _⟩
                                by_cases e : i = j
                                · rw [e, ← HX2.out]; exact HE.out
                                · exact hne.out i (by omega)
                              case measure => simp [intOf]; omega
                          · clear p0
                            go_wp2_with fail
                            go_roundw
                            case rel =>
                              refine ⟨q + 1, by go_num, hltq, hide (fun i hi => ?_), below_call hbq hbq.size hb2⟩
                              by_cases e : i = q
                              · rw [e, ← HX.out]; exact ⟨HPX.out, fun i hi => hne.out i (by omega)⟩
                              · exact hnm.out i (by omega)
                            case measure => simp [intOf]; omega
                    · have HOK : Hid (nOk (ss.map plS) (ns.map plN) m = true) := hide (by rw [HNO.out, nOk_split, HN15.out, HNN.out.1, HNN.out.2, names_good h8 (fun i hi => hnm.out i (by omega))]; rfl)
                      have XA := HXY.out.1.keep hbq HXY.out.1.z
                      have YA := HXY.out.2.keep hbq HXY.out.2.z
                      have hBA : Below b6 w6 wr := below_call hB8 (Nat.le_of_lt zc) hbq
                      have g0 := YA.cell 0 _ rfl
                      have v0 := XA.cell 0 _ rfl
                      have k0 := XA.free 0 (by simp)
                      have g1 := YA.cell 1 _ rfl
                      have v1 := XA.cell 1 _ rfl
                      have k1 := XA.free 1 (by simp)
                      have g2 := YA.cell 2 _ rfl
                      have v2 := XA.cell 2 _ rfl
                      have k2 := XA.free 2 (by simp)
                      have g3 := YA.cell 3 _ rfl
                      have v3 := XA.cell 3 _ rfl
                      have k3 := XA.free 3 (by simp)
                      have g4 := YA.cell 4 _ rfl
                      have v4 := XA.cell 4 _ rfl
                      have k4 := XA.free 4 (by simp)
                      have g5 := YA.cell 5 _ rfl
                      have v5 := XA.cell 5 _ rfl
                      have k5 := XA.free 5 (by simp)
                      have g6 := YA.cell 6 _ rfl
                      have v6 := XA.cell 6 _ rfl
                      have k6 := XA.free 6 (by simp)
                      have HXA := hide XA
                      clear m6 XA YA
                      go_wp2_with fail
                      go_roundw
                      case rel =>
                        refine ⟨m + 1, f.p, f.A, f.c, by go_num, by omega, HXA.out.set7, hide (by rw [wasN_succ, HGE.out]; rfl), hide (fun j hj => ?_), below_set7 hBA (Nat.le_refl _)⟩
                        by_cases e : j = m
                        · rw [e]; exact HOK.out
                        · exact hall.out j (by omega)
                      case measure => simp [intOf]; omega
        · have HF : Hid (R = decide (cur = p.id.toNat)) := hide (by
            rw [HR.out, right_all (by simp only [List.length_map]; exact HL.out) hallS.out (fun j hj => hall.out j (by rw [List.length_map] at hj; omega))]
            rw [List.length_map, show ns.length = m by omega, hwas.out])
          have v0 := X.cell 0 _ rfl
          obtain ⟨eqb, heqb⟩ : ∃ eqb, eqb = decide (cur = p.id.toNat) := ⟨_, rfl⟩
          have hq : ((cur : Int) == (p.id.toNat : Int)) = eqb := by rw [heqb, Bool.eq_iff_iff]; simp; omega
          have HE := hide heqb
          clear heqb
          go_wp2_with fail
          go_ret
          exact ⟨by rw [HF.out, ← HE.out]; first | rfl | (rw [hq]; rfl), by rw [HB1.out]; exact hBr⟩
end

section
open Go.RowKit

theorem TabR.nil (w : World) (B : Nat) : TabR w B none 0 [] none 0 [] := ⟨Rd.nil _ _ _, by simp, Rd.nil _ _ _, by simp⟩
end

section
open Go.RowKit

def LitX (f : Nl) (v : Value) (w : World) : Prop := ∃ L, v = .slice L 1 1 ∧ Rd w w.heap.size 7 L 1 1 (nlV f)
theorem litX_new (w : World) (f : Nl) : (Slot.has (LitX f)).holds (.slice (some ⟨w.heap.size, 0, none⟩) 1 1) (w.alloc (.cells #[.int .u64 (f.p.id.toNat : Int), .int .u64 (f.p.par.toNat : Int), .int .u64 (f.p.seq.toNat : Int), .int .u64 (f.p.off.toNat : Int), .int .u64 (f.p.tim.toNat : Int), .int .u32 (f.p.sch.toNat : Int), .slice f.A f.p.ms.length f.c] 30)) := by
  refine ⟨_, rfl, ?_⟩
  have := Rd.lit w 30 #[.int .u64 (f.p.id.toNat : Int), .int .u64 (f.p.par.toNat : Int), .int .u64 (f.p.seq.toNat : Int), .int .u64 (f.p.off.toNat : Int), .int .u64 (f.p.tim.toNat : Int), .int .u32 (f.p.sch.toNat : Int), .slice f.A f.p.ms.length f.c] (n := 1) (sz := 7) rfl (by decide)
  exact this.more (by simp)
end

section
theorem getD_at {α : Type} (l : List α) (d : α) {i : Nat} (h : i < l.length) : l.getD i d = l[i] := by
  rw [List.getD, List.getElem?_eq_getElem h]
  rfl
def RN (a b : Sn) : Prop := a.id.toNat < b.id.toNat ∧ a.seq.toNat ≤ b.seq.toNat ∧ a.off.toNat ≤ b.off.toNat ∧ a.tim.toNat ≤ b.tim.toNat ∧ a.sch.toNat ≤ b.sch.toNat
theorem RN.trans {a b c : Sn} (h : RN a b) (k : RN b c) : RN a c := by
  unfold RN at *
  omega
end
end Go.Proofs.YtlccpchlclpnaaaDoor
