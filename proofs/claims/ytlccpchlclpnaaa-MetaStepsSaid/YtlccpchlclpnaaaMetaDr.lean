/- THE WALK of meta's Drop, where it refuses. No statement of the seat is proved here; no condition but the table's size. -/
import Derived.Test.YtlccpchlclpnaaaMetaU
import Derived.Test.YtlccpchlclpnaaaMetaL
namespace Go.Proofs.Ytlccpchlclpnaaa
open Go.RowKit

def hasId (ns : List Sn) (id : UInt64) : Bool := ns.any fun s => (s.id.toNat : Int) == (id.toNat : Int)
def isIn (ids : List UInt64) (x : UInt64) : Bool := ids.any fun y => (x.toNat : Int) == (y.toNat : Int)
def dropErr (ns : List Sn) (cur : UInt64) (ids : List UInt64) : Nat := if ids.all (hasId ns) = true then (if isIn ids cur = true then 1 else 0) else 2
theorem hasId_ix (ns : List Nl) (id : UInt64) : decide ((0 : Int) ≤ sIx ns id) = hasId (ns.map plN) id := by
  unfold sIx hasId
  rw [ixA_ge, List.any_map]
  rfl
theorem drop_none {ns : List Sn} {cur : UInt64} {ids : List UInt64} {k : Nat} (hk : k < ids.length) (h : hasId ns (ids.getD k default) = false) : dropErr ns cur ids = 2 := by
  unfold dropErr
  rw [if_neg]
  intro q
  have := List.all_eq_true.1 q (ids.getD k default) (by simp [List.getD, hk])
  rw [h] at this
  cases this
theorem drop_all {ns : List Sn} {ids : List UInt64} (h : ∀ j, j < ids.length → hasId ns (ids.getD j default) = true) : ids.all (hasId ns) = true := by
  refine List.all_eq_true.2 fun x hx => ?_
  obtain ⟨j, hj, rfl⟩ := List.mem_iff_getElem.1 hx
  have := h j hj
  simpa [List.getD, hj] using this
set_option maxRecDepth 100000 in
set_option maxHeartbeats 4000000 in
theorem metaDropBad (w : World) (sA : Option Addr) (sc : Nat) (ss : List Sl) (nA : Option Addr) (nc : Nat) (ns : List Nl) (cur : UInt64) (hT : TabR w w.heap.size sA sc ss nA nc ns) (h3 : ns.length ≤ 1000000) (h4 : ∀ s ∈ ns, s.p.ms.length ≤ 1000000)
    (ids : List UInt64) (iA : Option Addr) (ic : Nat) (hri : Rd w w.heap.size 1 iA ids.length ic (u64sV ids)) (hi : ids.length ≤ 1000000) (hbad : dropErr (ns.map plN) cur ids ≠ 0) :
    Calls Try.prog 46 #[.agg #[.slice sA ss.length sc, .slice nA ns.length nc, .int .u64 (cur.toNat : Int)], .slice iA ids.length ic] w (StepEnd w (dropErr (ns.map plN) cur ids) [] [] 0) := by
  obtain ⟨P', hP'⟩ : ∃ P', P' = StepEnd w (dropErr (ns.map plN) cur ids) [] [] 0 := ⟨_, rfl⟩
  rw [← hP']
  have HP := hide hP'
  have HBAD := hide hbad
  clear hP' hbad
  go_enter Try.func46, Try.ntmps46
  go_wp2_with fail
  have hb1 := (Below.refl w.heap.size w).alloc (Nat.le_refl _) (.cells #[.slice sA ss.length sc, .slice nA ns.length nc, .int .u64 (cur.toNat : Int)] 70)
  have x1 := boxN_new w #[.slice sA ss.length sc, .slice nA ns.length nc, .int .u64 (cur.toNat : Int)] 70
  have hz1 : (w.alloc (.cells #[.slice sA ss.length sc, .slice nA ns.length nc, .int .u64 (cur.toNat : Int)] 70)).heap.size = w.heap.size + 1 := by simp
  generalize w.alloc (.cells #[.slice sA ss.length sc, .slice nA ns.length nc, .int .u64 (cur.toNat : Int)] 70) = w1 at *
  have x2 := boxN_new w1 #[.slice iA ids.length ic] 83
  have hb2 := (Below.refl w1.heap.size w1).alloc (Nat.le_refl _) (.cells #[.slice iA ids.length ic] 83)
  have hz2 : (w1.alloc (.cells #[.slice iA ids.length ic] 83)).heap.size = w1.heap.size + 1 := by simp
  have x1b := x1.keep hb2 x1.z
  have hB2 := below_call hb1 hb1.size hb2
  generalize w1.alloc (.cells #[.slice iA ids.length ic] 83) = w2 at *
  have x3 := boxN_new w2 #[.slice none 0 0, .slice none 0 0, .int .u64 0] 70
  have hb3 := (Below.refl w2.heap.size w2).alloc (Nat.le_refl _) (.cells #[.slice none 0 0, .slice none 0 0, .int .u64 0] 70)
  have x1c := x1b.keep hb3 x1b.z
  have x2c := x2.keep hb3 x2.z
  have hB3 := below_call hB2 hB2.size hb3
  generalize w2.alloc (.cells #[.slice none 0 0, .slice none 0 0, .int .u64 0] 70) = w3 at *
  have hT3 := hT.later hB3
  have hri3 := (hri.below hB3).more hB3.size
  rw [← hz1, ← hz2]
  have z12 : w.heap.size < w1.heap.size := by omega
  have z23 : w1.heap.size < w2.heap.size := by omega
  have z34 : w2.heap.size < w3.heap.size := x3.z
  generalize hb1e : w.heap.size = b1 at *
  generalize w1.heap.size = b2 at *
  generalize w2.heap.size = b3 at *
  have H1 := hide hb1e
  have c0 := x1c.cell 0 _ rfl
  have c1 := x1c.cell 1 _ rfl
  have c2 := x1c.cell 2 _ rfl
  have c3 := x2c.cell 0 _ rfl
  clear hz1 hz2 hb1 hb2 hb3 x1 x1b x2 hB2 hT hri hb1e
  have zb1 : b1 < w3.heap.size := by omega
  go_loopw [13] (fun iv wr => ∃ k : Nat, k ≤ ids.length ∧ iv = .int .i64 (k : Int) ∧ Hid (∀ j, j < k → hasId (ns.map plN) (ids.getD j default) = true) ∧ Below w3.heap.size w3 wr) (fun iv _ => ids.length - (intOf iv).toNat)
  case atStart => exact ⟨0, Nat.zero_le _, rfl, hide (fun j h => by omega), Below.refl _ _⟩
  case round =>
    clear c0 c1 c2 c3
    obtain ⟨k, hk, rfl, hf, hbr⟩ := hrel
    have X1 := x1c.keep hbr x1c.z
    have X2 := x2c.keep hbr x2c.z
    have X3 := x3.keep hbr x3.z
    have c0 := X1.cell 0 _ rfl
    have c1 := X1.cell 1 _ rfl
    have c2 := X1.cell 2 _ rfl
    have c3 := X2.cell 0 _ rfl
    have hTr := hT3.later hbr
    have hrr := (hri3.below hbr).more hbr.size
    have hzr := hbr.size
    have HX3 := hide X3
    have HBr := hide hbr
    clear X1 X2 X3 hbr
    by_cases hlt : k < ids.length
    · obtain ⟨bi, off, rfl, hbi, fi⟩ := hrr.u64 hlt
      generalize hd : ids.getD k default = id at *
      have HD := hide hd
      clear hd hrr
      go_wp2_with fail
      refine (metaSnap wr sA sc ss nA nc ns cur.toNat hTr h3 h4 id).mono ?_
      rintro e w4 ⟨A4, c4, rfl, hown4, hb4⟩
      have hd := hasId_ix ns id
      generalize decide ((0 : Int) ≤ sIx ns id) = db at hd ⊢
      generalize snAt ns (sIx ns id) = q at *
      have HX4 := hide (HX3.out.keep hb4 (Nat.lt_of_lt_of_le x3.z hzr))
      have hB4 := below_call HBr.out HBr.out.size hb4
      clear hown4 hTr c0 c1 c2 c3 fi
      have hbA := (Below.refl w4.heap.size w4).alloc (Nat.le_refl _) (.cells #[.int .u64 (q.id.toNat : Int), .int .u64 (q.par.toNat : Int), .int .u64 (q.seq.toNat : Int), .int .u64 (q.off.toNat : Int), .int .u64 (q.tim.toNat : Int), .int .u32 (q.sch.toNat : Int), .slice A4 q.ms.length c4] 73)
      have z4 : b3 < w4.heap.size := HX4.out.z
      have hB5 := hide (hB4.alloc hB4.size (.cells #[.int .u64 (q.id.toNat : Int), .int .u64 (q.par.toNat : Int), .int .u64 (q.seq.toNat : Int), .int .u64 (q.off.toNat : Int), .int .u64 (q.tim.toNat : Int), .int .u32 (q.sch.toNat : Int), .slice A4 q.ms.length c4] 73))
      have q3 : w3.heap.size ≤ w4.heap.size := hB4.size
      have HDB := hide hd
      have HB4 := hide hB4
      clear hd hB4 hbA hb4
      cases db with
      | false =>
        have HE := hide (drop_none (cur := cur) hlt (by rw [HD.out]; exact HDB.out.symm))
        have z5 : b3 ≠ w4.heap.size := by omega
        have e0 := HX4.out.cell 0 _ rfl
        have e1 := HX4.out.cell 1 _ rfl
        have e2 := HX4.out.cell 2 _ rfl
        have f0 := HX4.out.free 0 (by simp)
        have f1 := HX4.out.free 1 (by simp)
        have f2 := HX4.out.free 2 (by simp)
        go_wp2_with fail
        (try simp only [Exit.inBlock, Exit.then])
        refine bodyPost_ret (ret_tb2 (b := b3) rfl _ _ rfl (HX4.out.set3b.keep ((Below.refl _ _).alloc (Nat.le_refl _) _) HX4.out.set3b.z)) rfl ?_
        rw [HP.out, HE.out]
        refine step_bad w _ 2 ?_
        rw [H1.out]
        have hz : b1 ≤ w4.heap.size := by omega
        have hq := below_set3b (b := b3) (v0 := .slice none 0 0) (v1 := .slice none 0 0) (v2 := .int .u64 0) (hB3.trans (HB4.out.mono (show b1 ≤ w3.heap.size by omega))) (show b1 ≤ b3 by omega)
        exact hq.alloc (by rw [show (set3b w4 b3 (.slice none 0 0) (.slice none 0 0) (.int .u64 0)).heap.size = w4.heap.size by simp [set3b]]; exact hz) _
      | true =>
        go_wp2_with fail
        go_roundw
        case rel =>
          refine ⟨k + 1, by omega, by go_num, hide (fun j hj => ?_), hB5.out⟩
          by_cases e : j = k
          · rw [e, HD.out]; exact HDB.out.symm
          · exact hf.out j (by omega)
        case measure => simp [intOf]; omega
    · have hall : ids.all (hasId (ns.map plN)) = true := drop_all (fun j hj => hf.out j (by omega))
      have HK : Hid (isIn ids cur = true ∧ dropErr (ns.map plN) cur ids = 1) := hide (by
        have h0 := HBAD.out
        unfold dropErr at h0 ⊢
        rw [if_pos hall] at h0 ⊢
        cases hi : isIn ids cur with
        | true => exact ⟨rfl, rfl⟩
        | false => rw [hi] at h0; exact absurd rfl h0)
      have f0 := HX3.out.free 0 (by simp)
      have f1 := HX3.out.free 1 (by simp)
      have f2 := HX3.out.free 2 (by simp)
      have e0 := HX3.out.cell 0 _ rfl
      have e1 := HX3.out.cell 1 _ rfl
      have e2 := HX3.out.cell 2 _ rfl
      clear hall hf
      go_wp2_with fail
      refine (containsU wr _ _ _ iA ids hrr hi cur).mono ?_
      have HI := HK.out.1
      unfold isIn at HI
      rw [HI]
      clear HI
      rintro e w4 ⟨rfl, rfl⟩
      go_wp2_with fail
      (try simp only [Exit.inBlock, Exit.then])
      refine bodyPost_ret (ret_tb2 (b := b3) rfl _ _ rfl HX3.out.set3b) rfl ?_
      rw [HP.out, HK.out.2]
      refine step_bad w _ 1 ?_
      rw [H1.out]
      exact below_set3b (hB3.trans (HBr.out.mono (by omega))) (by omega)
end Go.Proofs.Ytlccpchlclpnaaa
