/- MetaFinds: for every input the law returns true, and what was there is as it was. No condition. -/
import Derived.Test.YtlccpchlclpnaaaRows
import Derived.Test.YtlccpchlclpnaaaFrame
import Derived.Test.YtlccpchlclpnaaaFrameM
import Derived.Test.YtlccpchlclpnaaaMetaB
namespace Go.Proofs.Ytlccpchlclpnaaa.metaFinds
open Go.Proofs.Ytlccpchlclpnaaa
open Go.ChangeShapes Go.WideShapes Go.ChangeAt Go.RowKit
open Go.ChangeMaps (open_string shut_string)

theorem own : ownKnob Try.prog.godebug = none := by kernel_rfl
theorem laidOut : laidOutB Try.prog = true := by kernel_rfl

set_option maxRecDepth 100000 in
set_option maxHeartbeats 8000000 in
theorem walk (w : World) (sA : Option Addr) (sc : Nat) (ss : List Sl) (nA : Option Addr) (nc : Nat) (ns : List Nl) (cur : UInt64) (hT : TabR w w.heap.size sA sc ss nA nc ns) (id : Int) (id0 : 0 ≤ id) (id1 : id ≤ 18446744073709551615) (sh : Int) (sh0 : 0 ≤ sh) (sh1 : sh ≤ 4294967295) :
    Calls Try.prog 9 #[.agg #[.slice sA ss.length sc, .slice nA ns.length nc, .int .u64 (cur.toNat : Int)], .int .u64 id, .int .u32 sh] w (RetVal w (.bool true)) := by
  obtain ⟨x, rfl⟩ : ∃ x : UInt64, id = (x.toNat : Int) := ⟨UInt64.ofNat id.toNat, by rw [ofNat64 (by omega)]; omega⟩
  obtain ⟨y, rfl⟩ : ∃ y : UInt32, sh = (y.toNat : Int) := ⟨UInt32.ofNat sh.toNat, by rw [ofNat32 (by omega)]; omega⟩
  clear id0 id1 sh0 sh1
  go_enter Try.func9, Try.ntmps9
  go_wp2_with fail
  have X1 := boxN_new w #[.slice sA ss.length sc, .slice nA ns.length nc, .int .u64 (cur.toNat : Int)] 70
  have hb1 := (Below.refl w.heap.size w).alloc (Nat.le_refl _) (.cells #[.slice sA ss.length sc, .slice nA ns.length nc, .int .u64 (cur.toNat : Int)] 70)
  generalize w.alloc (.cells #[.slice sA ss.length sc, .slice nA ns.length nc, .int .u64 (cur.toNat : Int)] 70) = w1 at *
  have hT1 := hT.later hb1
  obtain ⟨bx, hbx⟩ : ∃ b, b = w.heap.size := ⟨_, rfl⟩
  rw [← hbx] at X1 ⊢
  have HBX := hide hbx
  clear hT hbx
  refine (alive14 w1).mono ?_
  rintro e w2 ⟨rfl, hb2⟩
  have X2 := X1.keep hb2 X1.z
  have hT2 := hT1.later hb2
  have hB2 := below_call hb1 hb1.size hb2
  have c0 := X2.cell 0 _ rfl
  have c1 := X2.cell 1 _ rfl
  have c2 := X2.cell 2 _ rfl
  clear X1 hT1 hb1 hb2
  go_wp2_with fail
  refine (refGreat14 w2 sA sc ss nA nc ns cur.toNat hT2).mono ?_
  rintro e w3 ⟨g, rfl, hsm, hb3⟩
  have X3 := X2.keep hb3 X2.z
  have hT3 := hT2.later hb3
  have hB3 := below_call hB2 hB2.size hb3
  clear X2 hT2 hB2 hb3 c0 c1 c2
  cases g with
  | true =>
    go_wp2_with fail
    go_ret
    exact ⟨rfl, hB3⟩
  | false =>
    have hS := hsm rfl
    have hs1 : ss.length ≤ 1000000 := by have := hS.1; omega
    have hs2 : ∀ s ∈ ss, s.fs.length ≤ 1000000 := fun s hs => by
      obtain ⟨j, hj, rfl⟩ := List.mem_iff_getElem.1 hs
      have h := (hS.2.2.1 j hj).1
      rw [show ss.getD j default = ss[j] by simp [List.getD, hj]] at h
      omega
    have hn1 : ns.length ≤ 1000000 := by have := hS.2.1; omega
    have hn2 : ∀ s ∈ ns, s.p.ms.length ≤ 1000000 := fun s hs => by
      obtain ⟨j, hj, rfl⟩ := List.mem_iff_getElem.1 hs
      have h := (hS.2.2.2 j hj).1
      rw [show ns.getD j default = ns[j] by simp [List.getD, hj]] at h
      omega
    clear hsm hS
    have c0 := X3.cell 0 _ rfl
    have c1 := X3.cell 1 _ rfl
    have c2 := X3.cell 2 _ rfl
    go_wp2_with fail
    refine (metaNow w3 sA sc ss nA nc ns cur hT3 hn1 hn2).mono ?_
    rintro e w4 ⟨A4, c4, rfl, hown4, hb4⟩
    have hp1 := snPick_now ns cur
    obtain ⟨i1, hi1⟩ : ∃ i, i = nowIx ns cur := ⟨_, rfl⟩
    rw [← hi1] at hp1 hown4 ⊢
    have HI1 := hide hi1
    generalize decide (0 ≤ i1) = b1 at *
    generalize snAt ns i1 = q1 at *
    have HP1 := hide hp1
    clear hi1 hp1
    have X4 := X3.keep hb4 X3.z
    have hT4 := hT3.later hb4
    have hB4 := below_call hB3 hB3.size hb4
    have r4 := rd_own hown4
    have Y4 := boxN_new w4 #[.int .u64 (q1.id.toNat : Int), .int .u64 (q1.par.toNat : Int), .int .u64 (q1.seq.toNat : Int), .int .u64 (q1.off.toNat : Int), .int .u64 (q1.tim.toNat : Int), .int .u32 (q1.sch.toNat : Int), .slice A4 q1.ms.length c4] 73
    have hbA := (Below.refl w4.heap.size w4).alloc (Nat.le_refl _) (.cells #[.int .u64 (q1.id.toNat : Int), .int .u64 (q1.par.toNat : Int), .int .u64 (q1.seq.toNat : Int), .int .u64 (q1.off.toNat : Int), .int .u64 (q1.tim.toNat : Int), .int .u32 (q1.sch.toNat : Int), .slice A4 q1.ms.length c4] 73)
    have X5 := X4.keep hbA X4.z
    have hT5 := hT4.later hbA
    have hB5 := below_call hB4 hB4.size hbA
    have r5 := (r4.below hbA).more hbA.size
    clear c0 c1 c2 hown4 X3 hT3 hB3 X4 hT4 hB4 r4 hb4 hbA
    have c0 := X5.cell 0 _ rfl
    have c1 := X5.cell 1 _ rfl
    have c2 := X5.cell 2 _ rfl
    go_wp2_with fail
    generalize w4.alloc (.cells #[.int .u64 (q1.id.toNat : Int), .int .u64 (q1.par.toNat : Int), .int .u64 (q1.seq.toNat : Int), .int .u64 (q1.off.toNat : Int), .int .u64 (q1.tim.toNat : Int), .int .u32 (q1.sch.toNat : Int), .slice A4 q1.ms.length c4] 73) = w5 at *
    generalize w4.heap.size = b7 at *
    refine (metaSnap w5 sA sc ss nA nc ns cur.toNat hT5 hn1 hn2 x).mono ?_
    rintro e w6 ⟨A6, c6, rfl, hown6, hb6⟩
    have hp2 := snPick_six ns x
    obtain ⟨i2, hi2⟩ : ∃ i, i = sIx ns x := ⟨_, rfl⟩
    rw [← hi2] at hp2 hown6 ⊢
    have HI2 := hide hi2
    generalize decide (0 ≤ i2) = b2 at *
    generalize snAt ns i2 = q2 at *
    have HP2 := hide hp2
    clear hi2 hp2
    have X6 := X5.keep hb6 X5.z
    have Y6 := Y4.keep hb6 Y4.z
    have hT6 := hT5.later hb6
    have hB6 := below_call hB5 hB5.size hb6
    have r6 := (r5.below hb6).more hb6.size
    have s6 := rd_own hown6
    have Z6 := boxN_new w6 #[.int .u64 (q2.id.toNat : Int), .int .u64 (q2.par.toNat : Int), .int .u64 (q2.seq.toNat : Int), .int .u64 (q2.off.toNat : Int), .int .u64 (q2.tim.toNat : Int), .int .u32 (q2.sch.toNat : Int), .slice A6 q2.ms.length c6] 73
    have hbA := (Below.refl w6.heap.size w6).alloc (Nat.le_refl _) (.cells #[.int .u64 (q2.id.toNat : Int), .int .u64 (q2.par.toNat : Int), .int .u64 (q2.seq.toNat : Int), .int .u64 (q2.off.toNat : Int), .int .u64 (q2.tim.toNat : Int), .int .u32 (q2.sch.toNat : Int), .slice A6 q2.ms.length c6] 73)
    have X7 := X6.keep hbA X6.z
    have Y7 := Y6.keep hbA Y6.z
    have hT7 := hT6.later hbA
    have hB7 := below_call hB6 hB6.size hbA
    have r7 := (r6.below hbA).more hbA.size
    have s7 := (s6.below hbA).more hbA.size
    clear c0 c1 c2 hown6 X5 hT5 hB5 X6 Y4 Y6 hT6 hB6 r5 r6 s6 hb6 hbA
    have c0 := X7.cell 0 _ rfl
    have c1 := X7.cell 1 _ rfl
    have c2 := X7.cell 2 _ rfl
    go_wp2_with fail
    generalize w6.alloc (.cells #[.int .u64 (q2.id.toNat : Int), .int .u64 (q2.par.toNat : Int), .int .u64 (q2.seq.toNat : Int), .int .u64 (q2.off.toNat : Int), .int .u64 (q2.tim.toNat : Int), .int .u32 (q2.sch.toNat : Int), .slice A6 q2.ms.length c6] 73) = w7 at *
    generalize w6.heap.size = b9 at *
    refine (metaShape w7 sA sc ss nA nc ns cur.toNat hT7 hs1 hs2 y).mono ?_
    rintro e w8 ⟨F, fc, rfl, hown8, hb8⟩
    have hp3 := shPick_cix ss y
    obtain ⟨i3, hi3⟩ : ∃ i, i = cIx ss y := ⟨_, rfl⟩
    rw [← hi3] at hp3 hown8 ⊢
    have HI3 := hide hi3
    generalize decide (0 ≤ i3) = b3 at *
    generalize slId ss i3 = sid at *
    generalize slFs ss i3 = sfs at *
    have HP3 := hide hp3
    clear hi3 hp3
    have f8 := rd_own hown8
    have U8 := boxN_new w8 #[.int .u32 (sid.toNat : Int), .slice F sfs.length fc] 25
    have hbA := (Below.refl w8.heap.size w8).alloc (Nat.le_refl _) (.cells #[.int .u32 (sid.toNat : Int), .slice F sfs.length fc] 25)
    have B9 : FindB (w8.alloc (.cells #[.int .u32 (sid.toNat : Int), .slice F sfs.length fc] 25)) bx b7 b9 w8.heap.size sA sc ss nA nc ns cur.toNat q1 A4 c4 q2 A6 c6 sid sfs F fc :=
      ⟨(X7.keep hb8 X7.z).keep hbA (X7.keep hb8 X7.z).z, (Y7.keep hb8 Y7.z).keep hbA (Y7.keep hb8 Y7.z).z, (Z6.keep hb8 Z6.z).keep hbA (Z6.keep hb8 Z6.z).z, U8, (hT7.later hb8).later hbA, (((r7.below hb8).more hb8.size).below hbA).more hbA.size, (((s7.below hb8).more hb8.size).below hbA).more hbA.size, (f8.below hbA).more hbA.size⟩
    have hB9 : Below w.heap.size w _ := below_call (below_call hB7 hB7.size hb8) (by have := hB7.size; have := hb8.size; omega) hbA
    clear c0 c1 c2 hown8 X7 hT7 hB7 Y7 Z6 r7 s7 f8 U8 hb8 hbA
    have HF := hide B9
    have HB := hide hB9
    clear B9 hB9
    go_wp2_with fail
    generalize w8.alloc (.cells #[.int .u32 (sid.toNat : Int), .slice F sfs.length fc] 25) = w9 at *
    generalize w8.heap.size = b11 at *
    have c0 := HF.out.X.cell 0 _ rfl
    have c1 := HF.out.X.cell 1 _ rfl
    have c2 := HF.out.X.cell 2 _ rfl
    have zx : bx < w9.drew.heap.size := HF.out.X.z
    have hTd := HF.out.T.drew
    obtain ⟨i1c, hic⟩ : ∃ i, i = sIx ns cur := ⟨_, rfl⟩
    have HC := hide hic
    clear hic
    refine wp_region_abs ext_grow (by kernel_rfl) (by kernel_rfl) ?_
    simp only [List.map_cons, List.map_nil]
    refine wpA_value ext_grow ?_ (fun _ _ h => by cases h) rfl rfl ?_ ?_
    rotate_left 1
    · intro w' hw' C hC
      have q0 := (hw'.cell (p := ⟨bx, 0, none⟩) zx).trans c0
      have q1 := (hw'.cell (p := ⟨bx, 1, none⟩) zx).trans c1
      have q2 := (hw'.cell (p := ⟨bx, 2, none⟩) zx).trans c2
      go_simp
      try go_bits
      exact hC
    simp only [putS, List.set_cons_succ, List.set_cons_zero]
    refine wpA_value ext_grow ?_ (fun _ _ h => by cases h) rfl rfl ?_ ?_
    rotate_left 1
    · intro w' hw' C hC
      go_simp
      try go_bits
      exact hC
    simp only [putS, List.set_cons_succ, List.set_cons_zero]
    refine wpA_value ext_grow ?_ (fun _ _ h => by cases h) rfl rfl ?_ ?_
    rotate_left 1
    · intro w' hw' C hC
      have q2 := (hw'.cell (p := ⟨bx, 2, none⟩) zx).trans c2
      go_simp
      try go_bits
      exact hC
    simp only [putS, List.set_cons_succ, List.set_cons_zero]
    refine wpA_known (.is (.int .i64 i1c)) (fun _ _ h => by cases h) rfl rfl (mono_is _) (fun w' hw' => ?_) ?_
    · go_simp
      exact ⟨Below.refl _ _, (refSnap w' sA sc ss nA nc ns cur.toNat (hTd.later hw') cur).mono fun e w'' h => is_ret (show e = .returned (.int .i64 i1c) from by rw [HC.out]; exact h.1) h.2⟩
    simp only [putS, List.set_cons_succ, List.set_cons_zero]
    refine wpA_value ext_grow ?_ (fun _ _ h => by cases h) rfl rfl ?_ ?_
    rotate_left 1
    · intro w' hw' C hC
      have q0 := (hw'.cell (p := ⟨bx, 0, none⟩) zx).trans c0
      have q1 := (hw'.cell (p := ⟨bx, 1, none⟩) zx).trans c1
      have q2 := (hw'.cell (p := ⟨bx, 2, none⟩) zx).trans c2
      go_simp
      try go_bits
      exact hC
    simp only [putS, List.set_cons_succ, List.set_cons_zero]
    refine wpA_value ext_grow ?_ (fun _ _ h => by cases h) rfl rfl ?_ ?_
    rotate_left 1
    · intro w' hw' C hC
      go_simp
      try go_bits
      exact hC
    simp only [putS, List.set_cons_succ, List.set_cons_zero]
    refine wpA_known (.is (.int .i64 i2)) (fun _ _ h => by cases h) rfl rfl (mono_is _) (fun w' hw' => ?_) ?_
    · go_simp
      exact ⟨Below.refl _ _, (refSnap w' sA sc ss nA nc ns cur.toNat (hTd.later hw') x).mono fun e w'' h => is_ret (show e = .returned (.int .i64 i2) from by rw [HI2.out]; exact h.1) h.2⟩
    simp only [putS, List.set_cons_succ, List.set_cons_zero]
    refine wpA_value ext_grow ?_ (fun _ _ h => by cases h) rfl rfl ?_ ?_
    rotate_left 1
    · intro w' hw' C hC
      have q0 := (hw'.cell (p := ⟨bx, 0, none⟩) zx).trans c0
      have q1 := (hw'.cell (p := ⟨bx, 1, none⟩) zx).trans c1
      have q2 := (hw'.cell (p := ⟨bx, 2, none⟩) zx).trans c2
      go_simp
      try go_bits
      exact hC
    simp only [putS, List.set_cons_succ, List.set_cons_zero]
    refine wpA_value ext_grow ?_ (fun _ _ h => by cases h) rfl rfl ?_ ?_
    rotate_left 1
    · intro w' hw' C hC
      go_simp
      try go_bits
      exact hC
    simp only [putS, List.set_cons_succ, List.set_cons_zero]
    refine wpA_known (.is (.int .i64 i3)) (fun _ _ h => by cases h) rfl rfl (mono_is _) (fun w' hw' => ?_) ?_
    · go_simp
      exact ⟨Below.refl _ _, (refShape w' sA sc ss nA nc ns cur.toNat (hTd.later hw') y).mono fun e w'' h => is_ret (show e = .returned (.int .i64 i3) from by rw [HI3.out]; exact h.1) h.2⟩
    simp only [putS, List.set_cons_succ, List.set_cons_zero]
    refine wpA_value ext_grow ?_ (fun _ _ h => by cases h) rfl rfl ?_ ?_
    rotate_left 1
    · intro w' hw' C hC
      go_simp
      try go_bits
      exact hC
    simp only [putS, List.set_cons_succ, List.set_cons_zero]
    refine wpA_value ext_grow ?_ (fun _ _ h => by cases h) rfl rfl ?_ ?_
    rotate_left 1
    · intro w' hw' C hC
      go_simp
      try go_bits
      exact hC
    simp only [putS, List.set_cons_succ, List.set_cons_zero]
    refine wpA_value ext_grow ?_ (fun _ _ h => by cases h) rfl rfl ?_ ?_
    rotate_left 1
    · intro w' hw' C hC
      go_simp
      try go_bits
      exact hC
    simp only [putS, List.set_cons_succ, List.set_cons_zero]
    intro wd hwd
    simp only [openS]
    have hbd := below_of_drew hwd
    have HF2 := hide (HF.out.keep hbd)
    have HB2 := hide (below_call HB.out HB.out.size hbd)
    clear HF HB c0 c1 c2 zx hTd hwd hbd
    have c2 := HF2.out.X.cell 2 _ rfl
    go_upto_if 49 with fail
    go_cut [13] from 47 to 50 (fun v wx => v = .int .i64 i1 ∧ wx = wd)
    case first =>
      by_cases h0 : cur.toNat = 0
      · have t1 : ((cur.toNat : Int) == 0) = true := by rw [h0]; rfl
        have hi : i1 = -1 := by rw [HI1.out]; unfold nowIx; rw [if_pos h0]
        have HI := hide hi
        clear h0 hi
        go_wp2_with fail
        go_meet
        case rel => exact ⟨by rw [HI.out], rfl⟩
      · have t1 : ((cur.toNat : Int) == 0) = false := by rw [beq_eq_false_iff_ne]; omega
        have hi : i1c = i1 := by rw [HI1.out, HC.out]; unfold nowIx; rw [if_neg h0]
        have HI := hide hi
        clear h0 hi
        go_wp2_with fail
        go_meet
        case rel => exact ⟨by rw [HI.out], rfl⟩
    case rest =>
      obtain ⟨rfl, rfl⟩ := hcut
      clear c2
      rcases HP1.out with ⟨k1, hk, hb, hk1, hq1⟩ | ⟨hk, hb, hq1⟩
      · subst hk hb
        have HQ1 := hide hq1
        clear hq1
        rcases HP2.out with ⟨k2, hk, hb, hk2, hq2⟩ | ⟨hk, hb, hq2⟩
        · subst hk hb
          have HQ2 := hide hq2
          clear hq2
          rcases HP3.out with ⟨k3, hk, hb, hk3, hq3, hq4⟩ | ⟨hk, hb, hq3, hq4⟩
          · subst hk hb
            have HQ3 := hide hq3
            have HQ4 := hide hq4
            clear hq3 hq4
            obtain ⟨nb, no, rfl, zn, g0, g1, g2, g3, g4, g5, g6⟩ := HF2.out.T.nrow.nl hk1
            have rn1 := HF2.out.T.n_at hk1
            generalize ns.getD k1 default = s1 at *
            obtain ⟨nb', no', ee, zn', m0, m1, m2, m3, m4, m5, m6⟩ := HF2.out.T.nrow.nl hk2
            obtain ⟨rfl, rfl⟩ : nb = nb' ∧ no = no' := by injection ee with ee; injection ee with e1 e2; exact ⟨e1, e2⟩
            clear ee zn'
            have rn2 := HF2.out.T.n_at hk2
            generalize ns.getD k2 default = s2 at *
            obtain ⟨sb, so, rfl, zs, f0, f1⟩ := HF2.out.T.srow.sl hk3
            have rs3 := HF2.out.T.s_at hk3
            generalize ss.getD k3 default = s3 at *
            go_wp2_with fail
            have x0 := HF2.out.X.cell 0 _ rfl
            have x1 := HF2.out.X.cell 1 _ rfl
            have zx := HF2.out.X.z
            have a0 := HF2.out.Y1.cell 0 _ rfl
            have a1 := HF2.out.Y1.cell 1 _ rfl
            have a2 := HF2.out.Y1.cell 2 _ rfl
            have a3 := HF2.out.Y1.cell 3 _ rfl
            have a4 := HF2.out.Y1.cell 4 _ rfl
            have a5 := HF2.out.Y1.cell 5 _ rfl
            have a6 := HF2.out.Y1.cell 6 _ rfl
            have za := HF2.out.Y1.z
            have ra := HF2.out.r1
            have d0 := HF2.out.Y2.cell 0 _ rfl
            have d1 := HF2.out.Y2.cell 1 _ rfl
            have d2 := HF2.out.Y2.cell 2 _ rfl
            have d3 := HF2.out.Y2.cell 3 _ rfl
            have d4 := HF2.out.Y2.cell 4 _ rfl
            have d5 := HF2.out.Y2.cell 5 _ rfl
            have d6 := HF2.out.Y2.cell 6 _ rfl
            have zd := HF2.out.Y2.z
            have rd := HF2.out.r2
            have u0 := HF2.out.Y3.cell 0 _ rfl
            have u1 := HF2.out.Y3.cell 1 _ rfl
            have zu := HF2.out.Y3.z
            have ru := HF2.out.r3
            refine wp_region_abs ext_grow (by kernel_rfl) (by kernel_rfl) ?_
            simp only [List.map_cons, List.map_nil]
            refine wpA_value ext_grow ?_ (fun _ _ h => by cases h) rfl rfl ?_ ?_
            rotate_left 1
            · intro w' hw' C hC
              go_simp
              try go_bits
              exact hC
            simp only [putS, List.set_cons_succ, List.set_cons_zero]
            refine wpA_value ext_grow ?_ (fun _ _ h => by cases h) rfl rfl ?_ ?_
            rotate_left 1
            · intro w' hw' C hC
              go_simp
              try go_bits
              exact hC
            simp only [putS, List.set_cons_succ, List.set_cons_zero]
            refine wpA_value ext_grow ?_ (fun _ _ h => by cases h) rfl rfl ?_ ?_
            rotate_left 1
            · intro w' hw' C hC
              go_simp
              try go_bits
              exact hC
            simp only [putS, List.set_cons_succ, List.set_cons_zero]
            refine wpA_value ext_grow ?_ (fun _ _ h => by cases h) rfl rfl ?_ ?_
            rotate_left 1
            · intro w' hw' C hC
              have v0 := (hw'.cell (p := ⟨b7, 0, none⟩) za).trans a0
              have v1 := (hw'.cell (p := ⟨b7, 1, none⟩) za).trans a1
              have v2 := (hw'.cell (p := ⟨b7, 2, none⟩) za).trans a2
              have v3 := (hw'.cell (p := ⟨b7, 3, none⟩) za).trans a3
              have v4 := (hw'.cell (p := ⟨b7, 4, none⟩) za).trans a4
              have v5 := (hw'.cell (p := ⟨b7, 5, none⟩) za).trans a5
              have v6 := (hw'.cell (p := ⟨b7, 6, none⟩) za).trans a6
              go_simp
              try go_bits
              exact hC
            simp only [putS, List.set_cons_succ, List.set_cons_zero]
            refine wpA_value ext_grow ?_ (fun _ _ h => by cases h) rfl rfl ?_ ?_
            rotate_left 1
            · intro w' hw' C hC
              go_simp
              try go_bits
              exact hC
            simp only [putS, List.set_cons_succ, List.set_cons_zero]
            refine wpA_value ext_grow ?_ (fun _ _ h => by cases h) rfl rfl ?_ ?_
            rotate_left 1
            · intro w' hw' C hC
              have v1 := (hw'.cell (p := ⟨bx, 1, none⟩) zx).trans x1
              go_simp
              try go_bits
              exact hC
            simp only [putS, List.set_cons_succ, List.set_cons_zero]
            refine wpA_value ext_grow ?_ (fun _ _ h => by cases h) rfl rfl ?_ ?_
            rotate_left 1
            · intro w' hw' C hC
              go_simp
              try go_bits
              exact hC
            simp only [putS, List.set_cons_succ, List.set_cons_zero]
            refine wpA_value ext_grow ?_ (fun _ _ h => by cases h) rfl rfl ?_ ?_
            rotate_left 1
            · intro w' hw' C hC
              go_simp
              try go_bits
              exact hC
            simp only [putS, List.set_cons_succ, List.set_cons_zero]
            refine wpA_value ext_grow ?_ (fun _ _ h => by cases h) rfl rfl ?_ ?_
            rotate_left 1
            · intro w' hw' C hC
              have v0 := (hw'.cell (p := ⟨nb, no + k1 * 7, none⟩) zn).trans g0
              have v1 := (hw'.cell (p := ⟨nb, no + k1 * 7 + 1, none⟩) zn).trans g1
              have v2 := (hw'.cell (p := ⟨nb, no + k1 * 7 + 2, none⟩) zn).trans g2
              have v3 := (hw'.cell (p := ⟨nb, no + k1 * 7 + 3, none⟩) zn).trans g3
              have v4 := (hw'.cell (p := ⟨nb, no + k1 * 7 + 4, none⟩) zn).trans g4
              have v5 := (hw'.cell (p := ⟨nb, no + k1 * 7 + 5, none⟩) zn).trans g5
              have v6 := (hw'.cell (p := ⟨nb, no + k1 * 7 + 6, none⟩) zn).trans g6
              go_simp
              try go_bits
              exact hC
            simp only [putS, List.set_cons_succ, List.set_cons_zero]
            refine wpA_known (.is (.bool true)) (fun _ _ h => by cases h) rfl rfl (mono_is _) (fun w' hw' => ?_) ?_
            · go_simp
              exact ⟨Below.refl _ _, (sameSnapT w' q1 A4 s1.A c4 s1.c ((ra.drew.below hw').more hw'.size) s1.p ((rn1.drew.below hw').more hw'.size) HQ1.out).mono fun e w'' h => is_ret (h.1) h.2⟩
            simp only [putS, List.set_cons_succ, List.set_cons_zero]
            refine wpA_value ext_grow ?_ (fun _ _ h => by cases h) rfl rfl ?_ ?_
            rotate_left 1
            · intro w' hw' C hC
              go_simp
              try go_bits
              exact hC
            simp only [putS, List.set_cons_succ, List.set_cons_zero]
            refine wpA_value ext_grow ?_ (fun _ _ h => by cases h) rfl rfl ?_ ?_
            rotate_left 1
            · intro w' hw' C hC
              go_simp
              try go_bits
              exact hC
            simp only [putS, List.set_cons_succ, List.set_cons_zero]
            refine wpA_value ext_grow ?_ (fun _ _ h => by cases h) rfl rfl ?_ ?_
            rotate_left 1
            · intro w' hw' C hC
              go_simp
              try go_bits
              exact hC
            simp only [putS, List.set_cons_succ, List.set_cons_zero]
            refine wpA_value ext_grow ?_ (fun _ _ h => by cases h) rfl rfl ?_ ?_
            rotate_left 1
            · intro w' hw' C hC
              go_simp
              try go_bits
              exact hC
            simp only [putS, List.set_cons_succ, List.set_cons_zero]
            refine wpA_value ext_grow ?_ (fun _ _ h => by cases h) rfl rfl ?_ ?_
            rotate_left 1
            · intro w' hw' C hC
              go_simp
              try go_bits
              exact hC
            simp only [putS, List.set_cons_succ, List.set_cons_zero]
            refine wpA_value ext_grow ?_ (fun _ _ h => by cases h) rfl rfl ?_ ?_
            rotate_left 1
            · intro w' hw' C hC
              have v0 := (hw'.cell (p := ⟨b9, 0, none⟩) zd).trans d0
              have v1 := (hw'.cell (p := ⟨b9, 1, none⟩) zd).trans d1
              have v2 := (hw'.cell (p := ⟨b9, 2, none⟩) zd).trans d2
              have v3 := (hw'.cell (p := ⟨b9, 3, none⟩) zd).trans d3
              have v4 := (hw'.cell (p := ⟨b9, 4, none⟩) zd).trans d4
              have v5 := (hw'.cell (p := ⟨b9, 5, none⟩) zd).trans d5
              have v6 := (hw'.cell (p := ⟨b9, 6, none⟩) zd).trans d6
              go_simp
              try go_bits
              exact hC
            simp only [putS, List.set_cons_succ, List.set_cons_zero]
            refine wpA_value ext_grow ?_ (fun _ _ h => by cases h) rfl rfl ?_ ?_
            rotate_left 1
            · intro w' hw' C hC
              go_simp
              try go_bits
              exact hC
            simp only [putS, List.set_cons_succ, List.set_cons_zero]
            refine wpA_value ext_grow ?_ (fun _ _ h => by cases h) rfl rfl ?_ ?_
            rotate_left 1
            · intro w' hw' C hC
              have v1 := (hw'.cell (p := ⟨bx, 1, none⟩) zx).trans x1
              go_simp
              try go_bits
              exact hC
            simp only [putS, List.set_cons_succ, List.set_cons_zero]
            refine wpA_value ext_grow ?_ (fun _ _ h => by cases h) rfl rfl ?_ ?_
            rotate_left 1
            · intro w' hw' C hC
              go_simp
              try go_bits
              exact hC
            simp only [putS, List.set_cons_succ, List.set_cons_zero]
            refine wpA_value ext_grow ?_ (fun _ _ h => by cases h) rfl rfl ?_ ?_
            rotate_left 1
            · intro w' hw' C hC
              go_simp
              try go_bits
              exact hC
            simp only [putS, List.set_cons_succ, List.set_cons_zero]
            refine wpA_value ext_grow ?_ (fun _ _ h => by cases h) rfl rfl ?_ ?_
            rotate_left 1
            · intro w' hw' C hC
              have v0 := (hw'.cell (p := ⟨nb, no + k2 * 7, none⟩) zn).trans m0
              have v1 := (hw'.cell (p := ⟨nb, no + k2 * 7 + 1, none⟩) zn).trans m1
              have v2 := (hw'.cell (p := ⟨nb, no + k2 * 7 + 2, none⟩) zn).trans m2
              have v3 := (hw'.cell (p := ⟨nb, no + k2 * 7 + 3, none⟩) zn).trans m3
              have v4 := (hw'.cell (p := ⟨nb, no + k2 * 7 + 4, none⟩) zn).trans m4
              have v5 := (hw'.cell (p := ⟨nb, no + k2 * 7 + 5, none⟩) zn).trans m5
              have v6 := (hw'.cell (p := ⟨nb, no + k2 * 7 + 6, none⟩) zn).trans m6
              go_simp
              try go_bits
              exact hC
            simp only [putS, List.set_cons_succ, List.set_cons_zero]
            refine wpA_known (.is (.bool true)) (fun _ _ h => by cases h) rfl rfl (mono_is _) (fun w' hw' => ?_) ?_
            · go_simp
              exact ⟨Below.refl _ _, (sameSnapT w' q2 A6 s2.A c6 s2.c ((rd.drew.below hw').more hw'.size) s2.p ((rn2.drew.below hw').more hw'.size) HQ2.out).mono fun e w'' h => is_ret (h.1) h.2⟩
            simp only [putS, List.set_cons_succ, List.set_cons_zero]
            refine wpA_value ext_grow ?_ (fun _ _ h => by cases h) rfl rfl ?_ ?_
            rotate_left 1
            · intro w' hw' C hC
              go_simp
              try go_bits
              exact hC
            simp only [putS, List.set_cons_succ, List.set_cons_zero]
            refine wpA_value ext_grow ?_ (fun _ _ h => by cases h) rfl rfl ?_ ?_
            rotate_left 1
            · intro w' hw' C hC
              go_simp
              try go_bits
              exact hC
            simp only [putS, List.set_cons_succ, List.set_cons_zero]
            refine wpA_value ext_grow ?_ (fun _ _ h => by cases h) rfl rfl ?_ ?_
            rotate_left 1
            · intro w' hw' C hC
              go_simp
              try go_bits
              exact hC
            simp only [putS, List.set_cons_succ, List.set_cons_zero]
            refine wpA_value ext_grow ?_ (fun _ _ h => by cases h) rfl rfl ?_ ?_
            rotate_left 1
            · intro w' hw' C hC
              go_simp
              try go_bits
              exact hC
            simp only [putS, List.set_cons_succ, List.set_cons_zero]
            refine wpA_value ext_grow ?_ (fun _ _ h => by cases h) rfl rfl ?_ ?_
            rotate_left 1
            · intro w' hw' C hC
              go_simp
              try go_bits
              exact hC
            simp only [putS, List.set_cons_succ, List.set_cons_zero]
            refine wpA_value ext_grow ?_ (fun _ _ h => by cases h) rfl rfl ?_ ?_
            rotate_left 1
            · intro w' hw' C hC
              go_simp
              try go_bits
              exact hC
            simp only [putS, List.set_cons_succ, List.set_cons_zero]
            refine wpA_value ext_grow ?_ (fun _ _ h => by cases h) rfl rfl ?_ ?_
            rotate_left 1
            · intro w' hw' C hC
              have v0 := (hw'.cell (p := ⟨b11, 0, none⟩) zu).trans u0
              have v1 := (hw'.cell (p := ⟨b11, 1, none⟩) zu).trans u1
              go_simp
              try go_bits
              exact hC
            simp only [putS, List.set_cons_succ, List.set_cons_zero]
            refine wpA_value ext_grow ?_ (fun _ _ h => by cases h) rfl rfl ?_ ?_
            rotate_left 1
            · intro w' hw' C hC
              go_simp
              try go_bits
              exact hC
            simp only [putS, List.set_cons_succ, List.set_cons_zero]
            refine wpA_value ext_grow ?_ (fun _ _ h => by cases h) rfl rfl ?_ ?_
            rotate_left 1
            · intro w' hw' C hC
              have v0 := (hw'.cell (p := ⟨bx, 0, none⟩) zx).trans x0
              go_simp
              try go_bits
              exact hC
            simp only [putS, List.set_cons_succ, List.set_cons_zero]
            refine wpA_value ext_grow ?_ (fun _ _ h => by cases h) rfl rfl ?_ ?_
            rotate_left 1
            · intro w' hw' C hC
              go_simp
              try go_bits
              exact hC
            simp only [putS, List.set_cons_succ, List.set_cons_zero]
            refine wpA_value ext_grow ?_ (fun _ _ h => by cases h) rfl rfl ?_ ?_
            rotate_left 1
            · intro w' hw' C hC
              go_simp
              try go_bits
              exact hC
            simp only [putS, List.set_cons_succ, List.set_cons_zero]
            refine wpA_value ext_grow ?_ (fun _ _ h => by cases h) rfl rfl ?_ ?_
            rotate_left 1
            · intro w' hw' C hC
              have v0 := (hw'.cell (p := ⟨sb, so + k3 * 2, none⟩) zs).trans f0
              have v1 := (hw'.cell (p := ⟨sb, so + k3 * 2 + 1, none⟩) zs).trans f1
              go_simp
              try go_bits
              exact hC
            simp only [putS, List.set_cons_succ, List.set_cons_zero]
            refine wpA_known (.is (.bool true)) (fun _ _ h => by cases h) rfl rfl (mono_is _) (fun w' hw' => ?_) ?_
            · go_simp
              exact ⟨Below.refl _ _, (sameSchT w' sid s3.id F s3.A fc s3.c sfs s3.fs ((ru.drew.below hw').more hw'.size) ((rs3.drew.below hw').more hw'.size) HQ3.out HQ4.out).mono fun e w'' h => is_ret (h.1) h.2⟩
            simp only [putS, List.set_cons_succ, List.set_cons_zero]
            refine wpA_value ext_grow ?_ (fun _ _ h => by cases h) rfl rfl ?_ ?_
            rotate_left 1
            · intro w' hw' C hC
              go_simp
              try go_bits
              exact hC
            simp only [putS, List.set_cons_succ, List.set_cons_zero]
            refine wpA_value ext_grow ?_ (fun _ _ h => by cases h) rfl rfl ?_ ?_
            rotate_left 1
            · intro w' hw' C hC
              go_simp
              try go_bits
              exact hC
            simp only [putS, List.set_cons_succ, List.set_cons_zero]
            refine wpA_value ext_grow ?_ (fun _ _ h => by cases h) rfl rfl ?_ ?_
            rotate_left 1
            · intro w' hw' C hC
              go_simp
              try go_bits
              exact hC
            simp only [putS, List.set_cons_succ, List.set_cons_zero]
            intro we hwe
            simp only [openS]
            go_wp2_with fail
            go_ret
            exact ⟨rfl, below_call HB2.out HB2.out.size (below_of_drew hwe)⟩
          · subst hk hb
            have HQ3 := hide hq3
            have HQ4 := hide hq4
            clear hq3 hq4
            have a0 := HF2.out.Y3.cell 0 _ rfl
            have a1 := HF2.out.Y3.cell 1 _ rfl
            go_wp2_with fail
            refine (sameSch0 _ sid F fc sfs HF2.out.r3 HQ3.out HQ4.out).mono ?_
            rintro e wf ⟨rfl, hbf⟩
            have HFc := hide (HF2.out.keep hbf)
            have HBc := hide (below_call HB2.out HB2.out.size hbf)
            clear a0 a1 hbf
            obtain ⟨nb, no, rfl, zn, g0, g1, g2, g3, g4, g5, g6⟩ := HFc.out.T.nrow.nl hk1
            have rn1 := HFc.out.T.n_at hk1
            generalize ns.getD k1 default = s1 at *
            obtain ⟨nb', no', ee, zn', m0, m1, m2, m3, m4, m5, m6⟩ := HFc.out.T.nrow.nl hk2
            obtain ⟨rfl, rfl⟩ : nb = nb' ∧ no = no' := by injection ee with ee; injection ee with e1 e2; exact ⟨e1, e2⟩
            clear ee zn'
            have rn2 := HFc.out.T.n_at hk2
            generalize ns.getD k2 default = s2 at *
            go_wp2_with fail
            have x0 := HFc.out.X.cell 0 _ rfl
            have x1 := HFc.out.X.cell 1 _ rfl
            have zx := HFc.out.X.z
            have a0 := HFc.out.Y1.cell 0 _ rfl
            have a1 := HFc.out.Y1.cell 1 _ rfl
            have a2 := HFc.out.Y1.cell 2 _ rfl
            have a3 := HFc.out.Y1.cell 3 _ rfl
            have a4 := HFc.out.Y1.cell 4 _ rfl
            have a5 := HFc.out.Y1.cell 5 _ rfl
            have a6 := HFc.out.Y1.cell 6 _ rfl
            have za := HFc.out.Y1.z
            have ra := HFc.out.r1
            have d0 := HFc.out.Y2.cell 0 _ rfl
            have d1 := HFc.out.Y2.cell 1 _ rfl
            have d2 := HFc.out.Y2.cell 2 _ rfl
            have d3 := HFc.out.Y2.cell 3 _ rfl
            have d4 := HFc.out.Y2.cell 4 _ rfl
            have d5 := HFc.out.Y2.cell 5 _ rfl
            have d6 := HFc.out.Y2.cell 6 _ rfl
            have zd := HFc.out.Y2.z
            have rd := HFc.out.r2
            refine wp_region_abs ext_grow (by kernel_rfl) (by kernel_rfl) ?_
            simp only [List.map_cons, List.map_nil]
            refine wpA_value ext_grow ?_ (fun _ _ h => by cases h) rfl rfl ?_ ?_
            rotate_left 1
            · intro w' hw' C hC
              go_simp
              try go_bits
              exact hC
            simp only [putS, List.set_cons_succ, List.set_cons_zero]
            refine wpA_value ext_grow ?_ (fun _ _ h => by cases h) rfl rfl ?_ ?_
            rotate_left 1
            · intro w' hw' C hC
              go_simp
              try go_bits
              exact hC
            simp only [putS, List.set_cons_succ, List.set_cons_zero]
            refine wpA_value ext_grow ?_ (fun _ _ h => by cases h) rfl rfl ?_ ?_
            rotate_left 1
            · intro w' hw' C hC
              go_simp
              try go_bits
              exact hC
            simp only [putS, List.set_cons_succ, List.set_cons_zero]
            refine wpA_value ext_grow ?_ (fun _ _ h => by cases h) rfl rfl ?_ ?_
            rotate_left 1
            · intro w' hw' C hC
              have v0 := (hw'.cell (p := ⟨b7, 0, none⟩) za).trans a0
              have v1 := (hw'.cell (p := ⟨b7, 1, none⟩) za).trans a1
              have v2 := (hw'.cell (p := ⟨b7, 2, none⟩) za).trans a2
              have v3 := (hw'.cell (p := ⟨b7, 3, none⟩) za).trans a3
              have v4 := (hw'.cell (p := ⟨b7, 4, none⟩) za).trans a4
              have v5 := (hw'.cell (p := ⟨b7, 5, none⟩) za).trans a5
              have v6 := (hw'.cell (p := ⟨b7, 6, none⟩) za).trans a6
              go_simp
              try go_bits
              exact hC
            simp only [putS, List.set_cons_succ, List.set_cons_zero]
            refine wpA_value ext_grow ?_ (fun _ _ h => by cases h) rfl rfl ?_ ?_
            rotate_left 1
            · intro w' hw' C hC
              go_simp
              try go_bits
              exact hC
            simp only [putS, List.set_cons_succ, List.set_cons_zero]
            refine wpA_value ext_grow ?_ (fun _ _ h => by cases h) rfl rfl ?_ ?_
            rotate_left 1
            · intro w' hw' C hC
              have v1 := (hw'.cell (p := ⟨bx, 1, none⟩) zx).trans x1
              go_simp
              try go_bits
              exact hC
            simp only [putS, List.set_cons_succ, List.set_cons_zero]
            refine wpA_value ext_grow ?_ (fun _ _ h => by cases h) rfl rfl ?_ ?_
            rotate_left 1
            · intro w' hw' C hC
              go_simp
              try go_bits
              exact hC
            simp only [putS, List.set_cons_succ, List.set_cons_zero]
            refine wpA_value ext_grow ?_ (fun _ _ h => by cases h) rfl rfl ?_ ?_
            rotate_left 1
            · intro w' hw' C hC
              go_simp
              try go_bits
              exact hC
            simp only [putS, List.set_cons_succ, List.set_cons_zero]
            refine wpA_value ext_grow ?_ (fun _ _ h => by cases h) rfl rfl ?_ ?_
            rotate_left 1
            · intro w' hw' C hC
              have v0 := (hw'.cell (p := ⟨nb, no + k1 * 7, none⟩) zn).trans g0
              have v1 := (hw'.cell (p := ⟨nb, no + k1 * 7 + 1, none⟩) zn).trans g1
              have v2 := (hw'.cell (p := ⟨nb, no + k1 * 7 + 2, none⟩) zn).trans g2
              have v3 := (hw'.cell (p := ⟨nb, no + k1 * 7 + 3, none⟩) zn).trans g3
              have v4 := (hw'.cell (p := ⟨nb, no + k1 * 7 + 4, none⟩) zn).trans g4
              have v5 := (hw'.cell (p := ⟨nb, no + k1 * 7 + 5, none⟩) zn).trans g5
              have v6 := (hw'.cell (p := ⟨nb, no + k1 * 7 + 6, none⟩) zn).trans g6
              go_simp
              try go_bits
              exact hC
            simp only [putS, List.set_cons_succ, List.set_cons_zero]
            refine wpA_known (.is (.bool true)) (fun _ _ h => by cases h) rfl rfl (mono_is _) (fun w' hw' => ?_) ?_
            · go_simp
              exact ⟨Below.refl _ _, (sameSnapT w' q1 A4 s1.A c4 s1.c ((ra.drew.below hw').more hw'.size) s1.p ((rn1.drew.below hw').more hw'.size) HQ1.out).mono fun e w'' h => is_ret (h.1) h.2⟩
            simp only [putS, List.set_cons_succ, List.set_cons_zero]
            refine wpA_value ext_grow ?_ (fun _ _ h => by cases h) rfl rfl ?_ ?_
            rotate_left 1
            · intro w' hw' C hC
              go_simp
              try go_bits
              exact hC
            simp only [putS, List.set_cons_succ, List.set_cons_zero]
            refine wpA_value ext_grow ?_ (fun _ _ h => by cases h) rfl rfl ?_ ?_
            rotate_left 1
            · intro w' hw' C hC
              go_simp
              try go_bits
              exact hC
            simp only [putS, List.set_cons_succ, List.set_cons_zero]
            refine wpA_value ext_grow ?_ (fun _ _ h => by cases h) rfl rfl ?_ ?_
            rotate_left 1
            · intro w' hw' C hC
              go_simp
              try go_bits
              exact hC
            simp only [putS, List.set_cons_succ, List.set_cons_zero]
            refine wpA_value ext_grow ?_ (fun _ _ h => by cases h) rfl rfl ?_ ?_
            rotate_left 1
            · intro w' hw' C hC
              go_simp
              try go_bits
              exact hC
            simp only [putS, List.set_cons_succ, List.set_cons_zero]
            refine wpA_value ext_grow ?_ (fun _ _ h => by cases h) rfl rfl ?_ ?_
            rotate_left 1
            · intro w' hw' C hC
              go_simp
              try go_bits
              exact hC
            simp only [putS, List.set_cons_succ, List.set_cons_zero]
            refine wpA_value ext_grow ?_ (fun _ _ h => by cases h) rfl rfl ?_ ?_
            rotate_left 1
            · intro w' hw' C hC
              have v0 := (hw'.cell (p := ⟨b9, 0, none⟩) zd).trans d0
              have v1 := (hw'.cell (p := ⟨b9, 1, none⟩) zd).trans d1
              have v2 := (hw'.cell (p := ⟨b9, 2, none⟩) zd).trans d2
              have v3 := (hw'.cell (p := ⟨b9, 3, none⟩) zd).trans d3
              have v4 := (hw'.cell (p := ⟨b9, 4, none⟩) zd).trans d4
              have v5 := (hw'.cell (p := ⟨b9, 5, none⟩) zd).trans d5
              have v6 := (hw'.cell (p := ⟨b9, 6, none⟩) zd).trans d6
              go_simp
              try go_bits
              exact hC
            simp only [putS, List.set_cons_succ, List.set_cons_zero]
            refine wpA_value ext_grow ?_ (fun _ _ h => by cases h) rfl rfl ?_ ?_
            rotate_left 1
            · intro w' hw' C hC
              go_simp
              try go_bits
              exact hC
            simp only [putS, List.set_cons_succ, List.set_cons_zero]
            refine wpA_value ext_grow ?_ (fun _ _ h => by cases h) rfl rfl ?_ ?_
            rotate_left 1
            · intro w' hw' C hC
              have v1 := (hw'.cell (p := ⟨bx, 1, none⟩) zx).trans x1
              go_simp
              try go_bits
              exact hC
            simp only [putS, List.set_cons_succ, List.set_cons_zero]
            refine wpA_value ext_grow ?_ (fun _ _ h => by cases h) rfl rfl ?_ ?_
            rotate_left 1
            · intro w' hw' C hC
              go_simp
              try go_bits
              exact hC
            simp only [putS, List.set_cons_succ, List.set_cons_zero]
            refine wpA_value ext_grow ?_ (fun _ _ h => by cases h) rfl rfl ?_ ?_
            rotate_left 1
            · intro w' hw' C hC
              go_simp
              try go_bits
              exact hC
            simp only [putS, List.set_cons_succ, List.set_cons_zero]
            refine wpA_value ext_grow ?_ (fun _ _ h => by cases h) rfl rfl ?_ ?_
            rotate_left 1
            · intro w' hw' C hC
              have v0 := (hw'.cell (p := ⟨nb, no + k2 * 7, none⟩) zn).trans m0
              have v1 := (hw'.cell (p := ⟨nb, no + k2 * 7 + 1, none⟩) zn).trans m1
              have v2 := (hw'.cell (p := ⟨nb, no + k2 * 7 + 2, none⟩) zn).trans m2
              have v3 := (hw'.cell (p := ⟨nb, no + k2 * 7 + 3, none⟩) zn).trans m3
              have v4 := (hw'.cell (p := ⟨nb, no + k2 * 7 + 4, none⟩) zn).trans m4
              have v5 := (hw'.cell (p := ⟨nb, no + k2 * 7 + 5, none⟩) zn).trans m5
              have v6 := (hw'.cell (p := ⟨nb, no + k2 * 7 + 6, none⟩) zn).trans m6
              go_simp
              try go_bits
              exact hC
            simp only [putS, List.set_cons_succ, List.set_cons_zero]
            refine wpA_known (.is (.bool true)) (fun _ _ h => by cases h) rfl rfl (mono_is _) (fun w' hw' => ?_) ?_
            · go_simp
              exact ⟨Below.refl _ _, (sameSnapT w' q2 A6 s2.A c6 s2.c ((rd.drew.below hw').more hw'.size) s2.p ((rn2.drew.below hw').more hw'.size) HQ2.out).mono fun e w'' h => is_ret (h.1) h.2⟩
            simp only [putS, List.set_cons_succ, List.set_cons_zero]
            refine wpA_value ext_grow ?_ (fun _ _ h => by cases h) rfl rfl ?_ ?_
            rotate_left 1
            · intro w' hw' C hC
              go_simp
              try go_bits
              exact hC
            simp only [putS, List.set_cons_succ, List.set_cons_zero]
            refine wpA_value ext_grow ?_ (fun _ _ h => by cases h) rfl rfl ?_ ?_
            rotate_left 1
            · intro w' hw' C hC
              go_simp
              try go_bits
              exact hC
            simp only [putS, List.set_cons_succ, List.set_cons_zero]
            refine wpA_value ext_grow ?_ (fun _ _ h => by cases h) rfl rfl ?_ ?_
            rotate_left 1
            · intro w' hw' C hC
              go_simp
              try go_bits
              exact hC
            simp only [putS, List.set_cons_succ, List.set_cons_zero]
            refine wpA_value ext_grow ?_ (fun _ _ h => by cases h) rfl rfl ?_ ?_
            rotate_left 1
            · intro w' hw' C hC
              go_simp
              try go_bits
              exact hC
            simp only [putS, List.set_cons_succ, List.set_cons_zero]
            refine wpA_value ext_grow ?_ (fun _ _ h => by cases h) rfl rfl ?_ ?_
            rotate_left 1
            · intro w' hw' C hC
              go_simp
              try go_bits
              exact hC
            simp only [putS, List.set_cons_succ, List.set_cons_zero]
            refine wpA_value ext_grow ?_ (fun _ _ h => by cases h) rfl rfl ?_ ?_
            rotate_left 1
            · intro w' hw' C hC
              go_simp
              try go_bits
              exact hC
            simp only [putS, List.set_cons_succ, List.set_cons_zero]
            refine wpA_skip rfl rfl ?_
            simp only [putS, List.set_cons_succ, List.set_cons_zero]
            refine wpA_skip rfl rfl ?_
            simp only [putS, List.set_cons_succ, List.set_cons_zero]
            refine wpA_skip rfl rfl ?_
            simp only [putS, List.set_cons_succ, List.set_cons_zero]
            refine wpA_skip rfl rfl ?_
            simp only [putS, List.set_cons_succ, List.set_cons_zero]
            refine wpA_skip rfl rfl ?_
            simp only [putS, List.set_cons_succ, List.set_cons_zero]
            refine wpA_skip rfl rfl ?_
            simp only [putS, List.set_cons_succ, List.set_cons_zero]
            refine wpA_skip rfl rfl ?_
            simp only [putS, List.set_cons_succ, List.set_cons_zero]
            refine wpA_value ext_grow ?_ (fun _ _ h => by cases h) rfl rfl ?_ ?_
            rotate_left 1
            · intro w' hw' C hC
              go_simp
              try go_bits
              exact hC
            simp only [putS, List.set_cons_succ, List.set_cons_zero]
            refine wpA_value ext_grow ?_ (fun _ _ h => by cases h) rfl rfl ?_ ?_
            rotate_left 1
            · intro w' hw' C hC
              go_simp
              try go_bits
              exact hC
            simp only [putS, List.set_cons_succ, List.set_cons_zero]
            refine wpA_value ext_grow ?_ (fun _ _ h => by cases h) rfl rfl ?_ ?_
            rotate_left 1
            · intro w' hw' C hC
              go_simp
              try go_bits
              exact hC
            simp only [putS, List.set_cons_succ, List.set_cons_zero]
            intro we hwe
            simp only [openS]
            go_wp2_with fail
            go_ret
            exact ⟨rfl, below_call HBc.out HBc.out.size (below_of_drew hwe)⟩
        · subst hk hb
          have HQ2 := hide hq2
          clear hq2
          rcases HP3.out with ⟨k3, hk, hb, hk3, hq3, hq4⟩ | ⟨hk, hb, hq3, hq4⟩
          · subst hk hb
            have HQ3 := hide hq3
            have HQ4 := hide hq4
            clear hq3 hq4
            have a0 := HF2.out.Y2.cell 0 _ rfl
            have a1 := HF2.out.Y2.cell 1 _ rfl
            have a2 := HF2.out.Y2.cell 2 _ rfl
            have a3 := HF2.out.Y2.cell 3 _ rfl
            have a4 := HF2.out.Y2.cell 4 _ rfl
            have a5 := HF2.out.Y2.cell 5 _ rfl
            have a6 := HF2.out.Y2.cell 6 _ rfl
            go_wp2_with fail
            refine (sameSnap0 _ q2 A6 c6 HF2.out.r2 HQ2.out).mono ?_
            rintro e wb ⟨rfl, hbb⟩
            have HFb := hide (HF2.out.keep hbb)
            have HBb := hide (below_call HB2.out HB2.out.size hbb)
            clear a0 a1 a2 a3 a4 a5 a6 hbb
            obtain ⟨nb, no, rfl, zn, g0, g1, g2, g3, g4, g5, g6⟩ := HFb.out.T.nrow.nl hk1
            have rn1 := HFb.out.T.n_at hk1
            generalize ns.getD k1 default = s1 at *
            obtain ⟨sb, so, rfl, zs, f0, f1⟩ := HFb.out.T.srow.sl hk3
            have rs3 := HFb.out.T.s_at hk3
            generalize ss.getD k3 default = s3 at *
            go_wp2_with fail
            have x0 := HFb.out.X.cell 0 _ rfl
            have x1 := HFb.out.X.cell 1 _ rfl
            have zx := HFb.out.X.z
            have a0 := HFb.out.Y1.cell 0 _ rfl
            have a1 := HFb.out.Y1.cell 1 _ rfl
            have a2 := HFb.out.Y1.cell 2 _ rfl
            have a3 := HFb.out.Y1.cell 3 _ rfl
            have a4 := HFb.out.Y1.cell 4 _ rfl
            have a5 := HFb.out.Y1.cell 5 _ rfl
            have a6 := HFb.out.Y1.cell 6 _ rfl
            have za := HFb.out.Y1.z
            have ra := HFb.out.r1
            have u0 := HFb.out.Y3.cell 0 _ rfl
            have u1 := HFb.out.Y3.cell 1 _ rfl
            have zu := HFb.out.Y3.z
            have ru := HFb.out.r3
            refine wp_region_abs ext_grow (by kernel_rfl) (by kernel_rfl) ?_
            simp only [List.map_cons, List.map_nil]
            refine wpA_value ext_grow ?_ (fun _ _ h => by cases h) rfl rfl ?_ ?_
            rotate_left 1
            · intro w' hw' C hC
              go_simp
              try go_bits
              exact hC
            simp only [putS, List.set_cons_succ, List.set_cons_zero]
            refine wpA_value ext_grow ?_ (fun _ _ h => by cases h) rfl rfl ?_ ?_
            rotate_left 1
            · intro w' hw' C hC
              go_simp
              try go_bits
              exact hC
            simp only [putS, List.set_cons_succ, List.set_cons_zero]
            refine wpA_value ext_grow ?_ (fun _ _ h => by cases h) rfl rfl ?_ ?_
            rotate_left 1
            · intro w' hw' C hC
              go_simp
              try go_bits
              exact hC
            simp only [putS, List.set_cons_succ, List.set_cons_zero]
            refine wpA_value ext_grow ?_ (fun _ _ h => by cases h) rfl rfl ?_ ?_
            rotate_left 1
            · intro w' hw' C hC
              have v0 := (hw'.cell (p := ⟨b7, 0, none⟩) za).trans a0
              have v1 := (hw'.cell (p := ⟨b7, 1, none⟩) za).trans a1
              have v2 := (hw'.cell (p := ⟨b7, 2, none⟩) za).trans a2
              have v3 := (hw'.cell (p := ⟨b7, 3, none⟩) za).trans a3
              have v4 := (hw'.cell (p := ⟨b7, 4, none⟩) za).trans a4
              have v5 := (hw'.cell (p := ⟨b7, 5, none⟩) za).trans a5
              have v6 := (hw'.cell (p := ⟨b7, 6, none⟩) za).trans a6
              go_simp
              try go_bits
              exact hC
            simp only [putS, List.set_cons_succ, List.set_cons_zero]
            refine wpA_value ext_grow ?_ (fun _ _ h => by cases h) rfl rfl ?_ ?_
            rotate_left 1
            · intro w' hw' C hC
              go_simp
              try go_bits
              exact hC
            simp only [putS, List.set_cons_succ, List.set_cons_zero]
            refine wpA_value ext_grow ?_ (fun _ _ h => by cases h) rfl rfl ?_ ?_
            rotate_left 1
            · intro w' hw' C hC
              have v1 := (hw'.cell (p := ⟨bx, 1, none⟩) zx).trans x1
              go_simp
              try go_bits
              exact hC
            simp only [putS, List.set_cons_succ, List.set_cons_zero]
            refine wpA_value ext_grow ?_ (fun _ _ h => by cases h) rfl rfl ?_ ?_
            rotate_left 1
            · intro w' hw' C hC
              go_simp
              try go_bits
              exact hC
            simp only [putS, List.set_cons_succ, List.set_cons_zero]
            refine wpA_value ext_grow ?_ (fun _ _ h => by cases h) rfl rfl ?_ ?_
            rotate_left 1
            · intro w' hw' C hC
              go_simp
              try go_bits
              exact hC
            simp only [putS, List.set_cons_succ, List.set_cons_zero]
            refine wpA_value ext_grow ?_ (fun _ _ h => by cases h) rfl rfl ?_ ?_
            rotate_left 1
            · intro w' hw' C hC
              have v0 := (hw'.cell (p := ⟨nb, no + k1 * 7, none⟩) zn).trans g0
              have v1 := (hw'.cell (p := ⟨nb, no + k1 * 7 + 1, none⟩) zn).trans g1
              have v2 := (hw'.cell (p := ⟨nb, no + k1 * 7 + 2, none⟩) zn).trans g2
              have v3 := (hw'.cell (p := ⟨nb, no + k1 * 7 + 3, none⟩) zn).trans g3
              have v4 := (hw'.cell (p := ⟨nb, no + k1 * 7 + 4, none⟩) zn).trans g4
              have v5 := (hw'.cell (p := ⟨nb, no + k1 * 7 + 5, none⟩) zn).trans g5
              have v6 := (hw'.cell (p := ⟨nb, no + k1 * 7 + 6, none⟩) zn).trans g6
              go_simp
              try go_bits
              exact hC
            simp only [putS, List.set_cons_succ, List.set_cons_zero]
            refine wpA_known (.is (.bool true)) (fun _ _ h => by cases h) rfl rfl (mono_is _) (fun w' hw' => ?_) ?_
            · go_simp
              exact ⟨Below.refl _ _, (sameSnapT w' q1 A4 s1.A c4 s1.c ((ra.drew.below hw').more hw'.size) s1.p ((rn1.drew.below hw').more hw'.size) HQ1.out).mono fun e w'' h => is_ret (h.1) h.2⟩
            simp only [putS, List.set_cons_succ, List.set_cons_zero]
            refine wpA_value ext_grow ?_ (fun _ _ h => by cases h) rfl rfl ?_ ?_
            rotate_left 1
            · intro w' hw' C hC
              go_simp
              try go_bits
              exact hC
            simp only [putS, List.set_cons_succ, List.set_cons_zero]
            refine wpA_value ext_grow ?_ (fun _ _ h => by cases h) rfl rfl ?_ ?_
            rotate_left 1
            · intro w' hw' C hC
              go_simp
              try go_bits
              exact hC
            simp only [putS, List.set_cons_succ, List.set_cons_zero]
            refine wpA_value ext_grow ?_ (fun _ _ h => by cases h) rfl rfl ?_ ?_
            rotate_left 1
            · intro w' hw' C hC
              go_simp
              try go_bits
              exact hC
            simp only [putS, List.set_cons_succ, List.set_cons_zero]
            refine wpA_value ext_grow ?_ (fun _ _ h => by cases h) rfl rfl ?_ ?_
            rotate_left 1
            · intro w' hw' C hC
              go_simp
              try go_bits
              exact hC
            simp only [putS, List.set_cons_succ, List.set_cons_zero]
            refine wpA_value ext_grow ?_ (fun _ _ h => by cases h) rfl rfl ?_ ?_
            rotate_left 1
            · intro w' hw' C hC
              go_simp
              try go_bits
              exact hC
            simp only [putS, List.set_cons_succ, List.set_cons_zero]
            refine wpA_skip rfl rfl ?_
            simp only [putS, List.set_cons_succ, List.set_cons_zero]
            refine wpA_skip rfl rfl ?_
            simp only [putS, List.set_cons_succ, List.set_cons_zero]
            refine wpA_skip rfl rfl ?_
            simp only [putS, List.set_cons_succ, List.set_cons_zero]
            refine wpA_skip rfl rfl ?_
            simp only [putS, List.set_cons_succ, List.set_cons_zero]
            refine wpA_skip rfl rfl ?_
            simp only [putS, List.set_cons_succ, List.set_cons_zero]
            refine wpA_skip rfl rfl ?_
            simp only [putS, List.set_cons_succ, List.set_cons_zero]
            refine wpA_skip rfl rfl ?_
            simp only [putS, List.set_cons_succ, List.set_cons_zero]
            refine wpA_value ext_grow ?_ (fun _ _ h => by cases h) rfl rfl ?_ ?_
            rotate_left 1
            · intro w' hw' C hC
              go_simp
              try go_bits
              exact hC
            simp only [putS, List.set_cons_succ, List.set_cons_zero]
            refine wpA_value ext_grow ?_ (fun _ _ h => by cases h) rfl rfl ?_ ?_
            rotate_left 1
            · intro w' hw' C hC
              go_simp
              try go_bits
              exact hC
            simp only [putS, List.set_cons_succ, List.set_cons_zero]
            refine wpA_value ext_grow ?_ (fun _ _ h => by cases h) rfl rfl ?_ ?_
            rotate_left 1
            · intro w' hw' C hC
              go_simp
              try go_bits
              exact hC
            simp only [putS, List.set_cons_succ, List.set_cons_zero]
            refine wpA_value ext_grow ?_ (fun _ _ h => by cases h) rfl rfl ?_ ?_
            rotate_left 1
            · intro w' hw' C hC
              go_simp
              try go_bits
              exact hC
            simp only [putS, List.set_cons_succ, List.set_cons_zero]
            refine wpA_value ext_grow ?_ (fun _ _ h => by cases h) rfl rfl ?_ ?_
            rotate_left 1
            · intro w' hw' C hC
              go_simp
              try go_bits
              exact hC
            simp only [putS, List.set_cons_succ, List.set_cons_zero]
            refine wpA_value ext_grow ?_ (fun _ _ h => by cases h) rfl rfl ?_ ?_
            rotate_left 1
            · intro w' hw' C hC
              go_simp
              try go_bits
              exact hC
            simp only [putS, List.set_cons_succ, List.set_cons_zero]
            refine wpA_value ext_grow ?_ (fun _ _ h => by cases h) rfl rfl ?_ ?_
            rotate_left 1
            · intro w' hw' C hC
              have v0 := (hw'.cell (p := ⟨b11, 0, none⟩) zu).trans u0
              have v1 := (hw'.cell (p := ⟨b11, 1, none⟩) zu).trans u1
              go_simp
              try go_bits
              exact hC
            simp only [putS, List.set_cons_succ, List.set_cons_zero]
            refine wpA_value ext_grow ?_ (fun _ _ h => by cases h) rfl rfl ?_ ?_
            rotate_left 1
            · intro w' hw' C hC
              go_simp
              try go_bits
              exact hC
            simp only [putS, List.set_cons_succ, List.set_cons_zero]
            refine wpA_value ext_grow ?_ (fun _ _ h => by cases h) rfl rfl ?_ ?_
            rotate_left 1
            · intro w' hw' C hC
              have v0 := (hw'.cell (p := ⟨bx, 0, none⟩) zx).trans x0
              go_simp
              try go_bits
              exact hC
            simp only [putS, List.set_cons_succ, List.set_cons_zero]
            refine wpA_value ext_grow ?_ (fun _ _ h => by cases h) rfl rfl ?_ ?_
            rotate_left 1
            · intro w' hw' C hC
              go_simp
              try go_bits
              exact hC
            simp only [putS, List.set_cons_succ, List.set_cons_zero]
            refine wpA_value ext_grow ?_ (fun _ _ h => by cases h) rfl rfl ?_ ?_
            rotate_left 1
            · intro w' hw' C hC
              go_simp
              try go_bits
              exact hC
            simp only [putS, List.set_cons_succ, List.set_cons_zero]
            refine wpA_value ext_grow ?_ (fun _ _ h => by cases h) rfl rfl ?_ ?_
            rotate_left 1
            · intro w' hw' C hC
              have v0 := (hw'.cell (p := ⟨sb, so + k3 * 2, none⟩) zs).trans f0
              have v1 := (hw'.cell (p := ⟨sb, so + k3 * 2 + 1, none⟩) zs).trans f1
              go_simp
              try go_bits
              exact hC
            simp only [putS, List.set_cons_succ, List.set_cons_zero]
            refine wpA_known (.is (.bool true)) (fun _ _ h => by cases h) rfl rfl (mono_is _) (fun w' hw' => ?_) ?_
            · go_simp
              exact ⟨Below.refl _ _, (sameSchT w' sid s3.id F s3.A fc s3.c sfs s3.fs ((ru.drew.below hw').more hw'.size) ((rs3.drew.below hw').more hw'.size) HQ3.out HQ4.out).mono fun e w'' h => is_ret (h.1) h.2⟩
            simp only [putS, List.set_cons_succ, List.set_cons_zero]
            refine wpA_value ext_grow ?_ (fun _ _ h => by cases h) rfl rfl ?_ ?_
            rotate_left 1
            · intro w' hw' C hC
              go_simp
              try go_bits
              exact hC
            simp only [putS, List.set_cons_succ, List.set_cons_zero]
            refine wpA_value ext_grow ?_ (fun _ _ h => by cases h) rfl rfl ?_ ?_
            rotate_left 1
            · intro w' hw' C hC
              go_simp
              try go_bits
              exact hC
            simp only [putS, List.set_cons_succ, List.set_cons_zero]
            refine wpA_value ext_grow ?_ (fun _ _ h => by cases h) rfl rfl ?_ ?_
            rotate_left 1
            · intro w' hw' C hC
              go_simp
              try go_bits
              exact hC
            simp only [putS, List.set_cons_succ, List.set_cons_zero]
            intro we hwe
            simp only [openS]
            go_wp2_with fail
            go_ret
            exact ⟨rfl, below_call HBb.out HBb.out.size (below_of_drew hwe)⟩
          · subst hk hb
            have HQ3 := hide hq3
            have HQ4 := hide hq4
            clear hq3 hq4
            have a0 := HF2.out.Y2.cell 0 _ rfl
            have a1 := HF2.out.Y2.cell 1 _ rfl
            have a2 := HF2.out.Y2.cell 2 _ rfl
            have a3 := HF2.out.Y2.cell 3 _ rfl
            have a4 := HF2.out.Y2.cell 4 _ rfl
            have a5 := HF2.out.Y2.cell 5 _ rfl
            have a6 := HF2.out.Y2.cell 6 _ rfl
            go_wp2_with fail
            refine (sameSnap0 _ q2 A6 c6 HF2.out.r2 HQ2.out).mono ?_
            rintro e wb ⟨rfl, hbb⟩
            have HFb := hide (HF2.out.keep hbb)
            have HBb := hide (below_call HB2.out HB2.out.size hbb)
            clear a0 a1 a2 a3 a4 a5 a6 hbb
            have a0 := HFb.out.Y3.cell 0 _ rfl
            have a1 := HFb.out.Y3.cell 1 _ rfl
            go_wp2_with fail
            refine (sameSch0 _ sid F fc sfs HFb.out.r3 HQ3.out HQ4.out).mono ?_
            rintro e wf ⟨rfl, hbf⟩
            have HFc := hide (HFb.out.keep hbf)
            have HBc := hide (below_call HBb.out HBb.out.size hbf)
            clear a0 a1 hbf
            obtain ⟨nb, no, rfl, zn, g0, g1, g2, g3, g4, g5, g6⟩ := HFc.out.T.nrow.nl hk1
            have rn1 := HFc.out.T.n_at hk1
            generalize ns.getD k1 default = s1 at *
            go_wp2_with fail
            have x0 := HFc.out.X.cell 0 _ rfl
            have x1 := HFc.out.X.cell 1 _ rfl
            have zx := HFc.out.X.z
            have a0 := HFc.out.Y1.cell 0 _ rfl
            have a1 := HFc.out.Y1.cell 1 _ rfl
            have a2 := HFc.out.Y1.cell 2 _ rfl
            have a3 := HFc.out.Y1.cell 3 _ rfl
            have a4 := HFc.out.Y1.cell 4 _ rfl
            have a5 := HFc.out.Y1.cell 5 _ rfl
            have a6 := HFc.out.Y1.cell 6 _ rfl
            have za := HFc.out.Y1.z
            have ra := HFc.out.r1
            refine wp_region_abs ext_grow (by kernel_rfl) (by kernel_rfl) ?_
            simp only [List.map_cons, List.map_nil]
            refine wpA_value ext_grow ?_ (fun _ _ h => by cases h) rfl rfl ?_ ?_
            rotate_left 1
            · intro w' hw' C hC
              go_simp
              try go_bits
              exact hC
            simp only [putS, List.set_cons_succ, List.set_cons_zero]
            refine wpA_value ext_grow ?_ (fun _ _ h => by cases h) rfl rfl ?_ ?_
            rotate_left 1
            · intro w' hw' C hC
              go_simp
              try go_bits
              exact hC
            simp only [putS, List.set_cons_succ, List.set_cons_zero]
            refine wpA_value ext_grow ?_ (fun _ _ h => by cases h) rfl rfl ?_ ?_
            rotate_left 1
            · intro w' hw' C hC
              go_simp
              try go_bits
              exact hC
            simp only [putS, List.set_cons_succ, List.set_cons_zero]
            refine wpA_value ext_grow ?_ (fun _ _ h => by cases h) rfl rfl ?_ ?_
            rotate_left 1
            · intro w' hw' C hC
              have v0 := (hw'.cell (p := ⟨b7, 0, none⟩) za).trans a0
              have v1 := (hw'.cell (p := ⟨b7, 1, none⟩) za).trans a1
              have v2 := (hw'.cell (p := ⟨b7, 2, none⟩) za).trans a2
              have v3 := (hw'.cell (p := ⟨b7, 3, none⟩) za).trans a3
              have v4 := (hw'.cell (p := ⟨b7, 4, none⟩) za).trans a4
              have v5 := (hw'.cell (p := ⟨b7, 5, none⟩) za).trans a5
              have v6 := (hw'.cell (p := ⟨b7, 6, none⟩) za).trans a6
              go_simp
              try go_bits
              exact hC
            simp only [putS, List.set_cons_succ, List.set_cons_zero]
            refine wpA_value ext_grow ?_ (fun _ _ h => by cases h) rfl rfl ?_ ?_
            rotate_left 1
            · intro w' hw' C hC
              go_simp
              try go_bits
              exact hC
            simp only [putS, List.set_cons_succ, List.set_cons_zero]
            refine wpA_value ext_grow ?_ (fun _ _ h => by cases h) rfl rfl ?_ ?_
            rotate_left 1
            · intro w' hw' C hC
              have v1 := (hw'.cell (p := ⟨bx, 1, none⟩) zx).trans x1
              go_simp
              try go_bits
              exact hC
            simp only [putS, List.set_cons_succ, List.set_cons_zero]
            refine wpA_value ext_grow ?_ (fun _ _ h => by cases h) rfl rfl ?_ ?_
            rotate_left 1
            · intro w' hw' C hC
              go_simp
              try go_bits
              exact hC
            simp only [putS, List.set_cons_succ, List.set_cons_zero]
            refine wpA_value ext_grow ?_ (fun _ _ h => by cases h) rfl rfl ?_ ?_
            rotate_left 1
            · intro w' hw' C hC
              go_simp
              try go_bits
              exact hC
            simp only [putS, List.set_cons_succ, List.set_cons_zero]
            refine wpA_value ext_grow ?_ (fun _ _ h => by cases h) rfl rfl ?_ ?_
            rotate_left 1
            · intro w' hw' C hC
              have v0 := (hw'.cell (p := ⟨nb, no + k1 * 7, none⟩) zn).trans g0
              have v1 := (hw'.cell (p := ⟨nb, no + k1 * 7 + 1, none⟩) zn).trans g1
              have v2 := (hw'.cell (p := ⟨nb, no + k1 * 7 + 2, none⟩) zn).trans g2
              have v3 := (hw'.cell (p := ⟨nb, no + k1 * 7 + 3, none⟩) zn).trans g3
              have v4 := (hw'.cell (p := ⟨nb, no + k1 * 7 + 4, none⟩) zn).trans g4
              have v5 := (hw'.cell (p := ⟨nb, no + k1 * 7 + 5, none⟩) zn).trans g5
              have v6 := (hw'.cell (p := ⟨nb, no + k1 * 7 + 6, none⟩) zn).trans g6
              go_simp
              try go_bits
              exact hC
            simp only [putS, List.set_cons_succ, List.set_cons_zero]
            refine wpA_known (.is (.bool true)) (fun _ _ h => by cases h) rfl rfl (mono_is _) (fun w' hw' => ?_) ?_
            · go_simp
              exact ⟨Below.refl _ _, (sameSnapT w' q1 A4 s1.A c4 s1.c ((ra.drew.below hw').more hw'.size) s1.p ((rn1.drew.below hw').more hw'.size) HQ1.out).mono fun e w'' h => is_ret (h.1) h.2⟩
            simp only [putS, List.set_cons_succ, List.set_cons_zero]
            refine wpA_value ext_grow ?_ (fun _ _ h => by cases h) rfl rfl ?_ ?_
            rotate_left 1
            · intro w' hw' C hC
              go_simp
              try go_bits
              exact hC
            simp only [putS, List.set_cons_succ, List.set_cons_zero]
            refine wpA_value ext_grow ?_ (fun _ _ h => by cases h) rfl rfl ?_ ?_
            rotate_left 1
            · intro w' hw' C hC
              go_simp
              try go_bits
              exact hC
            simp only [putS, List.set_cons_succ, List.set_cons_zero]
            refine wpA_value ext_grow ?_ (fun _ _ h => by cases h) rfl rfl ?_ ?_
            rotate_left 1
            · intro w' hw' C hC
              go_simp
              try go_bits
              exact hC
            simp only [putS, List.set_cons_succ, List.set_cons_zero]
            refine wpA_value ext_grow ?_ (fun _ _ h => by cases h) rfl rfl ?_ ?_
            rotate_left 1
            · intro w' hw' C hC
              go_simp
              try go_bits
              exact hC
            simp only [putS, List.set_cons_succ, List.set_cons_zero]
            refine wpA_value ext_grow ?_ (fun _ _ h => by cases h) rfl rfl ?_ ?_
            rotate_left 1
            · intro w' hw' C hC
              go_simp
              try go_bits
              exact hC
            simp only [putS, List.set_cons_succ, List.set_cons_zero]
            refine wpA_skip rfl rfl ?_
            simp only [putS, List.set_cons_succ, List.set_cons_zero]
            refine wpA_skip rfl rfl ?_
            simp only [putS, List.set_cons_succ, List.set_cons_zero]
            refine wpA_skip rfl rfl ?_
            simp only [putS, List.set_cons_succ, List.set_cons_zero]
            refine wpA_skip rfl rfl ?_
            simp only [putS, List.set_cons_succ, List.set_cons_zero]
            refine wpA_skip rfl rfl ?_
            simp only [putS, List.set_cons_succ, List.set_cons_zero]
            refine wpA_skip rfl rfl ?_
            simp only [putS, List.set_cons_succ, List.set_cons_zero]
            refine wpA_skip rfl rfl ?_
            simp only [putS, List.set_cons_succ, List.set_cons_zero]
            refine wpA_value ext_grow ?_ (fun _ _ h => by cases h) rfl rfl ?_ ?_
            rotate_left 1
            · intro w' hw' C hC
              go_simp
              try go_bits
              exact hC
            simp only [putS, List.set_cons_succ, List.set_cons_zero]
            refine wpA_value ext_grow ?_ (fun _ _ h => by cases h) rfl rfl ?_ ?_
            rotate_left 1
            · intro w' hw' C hC
              go_simp
              try go_bits
              exact hC
            simp only [putS, List.set_cons_succ, List.set_cons_zero]
            refine wpA_value ext_grow ?_ (fun _ _ h => by cases h) rfl rfl ?_ ?_
            rotate_left 1
            · intro w' hw' C hC
              go_simp
              try go_bits
              exact hC
            simp only [putS, List.set_cons_succ, List.set_cons_zero]
            refine wpA_value ext_grow ?_ (fun _ _ h => by cases h) rfl rfl ?_ ?_
            rotate_left 1
            · intro w' hw' C hC
              go_simp
              try go_bits
              exact hC
            simp only [putS, List.set_cons_succ, List.set_cons_zero]
            refine wpA_value ext_grow ?_ (fun _ _ h => by cases h) rfl rfl ?_ ?_
            rotate_left 1
            · intro w' hw' C hC
              go_simp
              try go_bits
              exact hC
            simp only [putS, List.set_cons_succ, List.set_cons_zero]
            refine wpA_value ext_grow ?_ (fun _ _ h => by cases h) rfl rfl ?_ ?_
            rotate_left 1
            · intro w' hw' C hC
              go_simp
              try go_bits
              exact hC
            simp only [putS, List.set_cons_succ, List.set_cons_zero]
            refine wpA_skip rfl rfl ?_
            simp only [putS, List.set_cons_succ, List.set_cons_zero]
            refine wpA_skip rfl rfl ?_
            simp only [putS, List.set_cons_succ, List.set_cons_zero]
            refine wpA_skip rfl rfl ?_
            simp only [putS, List.set_cons_succ, List.set_cons_zero]
            refine wpA_skip rfl rfl ?_
            simp only [putS, List.set_cons_succ, List.set_cons_zero]
            refine wpA_skip rfl rfl ?_
            simp only [putS, List.set_cons_succ, List.set_cons_zero]
            refine wpA_skip rfl rfl ?_
            simp only [putS, List.set_cons_succ, List.set_cons_zero]
            refine wpA_skip rfl rfl ?_
            simp only [putS, List.set_cons_succ, List.set_cons_zero]
            refine wpA_value ext_grow ?_ (fun _ _ h => by cases h) rfl rfl ?_ ?_
            rotate_left 1
            · intro w' hw' C hC
              go_simp
              try go_bits
              exact hC
            simp only [putS, List.set_cons_succ, List.set_cons_zero]
            refine wpA_value ext_grow ?_ (fun _ _ h => by cases h) rfl rfl ?_ ?_
            rotate_left 1
            · intro w' hw' C hC
              go_simp
              try go_bits
              exact hC
            simp only [putS, List.set_cons_succ, List.set_cons_zero]
            refine wpA_value ext_grow ?_ (fun _ _ h => by cases h) rfl rfl ?_ ?_
            rotate_left 1
            · intro w' hw' C hC
              go_simp
              try go_bits
              exact hC
            simp only [putS, List.set_cons_succ, List.set_cons_zero]
            intro we hwe
            simp only [openS]
            go_wp2_with fail
            go_ret
            exact ⟨rfl, below_call HBc.out HBc.out.size (below_of_drew hwe)⟩
      · subst hk hb
        have HQ1 := hide hq1
        clear hq1
        rcases HP2.out with ⟨k2, hk, hb, hk2, hq2⟩ | ⟨hk, hb, hq2⟩
        · subst hk hb
          have HQ2 := hide hq2
          clear hq2
          rcases HP3.out with ⟨k3, hk, hb, hk3, hq3, hq4⟩ | ⟨hk, hb, hq3, hq4⟩
          · subst hk hb
            have HQ3 := hide hq3
            have HQ4 := hide hq4
            clear hq3 hq4
            have a0 := HF2.out.Y1.cell 0 _ rfl
            have a1 := HF2.out.Y1.cell 1 _ rfl
            have a2 := HF2.out.Y1.cell 2 _ rfl
            have a3 := HF2.out.Y1.cell 3 _ rfl
            have a4 := HF2.out.Y1.cell 4 _ rfl
            have a5 := HF2.out.Y1.cell 5 _ rfl
            have a6 := HF2.out.Y1.cell 6 _ rfl
            go_wp2_with fail
            refine (sameSnap0 _ q1 A4 c4 HF2.out.r1 HQ1.out).mono ?_
            rintro e wa ⟨rfl, hba⟩
            have HFa := hide (HF2.out.keep hba)
            have HBa := hide (below_call HB2.out HB2.out.size hba)
            clear a0 a1 a2 a3 a4 a5 a6 hba
            obtain ⟨nb, no, rfl, zn, m0, m1, m2, m3, m4, m5, m6⟩ := HFa.out.T.nrow.nl hk2
            have rn2 := HFa.out.T.n_at hk2
            generalize ns.getD k2 default = s2 at *
            obtain ⟨sb, so, rfl, zs, f0, f1⟩ := HFa.out.T.srow.sl hk3
            have rs3 := HFa.out.T.s_at hk3
            generalize ss.getD k3 default = s3 at *
            go_wp2_with fail
            have x0 := HFa.out.X.cell 0 _ rfl
            have x1 := HFa.out.X.cell 1 _ rfl
            have zx := HFa.out.X.z
            have d0 := HFa.out.Y2.cell 0 _ rfl
            have d1 := HFa.out.Y2.cell 1 _ rfl
            have d2 := HFa.out.Y2.cell 2 _ rfl
            have d3 := HFa.out.Y2.cell 3 _ rfl
            have d4 := HFa.out.Y2.cell 4 _ rfl
            have d5 := HFa.out.Y2.cell 5 _ rfl
            have d6 := HFa.out.Y2.cell 6 _ rfl
            have zd := HFa.out.Y2.z
            have rd := HFa.out.r2
            have u0 := HFa.out.Y3.cell 0 _ rfl
            have u1 := HFa.out.Y3.cell 1 _ rfl
            have zu := HFa.out.Y3.z
            have ru := HFa.out.r3
            refine wp_region_abs ext_grow (by kernel_rfl) (by kernel_rfl) ?_
            simp only [List.map_cons, List.map_nil]
            refine wpA_value ext_grow ?_ (fun _ _ h => by cases h) rfl rfl ?_ ?_
            rotate_left 1
            · intro w' hw' C hC
              go_simp
              try go_bits
              exact hC
            simp only [putS, List.set_cons_succ, List.set_cons_zero]
            refine wpA_value ext_grow ?_ (fun _ _ h => by cases h) rfl rfl ?_ ?_
            rotate_left 1
            · intro w' hw' C hC
              go_simp
              try go_bits
              exact hC
            simp only [putS, List.set_cons_succ, List.set_cons_zero]
            refine wpA_value ext_grow ?_ (fun _ _ h => by cases h) rfl rfl ?_ ?_
            rotate_left 1
            · intro w' hw' C hC
              go_simp
              try go_bits
              exact hC
            simp only [putS, List.set_cons_succ, List.set_cons_zero]
            refine wpA_skip rfl rfl ?_
            simp only [putS, List.set_cons_succ, List.set_cons_zero]
            refine wpA_skip rfl rfl ?_
            simp only [putS, List.set_cons_succ, List.set_cons_zero]
            refine wpA_skip rfl rfl ?_
            simp only [putS, List.set_cons_succ, List.set_cons_zero]
            refine wpA_skip rfl rfl ?_
            simp only [putS, List.set_cons_succ, List.set_cons_zero]
            refine wpA_skip rfl rfl ?_
            simp only [putS, List.set_cons_succ, List.set_cons_zero]
            refine wpA_skip rfl rfl ?_
            simp only [putS, List.set_cons_succ, List.set_cons_zero]
            refine wpA_skip rfl rfl ?_
            simp only [putS, List.set_cons_succ, List.set_cons_zero]
            refine wpA_value ext_grow ?_ (fun _ _ h => by cases h) rfl rfl ?_ ?_
            rotate_left 1
            · intro w' hw' C hC
              go_simp
              try go_bits
              exact hC
            simp only [putS, List.set_cons_succ, List.set_cons_zero]
            refine wpA_value ext_grow ?_ (fun _ _ h => by cases h) rfl rfl ?_ ?_
            rotate_left 1
            · intro w' hw' C hC
              go_simp
              try go_bits
              exact hC
            simp only [putS, List.set_cons_succ, List.set_cons_zero]
            refine wpA_value ext_grow ?_ (fun _ _ h => by cases h) rfl rfl ?_ ?_
            rotate_left 1
            · intro w' hw' C hC
              go_simp
              try go_bits
              exact hC
            simp only [putS, List.set_cons_succ, List.set_cons_zero]
            refine wpA_value ext_grow ?_ (fun _ _ h => by cases h) rfl rfl ?_ ?_
            rotate_left 1
            · intro w' hw' C hC
              go_simp
              try go_bits
              exact hC
            simp only [putS, List.set_cons_succ, List.set_cons_zero]
            refine wpA_value ext_grow ?_ (fun _ _ h => by cases h) rfl rfl ?_ ?_
            rotate_left 1
            · intro w' hw' C hC
              go_simp
              try go_bits
              exact hC
            simp only [putS, List.set_cons_succ, List.set_cons_zero]
            refine wpA_value ext_grow ?_ (fun _ _ h => by cases h) rfl rfl ?_ ?_
            rotate_left 1
            · intro w' hw' C hC
              have v0 := (hw'.cell (p := ⟨b9, 0, none⟩) zd).trans d0
              have v1 := (hw'.cell (p := ⟨b9, 1, none⟩) zd).trans d1
              have v2 := (hw'.cell (p := ⟨b9, 2, none⟩) zd).trans d2
              have v3 := (hw'.cell (p := ⟨b9, 3, none⟩) zd).trans d3
              have v4 := (hw'.cell (p := ⟨b9, 4, none⟩) zd).trans d4
              have v5 := (hw'.cell (p := ⟨b9, 5, none⟩) zd).trans d5
              have v6 := (hw'.cell (p := ⟨b9, 6, none⟩) zd).trans d6
              go_simp
              try go_bits
              exact hC
            simp only [putS, List.set_cons_succ, List.set_cons_zero]
            refine wpA_value ext_grow ?_ (fun _ _ h => by cases h) rfl rfl ?_ ?_
            rotate_left 1
            · intro w' hw' C hC
              go_simp
              try go_bits
              exact hC
            simp only [putS, List.set_cons_succ, List.set_cons_zero]
            refine wpA_value ext_grow ?_ (fun _ _ h => by cases h) rfl rfl ?_ ?_
            rotate_left 1
            · intro w' hw' C hC
              have v1 := (hw'.cell (p := ⟨bx, 1, none⟩) zx).trans x1
              go_simp
              try go_bits
              exact hC
            simp only [putS, List.set_cons_succ, List.set_cons_zero]
            refine wpA_value ext_grow ?_ (fun _ _ h => by cases h) rfl rfl ?_ ?_
            rotate_left 1
            · intro w' hw' C hC
              go_simp
              try go_bits
              exact hC
            simp only [putS, List.set_cons_succ, List.set_cons_zero]
            refine wpA_value ext_grow ?_ (fun _ _ h => by cases h) rfl rfl ?_ ?_
            rotate_left 1
            · intro w' hw' C hC
              go_simp
              try go_bits
              exact hC
            simp only [putS, List.set_cons_succ, List.set_cons_zero]
            refine wpA_value ext_grow ?_ (fun _ _ h => by cases h) rfl rfl ?_ ?_
            rotate_left 1
            · intro w' hw' C hC
              have v0 := (hw'.cell (p := ⟨nb, no + k2 * 7, none⟩) zn).trans m0
              have v1 := (hw'.cell (p := ⟨nb, no + k2 * 7 + 1, none⟩) zn).trans m1
              have v2 := (hw'.cell (p := ⟨nb, no + k2 * 7 + 2, none⟩) zn).trans m2
              have v3 := (hw'.cell (p := ⟨nb, no + k2 * 7 + 3, none⟩) zn).trans m3
              have v4 := (hw'.cell (p := ⟨nb, no + k2 * 7 + 4, none⟩) zn).trans m4
              have v5 := (hw'.cell (p := ⟨nb, no + k2 * 7 + 5, none⟩) zn).trans m5
              have v6 := (hw'.cell (p := ⟨nb, no + k2 * 7 + 6, none⟩) zn).trans m6
              go_simp
              try go_bits
              exact hC
            simp only [putS, List.set_cons_succ, List.set_cons_zero]
            refine wpA_known (.is (.bool true)) (fun _ _ h => by cases h) rfl rfl (mono_is _) (fun w' hw' => ?_) ?_
            · go_simp
              exact ⟨Below.refl _ _, (sameSnapT w' q2 A6 s2.A c6 s2.c ((rd.drew.below hw').more hw'.size) s2.p ((rn2.drew.below hw').more hw'.size) HQ2.out).mono fun e w'' h => is_ret (h.1) h.2⟩
            simp only [putS, List.set_cons_succ, List.set_cons_zero]
            refine wpA_value ext_grow ?_ (fun _ _ h => by cases h) rfl rfl ?_ ?_
            rotate_left 1
            · intro w' hw' C hC
              go_simp
              try go_bits
              exact hC
            simp only [putS, List.set_cons_succ, List.set_cons_zero]
            refine wpA_value ext_grow ?_ (fun _ _ h => by cases h) rfl rfl ?_ ?_
            rotate_left 1
            · intro w' hw' C hC
              go_simp
              try go_bits
              exact hC
            simp only [putS, List.set_cons_succ, List.set_cons_zero]
            refine wpA_value ext_grow ?_ (fun _ _ h => by cases h) rfl rfl ?_ ?_
            rotate_left 1
            · intro w' hw' C hC
              go_simp
              try go_bits
              exact hC
            simp only [putS, List.set_cons_succ, List.set_cons_zero]
            refine wpA_value ext_grow ?_ (fun _ _ h => by cases h) rfl rfl ?_ ?_
            rotate_left 1
            · intro w' hw' C hC
              go_simp
              try go_bits
              exact hC
            simp only [putS, List.set_cons_succ, List.set_cons_zero]
            refine wpA_value ext_grow ?_ (fun _ _ h => by cases h) rfl rfl ?_ ?_
            rotate_left 1
            · intro w' hw' C hC
              go_simp
              try go_bits
              exact hC
            simp only [putS, List.set_cons_succ, List.set_cons_zero]
            refine wpA_value ext_grow ?_ (fun _ _ h => by cases h) rfl rfl ?_ ?_
            rotate_left 1
            · intro w' hw' C hC
              go_simp
              try go_bits
              exact hC
            simp only [putS, List.set_cons_succ, List.set_cons_zero]
            refine wpA_value ext_grow ?_ (fun _ _ h => by cases h) rfl rfl ?_ ?_
            rotate_left 1
            · intro w' hw' C hC
              have v0 := (hw'.cell (p := ⟨b11, 0, none⟩) zu).trans u0
              have v1 := (hw'.cell (p := ⟨b11, 1, none⟩) zu).trans u1
              go_simp
              try go_bits
              exact hC
            simp only [putS, List.set_cons_succ, List.set_cons_zero]
            refine wpA_value ext_grow ?_ (fun _ _ h => by cases h) rfl rfl ?_ ?_
            rotate_left 1
            · intro w' hw' C hC
              go_simp
              try go_bits
              exact hC
            simp only [putS, List.set_cons_succ, List.set_cons_zero]
            refine wpA_value ext_grow ?_ (fun _ _ h => by cases h) rfl rfl ?_ ?_
            rotate_left 1
            · intro w' hw' C hC
              have v0 := (hw'.cell (p := ⟨bx, 0, none⟩) zx).trans x0
              go_simp
              try go_bits
              exact hC
            simp only [putS, List.set_cons_succ, List.set_cons_zero]
            refine wpA_value ext_grow ?_ (fun _ _ h => by cases h) rfl rfl ?_ ?_
            rotate_left 1
            · intro w' hw' C hC
              go_simp
              try go_bits
              exact hC
            simp only [putS, List.set_cons_succ, List.set_cons_zero]
            refine wpA_value ext_grow ?_ (fun _ _ h => by cases h) rfl rfl ?_ ?_
            rotate_left 1
            · intro w' hw' C hC
              go_simp
              try go_bits
              exact hC
            simp only [putS, List.set_cons_succ, List.set_cons_zero]
            refine wpA_value ext_grow ?_ (fun _ _ h => by cases h) rfl rfl ?_ ?_
            rotate_left 1
            · intro w' hw' C hC
              have v0 := (hw'.cell (p := ⟨sb, so + k3 * 2, none⟩) zs).trans f0
              have v1 := (hw'.cell (p := ⟨sb, so + k3 * 2 + 1, none⟩) zs).trans f1
              go_simp
              try go_bits
              exact hC
            simp only [putS, List.set_cons_succ, List.set_cons_zero]
            refine wpA_known (.is (.bool true)) (fun _ _ h => by cases h) rfl rfl (mono_is _) (fun w' hw' => ?_) ?_
            · go_simp
              exact ⟨Below.refl _ _, (sameSchT w' sid s3.id F s3.A fc s3.c sfs s3.fs ((ru.drew.below hw').more hw'.size) ((rs3.drew.below hw').more hw'.size) HQ3.out HQ4.out).mono fun e w'' h => is_ret (h.1) h.2⟩
            simp only [putS, List.set_cons_succ, List.set_cons_zero]
            refine wpA_value ext_grow ?_ (fun _ _ h => by cases h) rfl rfl ?_ ?_
            rotate_left 1
            · intro w' hw' C hC
              go_simp
              try go_bits
              exact hC
            simp only [putS, List.set_cons_succ, List.set_cons_zero]
            refine wpA_value ext_grow ?_ (fun _ _ h => by cases h) rfl rfl ?_ ?_
            rotate_left 1
            · intro w' hw' C hC
              go_simp
              try go_bits
              exact hC
            simp only [putS, List.set_cons_succ, List.set_cons_zero]
            refine wpA_value ext_grow ?_ (fun _ _ h => by cases h) rfl rfl ?_ ?_
            rotate_left 1
            · intro w' hw' C hC
              go_simp
              try go_bits
              exact hC
            simp only [putS, List.set_cons_succ, List.set_cons_zero]
            intro we hwe
            simp only [openS]
            go_wp2_with fail
            go_ret
            exact ⟨rfl, below_call HBa.out HBa.out.size (below_of_drew hwe)⟩
          · subst hk hb
            have HQ3 := hide hq3
            have HQ4 := hide hq4
            clear hq3 hq4
            have a0 := HF2.out.Y1.cell 0 _ rfl
            have a1 := HF2.out.Y1.cell 1 _ rfl
            have a2 := HF2.out.Y1.cell 2 _ rfl
            have a3 := HF2.out.Y1.cell 3 _ rfl
            have a4 := HF2.out.Y1.cell 4 _ rfl
            have a5 := HF2.out.Y1.cell 5 _ rfl
            have a6 := HF2.out.Y1.cell 6 _ rfl
            go_wp2_with fail
            refine (sameSnap0 _ q1 A4 c4 HF2.out.r1 HQ1.out).mono ?_
            rintro e wa ⟨rfl, hba⟩
            have HFa := hide (HF2.out.keep hba)
            have HBa := hide (below_call HB2.out HB2.out.size hba)
            clear a0 a1 a2 a3 a4 a5 a6 hba
            have a0 := HFa.out.Y3.cell 0 _ rfl
            have a1 := HFa.out.Y3.cell 1 _ rfl
            go_wp2_with fail
            refine (sameSch0 _ sid F fc sfs HFa.out.r3 HQ3.out HQ4.out).mono ?_
            rintro e wf ⟨rfl, hbf⟩
            have HFc := hide (HFa.out.keep hbf)
            have HBc := hide (below_call HBa.out HBa.out.size hbf)
            clear a0 a1 hbf
            obtain ⟨nb, no, rfl, zn, m0, m1, m2, m3, m4, m5, m6⟩ := HFc.out.T.nrow.nl hk2
            have rn2 := HFc.out.T.n_at hk2
            generalize ns.getD k2 default = s2 at *
            go_wp2_with fail
            have x0 := HFc.out.X.cell 0 _ rfl
            have x1 := HFc.out.X.cell 1 _ rfl
            have zx := HFc.out.X.z
            have d0 := HFc.out.Y2.cell 0 _ rfl
            have d1 := HFc.out.Y2.cell 1 _ rfl
            have d2 := HFc.out.Y2.cell 2 _ rfl
            have d3 := HFc.out.Y2.cell 3 _ rfl
            have d4 := HFc.out.Y2.cell 4 _ rfl
            have d5 := HFc.out.Y2.cell 5 _ rfl
            have d6 := HFc.out.Y2.cell 6 _ rfl
            have zd := HFc.out.Y2.z
            have rd := HFc.out.r2
            refine wp_region_abs ext_grow (by kernel_rfl) (by kernel_rfl) ?_
            simp only [List.map_cons, List.map_nil]
            refine wpA_value ext_grow ?_ (fun _ _ h => by cases h) rfl rfl ?_ ?_
            rotate_left 1
            · intro w' hw' C hC
              go_simp
              try go_bits
              exact hC
            simp only [putS, List.set_cons_succ, List.set_cons_zero]
            refine wpA_value ext_grow ?_ (fun _ _ h => by cases h) rfl rfl ?_ ?_
            rotate_left 1
            · intro w' hw' C hC
              go_simp
              try go_bits
              exact hC
            simp only [putS, List.set_cons_succ, List.set_cons_zero]
            refine wpA_value ext_grow ?_ (fun _ _ h => by cases h) rfl rfl ?_ ?_
            rotate_left 1
            · intro w' hw' C hC
              go_simp
              try go_bits
              exact hC
            simp only [putS, List.set_cons_succ, List.set_cons_zero]
            refine wpA_skip rfl rfl ?_
            simp only [putS, List.set_cons_succ, List.set_cons_zero]
            refine wpA_skip rfl rfl ?_
            simp only [putS, List.set_cons_succ, List.set_cons_zero]
            refine wpA_skip rfl rfl ?_
            simp only [putS, List.set_cons_succ, List.set_cons_zero]
            refine wpA_skip rfl rfl ?_
            simp only [putS, List.set_cons_succ, List.set_cons_zero]
            refine wpA_skip rfl rfl ?_
            simp only [putS, List.set_cons_succ, List.set_cons_zero]
            refine wpA_skip rfl rfl ?_
            simp only [putS, List.set_cons_succ, List.set_cons_zero]
            refine wpA_skip rfl rfl ?_
            simp only [putS, List.set_cons_succ, List.set_cons_zero]
            refine wpA_value ext_grow ?_ (fun _ _ h => by cases h) rfl rfl ?_ ?_
            rotate_left 1
            · intro w' hw' C hC
              go_simp
              try go_bits
              exact hC
            simp only [putS, List.set_cons_succ, List.set_cons_zero]
            refine wpA_value ext_grow ?_ (fun _ _ h => by cases h) rfl rfl ?_ ?_
            rotate_left 1
            · intro w' hw' C hC
              go_simp
              try go_bits
              exact hC
            simp only [putS, List.set_cons_succ, List.set_cons_zero]
            refine wpA_value ext_grow ?_ (fun _ _ h => by cases h) rfl rfl ?_ ?_
            rotate_left 1
            · intro w' hw' C hC
              go_simp
              try go_bits
              exact hC
            simp only [putS, List.set_cons_succ, List.set_cons_zero]
            refine wpA_value ext_grow ?_ (fun _ _ h => by cases h) rfl rfl ?_ ?_
            rotate_left 1
            · intro w' hw' C hC
              go_simp
              try go_bits
              exact hC
            simp only [putS, List.set_cons_succ, List.set_cons_zero]
            refine wpA_value ext_grow ?_ (fun _ _ h => by cases h) rfl rfl ?_ ?_
            rotate_left 1
            · intro w' hw' C hC
              go_simp
              try go_bits
              exact hC
            simp only [putS, List.set_cons_succ, List.set_cons_zero]
            refine wpA_value ext_grow ?_ (fun _ _ h => by cases h) rfl rfl ?_ ?_
            rotate_left 1
            · intro w' hw' C hC
              have v0 := (hw'.cell (p := ⟨b9, 0, none⟩) zd).trans d0
              have v1 := (hw'.cell (p := ⟨b9, 1, none⟩) zd).trans d1
              have v2 := (hw'.cell (p := ⟨b9, 2, none⟩) zd).trans d2
              have v3 := (hw'.cell (p := ⟨b9, 3, none⟩) zd).trans d3
              have v4 := (hw'.cell (p := ⟨b9, 4, none⟩) zd).trans d4
              have v5 := (hw'.cell (p := ⟨b9, 5, none⟩) zd).trans d5
              have v6 := (hw'.cell (p := ⟨b9, 6, none⟩) zd).trans d6
              go_simp
              try go_bits
              exact hC
            simp only [putS, List.set_cons_succ, List.set_cons_zero]
            refine wpA_value ext_grow ?_ (fun _ _ h => by cases h) rfl rfl ?_ ?_
            rotate_left 1
            · intro w' hw' C hC
              go_simp
              try go_bits
              exact hC
            simp only [putS, List.set_cons_succ, List.set_cons_zero]
            refine wpA_value ext_grow ?_ (fun _ _ h => by cases h) rfl rfl ?_ ?_
            rotate_left 1
            · intro w' hw' C hC
              have v1 := (hw'.cell (p := ⟨bx, 1, none⟩) zx).trans x1
              go_simp
              try go_bits
              exact hC
            simp only [putS, List.set_cons_succ, List.set_cons_zero]
            refine wpA_value ext_grow ?_ (fun _ _ h => by cases h) rfl rfl ?_ ?_
            rotate_left 1
            · intro w' hw' C hC
              go_simp
              try go_bits
              exact hC
            simp only [putS, List.set_cons_succ, List.set_cons_zero]
            refine wpA_value ext_grow ?_ (fun _ _ h => by cases h) rfl rfl ?_ ?_
            rotate_left 1
            · intro w' hw' C hC
              go_simp
              try go_bits
              exact hC
            simp only [putS, List.set_cons_succ, List.set_cons_zero]
            refine wpA_value ext_grow ?_ (fun _ _ h => by cases h) rfl rfl ?_ ?_
            rotate_left 1
            · intro w' hw' C hC
              have v0 := (hw'.cell (p := ⟨nb, no + k2 * 7, none⟩) zn).trans m0
              have v1 := (hw'.cell (p := ⟨nb, no + k2 * 7 + 1, none⟩) zn).trans m1
              have v2 := (hw'.cell (p := ⟨nb, no + k2 * 7 + 2, none⟩) zn).trans m2
              have v3 := (hw'.cell (p := ⟨nb, no + k2 * 7 + 3, none⟩) zn).trans m3
              have v4 := (hw'.cell (p := ⟨nb, no + k2 * 7 + 4, none⟩) zn).trans m4
              have v5 := (hw'.cell (p := ⟨nb, no + k2 * 7 + 5, none⟩) zn).trans m5
              have v6 := (hw'.cell (p := ⟨nb, no + k2 * 7 + 6, none⟩) zn).trans m6
              go_simp
              try go_bits
              exact hC
            simp only [putS, List.set_cons_succ, List.set_cons_zero]
            refine wpA_known (.is (.bool true)) (fun _ _ h => by cases h) rfl rfl (mono_is _) (fun w' hw' => ?_) ?_
            · go_simp
              exact ⟨Below.refl _ _, (sameSnapT w' q2 A6 s2.A c6 s2.c ((rd.drew.below hw').more hw'.size) s2.p ((rn2.drew.below hw').more hw'.size) HQ2.out).mono fun e w'' h => is_ret (h.1) h.2⟩
            simp only [putS, List.set_cons_succ, List.set_cons_zero]
            refine wpA_value ext_grow ?_ (fun _ _ h => by cases h) rfl rfl ?_ ?_
            rotate_left 1
            · intro w' hw' C hC
              go_simp
              try go_bits
              exact hC
            simp only [putS, List.set_cons_succ, List.set_cons_zero]
            refine wpA_value ext_grow ?_ (fun _ _ h => by cases h) rfl rfl ?_ ?_
            rotate_left 1
            · intro w' hw' C hC
              go_simp
              try go_bits
              exact hC
            simp only [putS, List.set_cons_succ, List.set_cons_zero]
            refine wpA_value ext_grow ?_ (fun _ _ h => by cases h) rfl rfl ?_ ?_
            rotate_left 1
            · intro w' hw' C hC
              go_simp
              try go_bits
              exact hC
            simp only [putS, List.set_cons_succ, List.set_cons_zero]
            refine wpA_value ext_grow ?_ (fun _ _ h => by cases h) rfl rfl ?_ ?_
            rotate_left 1
            · intro w' hw' C hC
              go_simp
              try go_bits
              exact hC
            simp only [putS, List.set_cons_succ, List.set_cons_zero]
            refine wpA_value ext_grow ?_ (fun _ _ h => by cases h) rfl rfl ?_ ?_
            rotate_left 1
            · intro w' hw' C hC
              go_simp
              try go_bits
              exact hC
            simp only [putS, List.set_cons_succ, List.set_cons_zero]
            refine wpA_value ext_grow ?_ (fun _ _ h => by cases h) rfl rfl ?_ ?_
            rotate_left 1
            · intro w' hw' C hC
              go_simp
              try go_bits
              exact hC
            simp only [putS, List.set_cons_succ, List.set_cons_zero]
            refine wpA_skip rfl rfl ?_
            simp only [putS, List.set_cons_succ, List.set_cons_zero]
            refine wpA_skip rfl rfl ?_
            simp only [putS, List.set_cons_succ, List.set_cons_zero]
            refine wpA_skip rfl rfl ?_
            simp only [putS, List.set_cons_succ, List.set_cons_zero]
            refine wpA_skip rfl rfl ?_
            simp only [putS, List.set_cons_succ, List.set_cons_zero]
            refine wpA_skip rfl rfl ?_
            simp only [putS, List.set_cons_succ, List.set_cons_zero]
            refine wpA_skip rfl rfl ?_
            simp only [putS, List.set_cons_succ, List.set_cons_zero]
            refine wpA_skip rfl rfl ?_
            simp only [putS, List.set_cons_succ, List.set_cons_zero]
            refine wpA_value ext_grow ?_ (fun _ _ h => by cases h) rfl rfl ?_ ?_
            rotate_left 1
            · intro w' hw' C hC
              go_simp
              try go_bits
              exact hC
            simp only [putS, List.set_cons_succ, List.set_cons_zero]
            refine wpA_value ext_grow ?_ (fun _ _ h => by cases h) rfl rfl ?_ ?_
            rotate_left 1
            · intro w' hw' C hC
              go_simp
              try go_bits
              exact hC
            simp only [putS, List.set_cons_succ, List.set_cons_zero]
            refine wpA_value ext_grow ?_ (fun _ _ h => by cases h) rfl rfl ?_ ?_
            rotate_left 1
            · intro w' hw' C hC
              go_simp
              try go_bits
              exact hC
            simp only [putS, List.set_cons_succ, List.set_cons_zero]
            intro we hwe
            simp only [openS]
            go_wp2_with fail
            go_ret
            exact ⟨rfl, below_call HBc.out HBc.out.size (below_of_drew hwe)⟩
        · subst hk hb
          have HQ2 := hide hq2
          clear hq2
          rcases HP3.out with ⟨k3, hk, hb, hk3, hq3, hq4⟩ | ⟨hk, hb, hq3, hq4⟩
          · subst hk hb
            have HQ3 := hide hq3
            have HQ4 := hide hq4
            clear hq3 hq4
            have a0 := HF2.out.Y1.cell 0 _ rfl
            have a1 := HF2.out.Y1.cell 1 _ rfl
            have a2 := HF2.out.Y1.cell 2 _ rfl
            have a3 := HF2.out.Y1.cell 3 _ rfl
            have a4 := HF2.out.Y1.cell 4 _ rfl
            have a5 := HF2.out.Y1.cell 5 _ rfl
            have a6 := HF2.out.Y1.cell 6 _ rfl
            go_wp2_with fail
            refine (sameSnap0 _ q1 A4 c4 HF2.out.r1 HQ1.out).mono ?_
            rintro e wa ⟨rfl, hba⟩
            have HFa := hide (HF2.out.keep hba)
            have HBa := hide (below_call HB2.out HB2.out.size hba)
            clear a0 a1 a2 a3 a4 a5 a6 hba
            have a0 := HFa.out.Y2.cell 0 _ rfl
            have a1 := HFa.out.Y2.cell 1 _ rfl
            have a2 := HFa.out.Y2.cell 2 _ rfl
            have a3 := HFa.out.Y2.cell 3 _ rfl
            have a4 := HFa.out.Y2.cell 4 _ rfl
            have a5 := HFa.out.Y2.cell 5 _ rfl
            have a6 := HFa.out.Y2.cell 6 _ rfl
            go_wp2_with fail
            refine (sameSnap0 _ q2 A6 c6 HFa.out.r2 HQ2.out).mono ?_
            rintro e wb ⟨rfl, hbb⟩
            have HFb := hide (HFa.out.keep hbb)
            have HBb := hide (below_call HBa.out HBa.out.size hbb)
            clear a0 a1 a2 a3 a4 a5 a6 hbb
            obtain ⟨sb, so, rfl, zs, f0, f1⟩ := HFb.out.T.srow.sl hk3
            have rs3 := HFb.out.T.s_at hk3
            generalize ss.getD k3 default = s3 at *
            go_wp2_with fail
            have x0 := HFb.out.X.cell 0 _ rfl
            have x1 := HFb.out.X.cell 1 _ rfl
            have zx := HFb.out.X.z
            have u0 := HFb.out.Y3.cell 0 _ rfl
            have u1 := HFb.out.Y3.cell 1 _ rfl
            have zu := HFb.out.Y3.z
            have ru := HFb.out.r3
            refine wp_region_abs ext_grow (by kernel_rfl) (by kernel_rfl) ?_
            simp only [List.map_cons, List.map_nil]
            refine wpA_value ext_grow ?_ (fun _ _ h => by cases h) rfl rfl ?_ ?_
            rotate_left 1
            · intro w' hw' C hC
              go_simp
              try go_bits
              exact hC
            simp only [putS, List.set_cons_succ, List.set_cons_zero]
            refine wpA_value ext_grow ?_ (fun _ _ h => by cases h) rfl rfl ?_ ?_
            rotate_left 1
            · intro w' hw' C hC
              go_simp
              try go_bits
              exact hC
            simp only [putS, List.set_cons_succ, List.set_cons_zero]
            refine wpA_value ext_grow ?_ (fun _ _ h => by cases h) rfl rfl ?_ ?_
            rotate_left 1
            · intro w' hw' C hC
              go_simp
              try go_bits
              exact hC
            simp only [putS, List.set_cons_succ, List.set_cons_zero]
            refine wpA_skip rfl rfl ?_
            simp only [putS, List.set_cons_succ, List.set_cons_zero]
            refine wpA_skip rfl rfl ?_
            simp only [putS, List.set_cons_succ, List.set_cons_zero]
            refine wpA_skip rfl rfl ?_
            simp only [putS, List.set_cons_succ, List.set_cons_zero]
            refine wpA_skip rfl rfl ?_
            simp only [putS, List.set_cons_succ, List.set_cons_zero]
            refine wpA_skip rfl rfl ?_
            simp only [putS, List.set_cons_succ, List.set_cons_zero]
            refine wpA_skip rfl rfl ?_
            simp only [putS, List.set_cons_succ, List.set_cons_zero]
            refine wpA_skip rfl rfl ?_
            simp only [putS, List.set_cons_succ, List.set_cons_zero]
            refine wpA_value ext_grow ?_ (fun _ _ h => by cases h) rfl rfl ?_ ?_
            rotate_left 1
            · intro w' hw' C hC
              go_simp
              try go_bits
              exact hC
            simp only [putS, List.set_cons_succ, List.set_cons_zero]
            refine wpA_value ext_grow ?_ (fun _ _ h => by cases h) rfl rfl ?_ ?_
            rotate_left 1
            · intro w' hw' C hC
              go_simp
              try go_bits
              exact hC
            simp only [putS, List.set_cons_succ, List.set_cons_zero]
            refine wpA_value ext_grow ?_ (fun _ _ h => by cases h) rfl rfl ?_ ?_
            rotate_left 1
            · intro w' hw' C hC
              go_simp
              try go_bits
              exact hC
            simp only [putS, List.set_cons_succ, List.set_cons_zero]
            refine wpA_value ext_grow ?_ (fun _ _ h => by cases h) rfl rfl ?_ ?_
            rotate_left 1
            · intro w' hw' C hC
              go_simp
              try go_bits
              exact hC
            simp only [putS, List.set_cons_succ, List.set_cons_zero]
            refine wpA_value ext_grow ?_ (fun _ _ h => by cases h) rfl rfl ?_ ?_
            rotate_left 1
            · intro w' hw' C hC
              go_simp
              try go_bits
              exact hC
            simp only [putS, List.set_cons_succ, List.set_cons_zero]
            refine wpA_skip rfl rfl ?_
            simp only [putS, List.set_cons_succ, List.set_cons_zero]
            refine wpA_skip rfl rfl ?_
            simp only [putS, List.set_cons_succ, List.set_cons_zero]
            refine wpA_skip rfl rfl ?_
            simp only [putS, List.set_cons_succ, List.set_cons_zero]
            refine wpA_skip rfl rfl ?_
            simp only [putS, List.set_cons_succ, List.set_cons_zero]
            refine wpA_skip rfl rfl ?_
            simp only [putS, List.set_cons_succ, List.set_cons_zero]
            refine wpA_skip rfl rfl ?_
            simp only [putS, List.set_cons_succ, List.set_cons_zero]
            refine wpA_skip rfl rfl ?_
            simp only [putS, List.set_cons_succ, List.set_cons_zero]
            refine wpA_value ext_grow ?_ (fun _ _ h => by cases h) rfl rfl ?_ ?_
            rotate_left 1
            · intro w' hw' C hC
              go_simp
              try go_bits
              exact hC
            simp only [putS, List.set_cons_succ, List.set_cons_zero]
            refine wpA_value ext_grow ?_ (fun _ _ h => by cases h) rfl rfl ?_ ?_
            rotate_left 1
            · intro w' hw' C hC
              go_simp
              try go_bits
              exact hC
            simp only [putS, List.set_cons_succ, List.set_cons_zero]
            refine wpA_value ext_grow ?_ (fun _ _ h => by cases h) rfl rfl ?_ ?_
            rotate_left 1
            · intro w' hw' C hC
              go_simp
              try go_bits
              exact hC
            simp only [putS, List.set_cons_succ, List.set_cons_zero]
            refine wpA_value ext_grow ?_ (fun _ _ h => by cases h) rfl rfl ?_ ?_
            rotate_left 1
            · intro w' hw' C hC
              go_simp
              try go_bits
              exact hC
            simp only [putS, List.set_cons_succ, List.set_cons_zero]
            refine wpA_value ext_grow ?_ (fun _ _ h => by cases h) rfl rfl ?_ ?_
            rotate_left 1
            · intro w' hw' C hC
              go_simp
              try go_bits
              exact hC
            simp only [putS, List.set_cons_succ, List.set_cons_zero]
            refine wpA_value ext_grow ?_ (fun _ _ h => by cases h) rfl rfl ?_ ?_
            rotate_left 1
            · intro w' hw' C hC
              go_simp
              try go_bits
              exact hC
            simp only [putS, List.set_cons_succ, List.set_cons_zero]
            refine wpA_value ext_grow ?_ (fun _ _ h => by cases h) rfl rfl ?_ ?_
            rotate_left 1
            · intro w' hw' C hC
              have v0 := (hw'.cell (p := ⟨b11, 0, none⟩) zu).trans u0
              have v1 := (hw'.cell (p := ⟨b11, 1, none⟩) zu).trans u1
              go_simp
              try go_bits
              exact hC
            simp only [putS, List.set_cons_succ, List.set_cons_zero]
            refine wpA_value ext_grow ?_ (fun _ _ h => by cases h) rfl rfl ?_ ?_
            rotate_left 1
            · intro w' hw' C hC
              go_simp
              try go_bits
              exact hC
            simp only [putS, List.set_cons_succ, List.set_cons_zero]
            refine wpA_value ext_grow ?_ (fun _ _ h => by cases h) rfl rfl ?_ ?_
            rotate_left 1
            · intro w' hw' C hC
              have v0 := (hw'.cell (p := ⟨bx, 0, none⟩) zx).trans x0
              go_simp
              try go_bits
              exact hC
            simp only [putS, List.set_cons_succ, List.set_cons_zero]
            refine wpA_value ext_grow ?_ (fun _ _ h => by cases h) rfl rfl ?_ ?_
            rotate_left 1
            · intro w' hw' C hC
              go_simp
              try go_bits
              exact hC
            simp only [putS, List.set_cons_succ, List.set_cons_zero]
            refine wpA_value ext_grow ?_ (fun _ _ h => by cases h) rfl rfl ?_ ?_
            rotate_left 1
            · intro w' hw' C hC
              go_simp
              try go_bits
              exact hC
            simp only [putS, List.set_cons_succ, List.set_cons_zero]
            refine wpA_value ext_grow ?_ (fun _ _ h => by cases h) rfl rfl ?_ ?_
            rotate_left 1
            · intro w' hw' C hC
              have v0 := (hw'.cell (p := ⟨sb, so + k3 * 2, none⟩) zs).trans f0
              have v1 := (hw'.cell (p := ⟨sb, so + k3 * 2 + 1, none⟩) zs).trans f1
              go_simp
              try go_bits
              exact hC
            simp only [putS, List.set_cons_succ, List.set_cons_zero]
            refine wpA_known (.is (.bool true)) (fun _ _ h => by cases h) rfl rfl (mono_is _) (fun w' hw' => ?_) ?_
            · go_simp
              exact ⟨Below.refl _ _, (sameSchT w' sid s3.id F s3.A fc s3.c sfs s3.fs ((ru.drew.below hw').more hw'.size) ((rs3.drew.below hw').more hw'.size) HQ3.out HQ4.out).mono fun e w'' h => is_ret (h.1) h.2⟩
            simp only [putS, List.set_cons_succ, List.set_cons_zero]
            refine wpA_value ext_grow ?_ (fun _ _ h => by cases h) rfl rfl ?_ ?_
            rotate_left 1
            · intro w' hw' C hC
              go_simp
              try go_bits
              exact hC
            simp only [putS, List.set_cons_succ, List.set_cons_zero]
            refine wpA_value ext_grow ?_ (fun _ _ h => by cases h) rfl rfl ?_ ?_
            rotate_left 1
            · intro w' hw' C hC
              go_simp
              try go_bits
              exact hC
            simp only [putS, List.set_cons_succ, List.set_cons_zero]
            refine wpA_value ext_grow ?_ (fun _ _ h => by cases h) rfl rfl ?_ ?_
            rotate_left 1
            · intro w' hw' C hC
              go_simp
              try go_bits
              exact hC
            simp only [putS, List.set_cons_succ, List.set_cons_zero]
            intro we hwe
            simp only [openS]
            go_wp2_with fail
            go_ret
            exact ⟨rfl, below_call HBb.out HBb.out.size (below_of_drew hwe)⟩
          · subst hk hb
            have HQ3 := hide hq3
            have HQ4 := hide hq4
            clear hq3 hq4
            have a0 := HF2.out.Y1.cell 0 _ rfl
            have a1 := HF2.out.Y1.cell 1 _ rfl
            have a2 := HF2.out.Y1.cell 2 _ rfl
            have a3 := HF2.out.Y1.cell 3 _ rfl
            have a4 := HF2.out.Y1.cell 4 _ rfl
            have a5 := HF2.out.Y1.cell 5 _ rfl
            have a6 := HF2.out.Y1.cell 6 _ rfl
            go_wp2_with fail
            refine (sameSnap0 _ q1 A4 c4 HF2.out.r1 HQ1.out).mono ?_
            rintro e wa ⟨rfl, hba⟩
            have HFa := hide (HF2.out.keep hba)
            have HBa := hide (below_call HB2.out HB2.out.size hba)
            clear a0 a1 a2 a3 a4 a5 a6 hba
            have a0 := HFa.out.Y2.cell 0 _ rfl
            have a1 := HFa.out.Y2.cell 1 _ rfl
            have a2 := HFa.out.Y2.cell 2 _ rfl
            have a3 := HFa.out.Y2.cell 3 _ rfl
            have a4 := HFa.out.Y2.cell 4 _ rfl
            have a5 := HFa.out.Y2.cell 5 _ rfl
            have a6 := HFa.out.Y2.cell 6 _ rfl
            go_wp2_with fail
            refine (sameSnap0 _ q2 A6 c6 HFa.out.r2 HQ2.out).mono ?_
            rintro e wb ⟨rfl, hbb⟩
            have HFb := hide (HFa.out.keep hbb)
            have HBb := hide (below_call HBa.out HBa.out.size hbb)
            clear a0 a1 a2 a3 a4 a5 a6 hbb
            have a0 := HFb.out.Y3.cell 0 _ rfl
            have a1 := HFb.out.Y3.cell 1 _ rfl
            go_wp2_with fail
            refine (sameSch0 _ sid F fc sfs HFb.out.r3 HQ3.out HQ4.out).mono ?_
            rintro e wf ⟨rfl, hbf⟩
            have HFc := hide (HFb.out.keep hbf)
            have HBc := hide (below_call HBb.out HBb.out.size hbf)
            clear a0 a1 hbf
            go_wp2_with fail
            have x0 := HFc.out.X.cell 0 _ rfl
            have x1 := HFc.out.X.cell 1 _ rfl
            have zx := HFc.out.X.z
            refine wp_region_abs ext_grow (by kernel_rfl) (by kernel_rfl) ?_
            simp only [List.map_cons, List.map_nil]
            refine wpA_value ext_grow ?_ (fun _ _ h => by cases h) rfl rfl ?_ ?_
            rotate_left 1
            · intro w' hw' C hC
              go_simp
              try go_bits
              exact hC
            simp only [putS, List.set_cons_succ, List.set_cons_zero]
            refine wpA_value ext_grow ?_ (fun _ _ h => by cases h) rfl rfl ?_ ?_
            rotate_left 1
            · intro w' hw' C hC
              go_simp
              try go_bits
              exact hC
            simp only [putS, List.set_cons_succ, List.set_cons_zero]
            refine wpA_value ext_grow ?_ (fun _ _ h => by cases h) rfl rfl ?_ ?_
            rotate_left 1
            · intro w' hw' C hC
              go_simp
              try go_bits
              exact hC
            simp only [putS, List.set_cons_succ, List.set_cons_zero]
            refine wpA_skip rfl rfl ?_
            simp only [putS, List.set_cons_succ, List.set_cons_zero]
            refine wpA_skip rfl rfl ?_
            simp only [putS, List.set_cons_succ, List.set_cons_zero]
            refine wpA_skip rfl rfl ?_
            simp only [putS, List.set_cons_succ, List.set_cons_zero]
            refine wpA_skip rfl rfl ?_
            simp only [putS, List.set_cons_succ, List.set_cons_zero]
            refine wpA_skip rfl rfl ?_
            simp only [putS, List.set_cons_succ, List.set_cons_zero]
            refine wpA_skip rfl rfl ?_
            simp only [putS, List.set_cons_succ, List.set_cons_zero]
            refine wpA_skip rfl rfl ?_
            simp only [putS, List.set_cons_succ, List.set_cons_zero]
            refine wpA_value ext_grow ?_ (fun _ _ h => by cases h) rfl rfl ?_ ?_
            rotate_left 1
            · intro w' hw' C hC
              go_simp
              try go_bits
              exact hC
            simp only [putS, List.set_cons_succ, List.set_cons_zero]
            refine wpA_value ext_grow ?_ (fun _ _ h => by cases h) rfl rfl ?_ ?_
            rotate_left 1
            · intro w' hw' C hC
              go_simp
              try go_bits
              exact hC
            simp only [putS, List.set_cons_succ, List.set_cons_zero]
            refine wpA_value ext_grow ?_ (fun _ _ h => by cases h) rfl rfl ?_ ?_
            rotate_left 1
            · intro w' hw' C hC
              go_simp
              try go_bits
              exact hC
            simp only [putS, List.set_cons_succ, List.set_cons_zero]
            refine wpA_value ext_grow ?_ (fun _ _ h => by cases h) rfl rfl ?_ ?_
            rotate_left 1
            · intro w' hw' C hC
              go_simp
              try go_bits
              exact hC
            simp only [putS, List.set_cons_succ, List.set_cons_zero]
            refine wpA_value ext_grow ?_ (fun _ _ h => by cases h) rfl rfl ?_ ?_
            rotate_left 1
            · intro w' hw' C hC
              go_simp
              try go_bits
              exact hC
            simp only [putS, List.set_cons_succ, List.set_cons_zero]
            refine wpA_skip rfl rfl ?_
            simp only [putS, List.set_cons_succ, List.set_cons_zero]
            refine wpA_skip rfl rfl ?_
            simp only [putS, List.set_cons_succ, List.set_cons_zero]
            refine wpA_skip rfl rfl ?_
            simp only [putS, List.set_cons_succ, List.set_cons_zero]
            refine wpA_skip rfl rfl ?_
            simp only [putS, List.set_cons_succ, List.set_cons_zero]
            refine wpA_skip rfl rfl ?_
            simp only [putS, List.set_cons_succ, List.set_cons_zero]
            refine wpA_skip rfl rfl ?_
            simp only [putS, List.set_cons_succ, List.set_cons_zero]
            refine wpA_skip rfl rfl ?_
            simp only [putS, List.set_cons_succ, List.set_cons_zero]
            refine wpA_value ext_grow ?_ (fun _ _ h => by cases h) rfl rfl ?_ ?_
            rotate_left 1
            · intro w' hw' C hC
              go_simp
              try go_bits
              exact hC
            simp only [putS, List.set_cons_succ, List.set_cons_zero]
            refine wpA_value ext_grow ?_ (fun _ _ h => by cases h) rfl rfl ?_ ?_
            rotate_left 1
            · intro w' hw' C hC
              go_simp
              try go_bits
              exact hC
            simp only [putS, List.set_cons_succ, List.set_cons_zero]
            refine wpA_value ext_grow ?_ (fun _ _ h => by cases h) rfl rfl ?_ ?_
            rotate_left 1
            · intro w' hw' C hC
              go_simp
              try go_bits
              exact hC
            simp only [putS, List.set_cons_succ, List.set_cons_zero]
            refine wpA_value ext_grow ?_ (fun _ _ h => by cases h) rfl rfl ?_ ?_
            rotate_left 1
            · intro w' hw' C hC
              go_simp
              try go_bits
              exact hC
            simp only [putS, List.set_cons_succ, List.set_cons_zero]
            refine wpA_value ext_grow ?_ (fun _ _ h => by cases h) rfl rfl ?_ ?_
            rotate_left 1
            · intro w' hw' C hC
              go_simp
              try go_bits
              exact hC
            simp only [putS, List.set_cons_succ, List.set_cons_zero]
            refine wpA_value ext_grow ?_ (fun _ _ h => by cases h) rfl rfl ?_ ?_
            rotate_left 1
            · intro w' hw' C hC
              go_simp
              try go_bits
              exact hC
            simp only [putS, List.set_cons_succ, List.set_cons_zero]
            refine wpA_skip rfl rfl ?_
            simp only [putS, List.set_cons_succ, List.set_cons_zero]
            refine wpA_skip rfl rfl ?_
            simp only [putS, List.set_cons_succ, List.set_cons_zero]
            refine wpA_skip rfl rfl ?_
            simp only [putS, List.set_cons_succ, List.set_cons_zero]
            refine wpA_skip rfl rfl ?_
            simp only [putS, List.set_cons_succ, List.set_cons_zero]
            refine wpA_skip rfl rfl ?_
            simp only [putS, List.set_cons_succ, List.set_cons_zero]
            refine wpA_skip rfl rfl ?_
            simp only [putS, List.set_cons_succ, List.set_cons_zero]
            refine wpA_skip rfl rfl ?_
            simp only [putS, List.set_cons_succ, List.set_cons_zero]
            refine wpA_value ext_grow ?_ (fun _ _ h => by cases h) rfl rfl ?_ ?_
            rotate_left 1
            · intro w' hw' C hC
              go_simp
              try go_bits
              exact hC
            simp only [putS, List.set_cons_succ, List.set_cons_zero]
            refine wpA_value ext_grow ?_ (fun _ _ h => by cases h) rfl rfl ?_ ?_
            rotate_left 1
            · intro w' hw' C hC
              go_simp
              try go_bits
              exact hC
            simp only [putS, List.set_cons_succ, List.set_cons_zero]
            refine wpA_value ext_grow ?_ (fun _ _ h => by cases h) rfl rfl ?_ ?_
            rotate_left 1
            · intro w' hw' C hC
              go_simp
              try go_bits
              exact hC
            simp only [putS, List.set_cons_succ, List.set_cons_zero]
            intro we hwe
            simp only [openS]
            go_wp2_with fail
            go_ret
            exact ⟨rfl, below_call HBc.out HBc.out.size (below_of_drew hwe)⟩

set_option maxRecDepth 100000 in
theorem lifted (os : Os) (started : os.Started) (H : Type) (enc : TypeId × Value → H) :
    ReturnsInHanded {} Try.checked os 9 .any (Rows.metaFindsSpec.pre6 enc Try.prog Try.f9 Rows.metaFindsRow.domain false) (Rows.metaFindsSpec.post enc Try.prog Try.f9 false true false false) := by
  refine returnsInHanded_of_change (C := Try.checked) own started (by kernel_rfl) Try.func9
    (ChangeSpec.witness6 (enc := enc) (C := Try.checked) false ⟨#[], #[.agg #[.slice none 0 0, .slice none 0 0, .int .u64 0], .int .u64 0, .int .u32 0], []⟩ 8 (by kernel_rfl) (by kernel_rfl) (by kernel_rfl) (by kernel_rfl)) ?_
  intro W base args ds gs before hval0 hW hcnd _
  have hval : ∀ (j : Nat) t v, Try.f9.params[j]? = some t → args[j]? = some v → Value.okWide Try.prog W .any base t v := hval0
  have hW' := hW
  obtain ⟨p, q, hA0, hV, rfl, hfz, hnd⟩ := hW
  have hA : DataW.TrodAll enc Try.prog W 0 (fun _ => true) true Try.f9.params.toList args.toList ds p := hA0
  rw [Try.params9] at hA hval
  obtain ⟨v0, vs0, d0, ds0, p0, q0, hargs, rfl, rfl, h0, r0⟩ := trodAll_cons hA
  obtain ⟨v1, vs1, d1, ds1, p1, q1, rfl, rfl, rfl, h1, r1⟩ := trodAll_cons r0
  obtain ⟨v2, vs2, d2, ds2, p2, q2, rfl, rfl, rfl, h2, r2⟩ := trodAll_cons r1
  obtain ⟨rfl, rfl, rfl⟩ := trodAll_nil r2
  obtain rfl : args = #[v0, v1, v2] := by cases args; simp_all
  obtain ⟨rfl, rfl⟩ := trodVars_none hV
  have k0 := h0
  have lt0 : ∀ x ∈ p0, x.block < W.heap.size := by obtain ⟨m, hm⟩ := k0; exact DataW.trod_lt m _ _ _ hm
  have k1 := h1
  have lt1 : ∀ x ∈ p1, x.block < W.heap.size := by obtain ⟨m, hm⟩ := k1; exact DataW.trod_lt m _ _ _ hm
  have k2 := h2
  have lt2 : ∀ x ∈ p2, x.block < W.heap.size := by obtain ⟨m, hm⟩ := k2; exact DataW.trod_lt m _ _ _ hm
  obtain ⟨sA0, sc0, ss0, nA0, nc0, ns0, cur0, rfl, w0⟩ := frame_table (hval 0 70 v0 rfl rfl) h0
  obtain ⟨a1, rfl, hd1, hp1, w1⟩ := open_int Try.underlying68 (hval 1 68 v1 rfl rfl) h1
  obtain ⟨a2, rfl, hd2, hp2, w2⟩ := open_int Try.underlying22 (hval 2 22 v2 rfl rfl) h2
  clear hA0 hval0
  refine (walk W sA0 sc0 ss0 nA0 nc0 ns0 cur0 w0 a1 (bounds_u64 w1).1 (bounds_u64 w1).2 a2 (bounds_u32 w2).1 (bounds_u32 w2).2).mono fun e W' ⟨he, bel⟩ => ?_
  subst he
  exact ⟨_, rfl, _, _, _, [], _, [], hW', trodAll_mk1 (shut_bool Try.underlying4 _), (trodAll_cons_mk (Below.trod laidOut (by kernel_rfl) (of_decide_eq_true (by kernel_rfl)) k0 bel lt0) (trodAll_cons_mk (Below.trod laidOut (by kernel_rfl) (of_decide_eq_true (by kernel_rfl)) k1 bel lt1) (trodAll_cons_mk (Below.trod laidOut (by kernel_rfl) (of_decide_eq_true (by kernel_rfl)) k2 bel lt2) trodAll_mk0))), rfl, bel.frame _, fun h => by cases h⟩

theorem over : Rows.metaFindsRow.holds Try.pinned (OpenSpec.ofChange Rows.metaFindsSpec) :=
  OpenClaim.holds_of_wide 9 Try.f9 rfl rfl rfl rfl rfl rfl rfl ⟨rfl, rfl, rfl, rfl, rfl⟩ rfl rfl rfl rfl rfl (by kernel_rfl) Try.func9 (by kernel_rfl)
    (of_decide_eq_true (by kernel_rfl)) (by unfold Func.isWrapper; first | (rw [if_pos (by decide +kernel)]; kernel_rfl) | (rw [if_neg (by decide +kernel)]; exact ⟨rfl, rfl⟩))
    (fun os started H enc _ => lifted os started H enc)

theorem proved : Rows.MetaFindsSaid := over
#print axioms proved
end Go.Proofs.Ytlccpchlclpnaaa.metaFinds
