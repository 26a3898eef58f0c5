/- MetaSteps: for every input the law returns true, and what was there is as it was. No condition. -/
import Derived.Test.YtlccpchlclpnaaaRows
import Derived.Test.YtlccpchlclpnaaaFrame
import Derived.Test.YtlccpchlclpnaaaFrameM
import Derived.Test.YtlccpchlclpnaaaMetaSW
namespace Go.Proofs.Ytlccpchlclpnaaa.metaSteps
open Go.Proofs.Ytlccpchlclpnaaa
open Go.ChangeShapes Go.WideShapes Go.ChangeAt Go.RowKit
open Go.ChangeMaps (open_string shut_string)

theorem own : ownKnob Try.prog.godebug = none := by kernel_rfl
theorem laidOut : laidOutB Try.prog = true := by kernel_rfl

set_option maxRecDepth 100000 in
set_option maxHeartbeats 8000000 in
theorem walk (w : World) (sA : Option Addr) (sc : Nat) (ss : List Sl) (nA : Option Addr) (nc : Nat) (ns : List Nl) (cur : UInt64) (hT : TabR w w.heap.size sA sc ss nA nc ns) (p : Sn) (pA : Option Addr) (pc : Nat) (hp : Rd w w.heap.size 1 pA p.ms.length pc (strsV p.ms))
    (sid : UInt32) (fA : Option Addr) (fn fc : Nat) (sfs : List Fd) (hq : Rd w w.heap.size 4 fA fn fc (fdsV sfs)) (iA : Option Addr) (zn ic : Nat) (zs : List Int) (hi : Rd w w.heap.size 1 iA zn ic (zs.map (.int .u64))) (hz : ∀ z ∈ zs, 0 ≤ z ∧ z ≤ 18446744073709551615) :
    Calls Try.prog 10 #[.agg #[.slice sA ss.length sc, .slice nA ns.length nc, .int .u64 (cur.toNat : Int)], .agg #[.int .u64 (p.id.toNat : Int), .int .u64 (p.par.toNat : Int), .int .u64 (p.seq.toNat : Int), .int .u64 (p.off.toNat : Int), .int .u64 (p.tim.toNat : Int), .int .u32 (p.sch.toNat : Int), .slice pA p.ms.length pc], .agg #[.int .u32 (sid.toNat : Int), .slice fA fn fc], .slice iA zn ic] w (RetVal w (.bool true)) := by
  obtain rfl := hq.lenF
  obtain ⟨ids, rfl, hri⟩ := ids_of hi hz
  clear hi hz
  go_enter Try.func10, Try.ntmps10
  go_wp2_with fail
  have x1 := boxN_new w #[.slice sA ss.length sc, .slice nA ns.length nc, .int .u64 (cur.toNat : Int)] 70
  have hb1 := (Below.refl w.heap.size w).alloc (Nat.le_refl _) (.cells #[.slice sA ss.length sc, .slice nA ns.length nc, .int .u64 (cur.toNat : Int)] 70)
  have hz1 : (w.alloc (.cells #[.slice sA ss.length sc, .slice nA ns.length nc, .int .u64 (cur.toNat : Int)] 70)).heap.size = w.heap.size + 1 := by simp
  generalize w.alloc (.cells #[.slice sA ss.length sc, .slice nA ns.length nc, .int .u64 (cur.toNat : Int)] 70) = w1 at *
  have x2 := boxN_new w1 #[.int .u64 (p.id.toNat : Int), .int .u64 (p.par.toNat : Int), .int .u64 (p.seq.toNat : Int), .int .u64 (p.off.toNat : Int), .int .u64 (p.tim.toNat : Int), .int .u32 (p.sch.toNat : Int), .slice pA p.ms.length pc] 73
  have hb2 := (Below.refl w1.heap.size w1).alloc (Nat.le_refl _) (.cells #[.int .u64 (p.id.toNat : Int), .int .u64 (p.par.toNat : Int), .int .u64 (p.seq.toNat : Int), .int .u64 (p.off.toNat : Int), .int .u64 (p.tim.toNat : Int), .int .u32 (p.sch.toNat : Int), .slice pA p.ms.length pc] 73)
  have hz2 : (w1.alloc (.cells #[.int .u64 (p.id.toNat : Int), .int .u64 (p.par.toNat : Int), .int .u64 (p.seq.toNat : Int), .int .u64 (p.off.toNat : Int), .int .u64 (p.tim.toNat : Int), .int .u32 (p.sch.toNat : Int), .slice pA p.ms.length pc] 73)).heap.size = w1.heap.size + 1 := by simp
  generalize w1.alloc (.cells #[.int .u64 (p.id.toNat : Int), .int .u64 (p.par.toNat : Int), .int .u64 (p.seq.toNat : Int), .int .u64 (p.off.toNat : Int), .int .u64 (p.tim.toNat : Int), .int .u32 (p.sch.toNat : Int), .slice pA p.ms.length pc] 73) = w2 at *
  have x3 := boxN_new w2 #[.int .u32 (sid.toNat : Int), .slice fA sfs.length fc] 25
  have hb3 := (Below.refl w2.heap.size w2).alloc (Nat.le_refl _) (.cells #[.int .u32 (sid.toNat : Int), .slice fA sfs.length fc] 25)
  generalize w2.alloc (.cells #[.int .u32 (sid.toNat : Int), .slice fA sfs.length fc] 25) = w3 at *
  rw [← hz1, ← hz2]
  have hB12 := below_call hb1 hb1.size hb2
  have hB := below_call hB12 hB12.size hb3
  have BB : StepB w3 w.heap.size w1.heap.size w2.heap.size sA sc ss nA nc ns cur.toNat p pA pc sid sfs fA fc ids iA ic :=
    ⟨⟨(x1.keep hb2 x1.z).keep hb3 (x1.keep hb2 x1.z).z, hT.later hB⟩, x2.keep hb3 x2.z, x3, (hp.below hB).more hB.size, (hq.below hB).more hB.size, (hri.below hB).more hB.size⟩
  clear x1 x2 x3 hb1 hb2 hb3 hz1 hz2 hB12 hT hp hq hri
  obtain ⟨b4, hb4e⟩ : ∃ b, b = w.heap.size := ⟨_, rfl⟩
  rw [← hb4e] at BB ⊢
  generalize w1.heap.size = b5 at *
  generalize w2.heap.size = b6 at *
  clear hb4e
  have HS := hide BB
  have HB := hide hB
  clear BB hB
  refine (alive14 w3).mono ?_
  rintro e w4 ⟨rfl, hb⟩
  replace HS := hide (HS.out.keep hb)
  replace HB := hide (below_call HB.out HB.out.size hb)
  clear hb
  have c0 := HS.out.t.bx.cell 0 _ rfl
  have c1 := HS.out.t.bx.cell 1 _ rfl
  have c2 := HS.out.t.bx.cell 2 _ rfl
  go_wp2_with fail
  refine (refGreat14 w4 sA sc ss nA nc ns cur.toNat HS.out.t.tab).mono ?_
  rintro e w5 ⟨g, rfl, hsm, hb⟩
  replace HS := hide (HS.out.keep hb)
  replace HB := hide (below_call HB.out HB.out.size hb)
  clear hb c0 c1 c2
  cases g with
  | true =>
    go_wp2_with fail
    go_ret
    exact ⟨rfl, HB.out⟩
  | false =>
    have hsm1 := hide (hsm rfl)
    clear hsm
    have p0 := HS.out.s.cell 0 _ rfl
    have p1 := HS.out.s.cell 1 _ rfl
    have p2 := HS.out.s.cell 2 _ rfl
    have p3 := HS.out.s.cell 3 _ rfl
    have p4 := HS.out.s.cell 4 _ rfl
    have p5 := HS.out.s.cell 5 _ rfl
    have p6 := HS.out.s.cell 6 _ rfl
    go_wp2_with fail
    refine (refGreatSnap _ p pA pc HS.out.rs).mono ?_
    rintro e w6 ⟨g, rfl, hsm, hb⟩
    replace HS := hide (HS.out.keep hb)
    replace HB := hide (below_call HB.out HB.out.size hb)
    clear hb p0 p1 p2 p3 p4 p5 p6
    cases g with
    | true =>
      go_wp2_with fail
      go_ret
      exact ⟨rfl, HB.out⟩
    | false =>
      have hsm2 := hide (hsm rfl)
      clear hsm
      have s0 := HS.out.h.cell 0 _ rfl
      have s1 := HS.out.h.cell 1 _ rfl
      go_wp2_with fail
      refine (refGreat _ sid _ fc fA sfs HS.out.rh).mono ?_
      rintro e w7 ⟨g, rfl, hsm, hb⟩
      replace HS := hide (HS.out.keep hb)
      replace HB := hide (below_call HB.out HB.out.size hb)
      clear hb s0 s1
      cases g with
      | true =>
        go_wp2_with fail
        go_ret
        exact ⟨rfl, HB.out⟩
      | false =>
        have hsm3 := hide (hsm rfl)
        clear hsm
        by_cases hn : 100 < ids.length
        · have t1 : decide ((100 : Int) < (ids.length : Int)) = true := decide_eq_true (by omega)
          clear hn
          go_wp2_with fail
          go_ret
          exact ⟨rfl, HB.out⟩
        have t1 : decide ((100 : Int) < (ids.length : Int)) = false := decide_eq_false (by omega)
        have hi : ids.length ≤ 1000000 := by omega
        clear hn
        have h1 : ss.length ≤ 1000000 := by have := hsm1.out.1; omega
        have h2 : ∀ s ∈ ss, s.fs.length ≤ 1000000 := fun s hs => by
          obtain ⟨j, hj, rfl⟩ := List.mem_iff_getElem.1 hs
          have h := (hsm1.out.2.2.1 j hj).1
          rw [getD_at _ _ hj] at h
          omega
        have h3 : ns.length ≤ 1000000 := by have := hsm1.out.2.1; omega
        have h4 : ∀ s ∈ ns, s.p.ms.length ≤ 1000000 := fun s hs => by
          obtain ⟨j, hj, rfl⟩ := List.mem_iff_getElem.1 hs
          have h := (hsm1.out.2.2.2 j hj).1
          rw [getD_at _ _ hj] at h
          omega
        have hms : ∀ s ∈ ns, ∀ m ∈ s.p.ms, m.size ≤ 9223372036854775807 := fun s hs m hm => by
          obtain ⟨j, hj, rfl⟩ := List.mem_iff_getElem.1 hs
          obtain ⟨k, hk, rfl⟩ := List.mem_iff_getElem.1 hm
          have h := (hsm1.out.2.2.2 j hj).2
          rw [getD_at _ _ hj] at h
          have h := h k hk
          rw [getD_at _ _ hk] at h
          omega
        have hpl : p.ms.length ≤ 1000000 := by have := hsm2.out.1; omega
        have hpm : ∀ m ∈ p.ms, m.size ≤ 9223372036854775807 := fun m hm => by
          obtain ⟨k, hk, rfl⟩ := List.mem_iff_getElem.1 hm
          have h := hsm2.out.2 k hk
          rw [getD_at _ _ hk] at h
          omega
        have hfl : sfs.length ≤ 1000000 := by have := hsm3.out.1; omega
        have HZ := hide (And.intro h1 (And.intro h2 (And.intro h3 (And.intro h4 (And.intro hms (And.intro hpl (And.intro hpm (And.intro hfl hi))))))))
        clear hsm1 hsm2 hsm3 h1 h2 h3 h4 hms hpl hpm hfl hi
        obtain ⟨e1, k1, n1, u1, hr1⟩ := res_split (pushT (ss.map plS) (ns.map plN) p)
        obtain ⟨e2, k2, n2, u2, hr2⟩ := res_split (growT (ss.map plS) (ns.map plN) cur.toNat (sid, sfs))
        obtain ⟨e3, k3, n3, u3, hr3⟩ := res_split (dropT (ss.map plS) (ns.map plN) cur ids)
        have HR1 := hide hr1
        have HR2 := hide hr2
        have HR3 := hide hr3
        clear hr1 hr2 hr3
        have c0 := HS.out.t.bx.cell 0 _ rfl
        have c1 := HS.out.t.bx.cell 1 _ rfl
        have c2 := HS.out.t.bx.cell 2 _ rfl
        have p0 := HS.out.s.cell 0 _ rfl
        have p1 := HS.out.s.cell 1 _ rfl
        have p2 := HS.out.s.cell 2 _ rfl
        have p3 := HS.out.s.cell 3 _ rfl
        have p4 := HS.out.s.cell 4 _ rfl
        have p5 := HS.out.s.cell 5 _ rfl
        have p6 := HS.out.s.cell 6 _ rfl
        go_wp2_with fail
        refine (metaPush _ sA sc ss nA nc ns cur.toNat HS.out.t.tab HZ.out.1 HZ.out.2.1 HZ.out.2.2.1 HZ.out.2.2.2.1 p pA pc HS.out.rs HZ.out.2.2.2.2.2.1).mono ?_
        intro e v0 hres
        replace hres := push_res hres
        rw [HR1.out] at hres
        obtain ⟨a0, z0, r0, m0, d0, y0, rfl, hTt, hsm, hnm, hb⟩ := hres
        dsimp only
        have HM0 := hide (And.intro hsm hnm)
        replace hTt := hTt
        clear hsm hnm c0 c1 c2 p0 p1 p2 p3 p4 p5 p6
        replace HS := hide (HS.out.keep hb)
        replace HB := hide (below_call HB.out HB.out.size hb)
        have hbA := (Below.refl v0.heap.size v0).alloc (Nat.le_refl _) (.cells #[.slice a0 r0.length z0, .slice m0 y0.length d0, .int .u64 (u1 : Int)] 70)
        have HT0 := hide (TBox.new hTt u1)
        clear hTt hb
        replace HS := hide (HS.out.keep hbA)
        replace HB := hide (below_call HB.out HB.out.size hbA)
        clear hbA
        have c0 := HS.out.t.bx.cell 0 _ rfl
        have c1 := HS.out.t.bx.cell 1 _ rfl
        have c2 := HS.out.t.bx.cell 2 _ rfl
        have p0 := HS.out.s.cell 0 _ rfl
        have p1 := HS.out.s.cell 1 _ rfl
        have p2 := HS.out.s.cell 2 _ rfl
        have p3 := HS.out.s.cell 3 _ rfl
        have p4 := HS.out.s.cell 4 _ rfl
        have p5 := HS.out.s.cell 5 _ rfl
        have p6 := HS.out.s.cell 6 _ rfl
        go_wp2_with fail
        generalize v0.alloc (.cells #[.slice a0 r0.length z0, .slice m0 y0.length d0, .int .u64 (u1 : Int)] 70) = w0 at *
        generalize v0.heap.size = t0 at *
        refine (refPush _ sA sc ss nA nc ns cur.toNat HS.out.t.tab HZ.out.1 HZ.out.2.2.1 HZ.out.2.2.2.2.1 p pA pc HS.out.rs HZ.out.2.2.2.2.2.2.1).mono ?_
        intro e v1 hres
        replace hres := rpush_res hres
        rw [HR1.out] at hres
        obtain ⟨a1, z1, r1, m1, d1, y1, rfl, hTt, hsm, hnm, hb⟩ := hres
        dsimp only
        have HM1 := hide (And.intro hsm hnm)
        replace hTt := hTt
        clear hsm hnm c0 c1 c2 p0 p1 p2 p3 p4 p5 p6
        replace HS := hide (HS.out.keep hb)
        replace HB := hide (below_call HB.out HB.out.size hb)
        replace HT0 := hide (HT0.out.keep hb)
        have hbA := (Below.refl v1.heap.size v1).alloc (Nat.le_refl _) (.cells #[.slice a1 r1.length z1, .slice m1 y1.length d1, .int .u64 (u1 : Int)] 70)
        have HT1 := hide (TBox.new hTt u1)
        clear hTt hb
        replace HS := hide (HS.out.keep hbA)
        replace HB := hide (below_call HB.out HB.out.size hbA)
        replace HT0 := hide (HT0.out.keep hbA)
        clear hbA
        have c0 := HS.out.t.bx.cell 0 _ rfl
        have c1 := HS.out.t.bx.cell 1 _ rfl
        have c2 := HS.out.t.bx.cell 2 _ rfl
        have s0 := HS.out.h.cell 0 _ rfl
        have s1 := HS.out.h.cell 1 _ rfl
        go_wp2_with fail
        generalize v1.alloc (.cells #[.slice a1 r1.length z1, .slice m1 y1.length d1, .int .u64 (u1 : Int)] 70) = w1 at *
        generalize v1.heap.size = t1 at *
        refine (metaGrow _ sA sc ss nA nc ns cur.toNat HS.out.t.tab HZ.out.1 HZ.out.2.1 HZ.out.2.2.1 HZ.out.2.2.2.1 sid sfs fA fc HS.out.rh HZ.out.2.2.2.2.2.2.2.1).mono ?_
        intro e v2 hres
        replace hres := grow_res hres
        rw [HR2.out] at hres
        obtain ⟨a2, z2, r2, m2, d2, y2, rfl, hTt, hsm, hnm, hb⟩ := hres
        dsimp only
        have HM2 := hide (And.intro hsm hnm)
        replace hTt := hTt
        clear hsm hnm c0 c1 c2 s0 s1
        replace HS := hide (HS.out.keep hb)
        replace HB := hide (below_call HB.out HB.out.size hb)
        replace HT0 := hide (HT0.out.keep hb)
        replace HT1 := hide (HT1.out.keep hb)
        have hbA := (Below.refl v2.heap.size v2).alloc (Nat.le_refl _) (.cells #[.slice a2 r2.length z2, .slice m2 y2.length d2, .int .u64 (u2 : Int)] 70)
        have HT2 := hide (TBox.new hTt u2)
        clear hTt hb
        replace HS := hide (HS.out.keep hbA)
        replace HB := hide (below_call HB.out HB.out.size hbA)
        replace HT0 := hide (HT0.out.keep hbA)
        replace HT1 := hide (HT1.out.keep hbA)
        clear hbA
        have c0 := HS.out.t.bx.cell 0 _ rfl
        have c1 := HS.out.t.bx.cell 1 _ rfl
        have c2 := HS.out.t.bx.cell 2 _ rfl
        have s0 := HS.out.h.cell 0 _ rfl
        have s1 := HS.out.h.cell 1 _ rfl
        go_wp2_with fail
        generalize v2.alloc (.cells #[.slice a2 r2.length z2, .slice m2 y2.length d2, .int .u64 (u2 : Int)] 70) = w2 at *
        generalize v2.heap.size = t2 at *
        refine (refGrow _ sA sc ss nA nc ns cur.toNat HS.out.t.tab HZ.out.1 HZ.out.2.2.1 HZ.out.2.2.2.2.1 sid sfs fA fc HS.out.rh).mono ?_
        intro e v3 hres
        replace hres := rgrow_res hres
        rw [HR2.out] at hres
        obtain ⟨a3, z3, r3, m3, d3, y3, rfl, hTt, hsm, hnm, hb⟩ := hres
        dsimp only
        have HM3 := hide (And.intro hsm hnm)
        replace hTt := hTt
        clear hsm hnm c0 c1 c2 s0 s1
        replace HS := hide (HS.out.keep hb)
        replace HB := hide (below_call HB.out HB.out.size hb)
        replace HT0 := hide (HT0.out.keep hb)
        replace HT1 := hide (HT1.out.keep hb)
        replace HT2 := hide (HT2.out.keep hb)
        have hbA := (Below.refl v3.heap.size v3).alloc (Nat.le_refl _) (.cells #[.slice a3 r3.length z3, .slice m3 y3.length d3, .int .u64 (u2 : Int)] 70)
        have HT3 := hide (TBox.new hTt u2)
        clear hTt hb
        replace HS := hide (HS.out.keep hbA)
        replace HB := hide (below_call HB.out HB.out.size hbA)
        replace HT0 := hide (HT0.out.keep hbA)
        replace HT1 := hide (HT1.out.keep hbA)
        replace HT2 := hide (HT2.out.keep hbA)
        clear hbA
        have c0 := HS.out.t.bx.cell 0 _ rfl
        have c1 := HS.out.t.bx.cell 1 _ rfl
        have c2 := HS.out.t.bx.cell 2 _ rfl
        go_wp2_with fail
        generalize v3.alloc (.cells #[.slice a3 r3.length z3, .slice m3 y3.length d3, .int .u64 (u2 : Int)] 70) = w3 at *
        generalize v3.heap.size = t3 at *
        refine (metaDrop _ sA sc ss nA nc ns cur HS.out.t.tab HZ.out.1 HZ.out.2.1 HZ.out.2.2.1 HZ.out.2.2.2.1 ids iA ic HS.out.ri HZ.out.2.2.2.2.2.2.2.2).mono ?_
        intro e v4 hres
        replace hres := drop_res hres
        rw [HR3.out] at hres
        obtain ⟨a4, z4, r4, m4, d4, y4, rfl, hTt, hsm, hnm, hb⟩ := hres
        dsimp only
        have HM4 := hide (And.intro hsm hnm)
        replace hTt := hTt
        clear hsm hnm c0 c1 c2 
        replace HS := hide (HS.out.keep hb)
        replace HB := hide (below_call HB.out HB.out.size hb)
        replace HT0 := hide (HT0.out.keep hb)
        replace HT1 := hide (HT1.out.keep hb)
        replace HT2 := hide (HT2.out.keep hb)
        replace HT3 := hide (HT3.out.keep hb)
        have hbA := (Below.refl v4.heap.size v4).alloc (Nat.le_refl _) (.cells #[.slice a4 r4.length z4, .slice m4 y4.length d4, .int .u64 (u3 : Int)] 70)
        have HT4 := hide (TBox.new hTt u3)
        clear hTt hb
        replace HS := hide (HS.out.keep hbA)
        replace HB := hide (below_call HB.out HB.out.size hbA)
        replace HT0 := hide (HT0.out.keep hbA)
        replace HT1 := hide (HT1.out.keep hbA)
        replace HT2 := hide (HT2.out.keep hbA)
        replace HT3 := hide (HT3.out.keep hbA)
        clear hbA
        have c0 := HS.out.t.bx.cell 0 _ rfl
        have c1 := HS.out.t.bx.cell 1 _ rfl
        have c2 := HS.out.t.bx.cell 2 _ rfl
        go_wp2_with fail
        generalize v4.alloc (.cells #[.slice a4 r4.length z4, .slice m4 y4.length d4, .int .u64 (u3 : Int)] 70) = w4 at *
        generalize v4.heap.size = t4 at *
        refine (refDrop _ sA sc ss nA nc ns cur HS.out.t.tab HZ.out.2.2.1 ids iA ic HS.out.ri HZ.out.2.2.2.2.2.2.2.2).mono ?_
        intro e v5 hres
        replace hres := rdrop_res hres
        rw [HR3.out] at hres
        obtain ⟨a5, z5, r5, m5, d5, y5, rfl, hTt, hsm, hnm, hb⟩ := hres
        dsimp only
        have HM5 := hide (And.intro hsm hnm)
        replace hTt := hTt
        clear hsm hnm c0 c1 c2 
        replace HS := hide (HS.out.keep hb)
        replace HB := hide (below_call HB.out HB.out.size hb)
        replace HT0 := hide (HT0.out.keep hb)
        replace HT1 := hide (HT1.out.keep hb)
        replace HT2 := hide (HT2.out.keep hb)
        replace HT3 := hide (HT3.out.keep hb)
        replace HT4 := hide (HT4.out.keep hb)
        have hbA := (Below.refl v5.heap.size v5).alloc (Nat.le_refl _) (.cells #[.slice a5 r5.length z5, .slice m5 y5.length d5, .int .u64 (u3 : Int)] 70)
        have HT5 := hide (TBox.new hTt u3)
        clear hTt hb
        replace HS := hide (HS.out.keep hbA)
        replace HB := hide (below_call HB.out HB.out.size hbA)
        replace HT0 := hide (HT0.out.keep hbA)
        replace HT1 := hide (HT1.out.keep hbA)
        replace HT2 := hide (HT2.out.keep hbA)
        replace HT3 := hide (HT3.out.keep hbA)
        replace HT4 := hide (HT4.out.keep hbA)
        clear hbA

        have f0 := HT0.out.bx.cell 0 _ rfl
        have f1 := HT0.out.bx.cell 1 _ rfl
        have f2 := HT0.out.bx.cell 2 _ rfl
        have g0 := HT1.out.bx.cell 0 _ rfl
        have g1 := HT1.out.bx.cell 1 _ rfl
        have g2 := HT1.out.bx.cell 2 _ rfl
        go_wp2_with fail
        generalize v5.alloc (.cells #[.slice a5 r5.length z5, .slice m5 y5.length d5, .int .u64 (u3 : Int)] 70) = w5' at *
        generalize v5.heap.size = t5 at *
        refine (refSameT _ a0 a1 z0 z1 r0 r1 m0 m1 d0 d1 y0 y1 u1 HT0.out.tab HT1.out.tab (HM0.out.1.trans HM1.out.1.symm) (HM0.out.2.trans HM1.out.2.symm)).mono ?_
        rintro e x0 ⟨rfl, hb⟩
        clear f0 f1 f2 g0 g1 g2
        replace HS := hide (HS.out.keep hb)
        replace HB := hide (below_call HB.out HB.out.size hb)
        replace HT0 := hide (HT0.out.keep hb)
        replace HT1 := hide (HT1.out.keep hb)
        replace HT2 := hide (HT2.out.keep hb)
        replace HT3 := hide (HT3.out.keep hb)
        replace HT4 := hide (HT4.out.keep hb)
        replace HT5 := hide (HT5.out.keep hb)
        clear hb
        have f0 := HT2.out.bx.cell 0 _ rfl
        have f1 := HT2.out.bx.cell 1 _ rfl
        have f2 := HT2.out.bx.cell 2 _ rfl
        have g0 := HT3.out.bx.cell 0 _ rfl
        have g1 := HT3.out.bx.cell 1 _ rfl
        have g2 := HT3.out.bx.cell 2 _ rfl
        go_wp2_with fail
        refine (refSameT _ a2 a3 z2 z3 r2 r3 m2 m3 d2 d3 y2 y3 u2 HT2.out.tab HT3.out.tab (HM2.out.1.trans HM3.out.1.symm) (HM2.out.2.trans HM3.out.2.symm)).mono ?_
        rintro e x1 ⟨rfl, hb⟩
        clear f0 f1 f2 g0 g1 g2
        replace HS := hide (HS.out.keep hb)
        replace HB := hide (below_call HB.out HB.out.size hb)
        replace HT0 := hide (HT0.out.keep hb)
        replace HT1 := hide (HT1.out.keep hb)
        replace HT2 := hide (HT2.out.keep hb)
        replace HT3 := hide (HT3.out.keep hb)
        replace HT4 := hide (HT4.out.keep hb)
        replace HT5 := hide (HT5.out.keep hb)
        clear hb
        have f0 := HT4.out.bx.cell 0 _ rfl
        have f1 := HT4.out.bx.cell 1 _ rfl
        have f2 := HT4.out.bx.cell 2 _ rfl
        have g0 := HT5.out.bx.cell 0 _ rfl
        have g1 := HT5.out.bx.cell 1 _ rfl
        have g2 := HT5.out.bx.cell 2 _ rfl
        go_wp2_with fail
        refine (refSameT _ a4 a5 z4 z5 r4 r5 m4 m5 d4 d5 y4 y5 u3 HT4.out.tab HT5.out.tab (HM4.out.1.trans HM5.out.1.symm) (HM4.out.2.trans HM5.out.2.symm)).mono ?_
        rintro e x2 ⟨rfl, hb⟩
        clear f0 f1 f2 g0 g1 g2
        replace HS := hide (HS.out.keep hb)
        replace HB := hide (below_call HB.out HB.out.size hb)
        replace HT0 := hide (HT0.out.keep hb)
        replace HT1 := hide (HT1.out.keep hb)
        replace HT2 := hide (HT2.out.keep hb)
        replace HT3 := hide (HT3.out.keep hb)
        replace HT4 := hide (HT4.out.keep hb)
        replace HT5 := hide (HT5.out.keep hb)
        clear hb
        have c0 := HS.out.t.bx.cell 0 _ rfl
        have c1 := HS.out.t.bx.cell 1 _ rfl
        have c2 := HS.out.t.bx.cell 2 _ rfl
        go_wp2_with fail
        refine (metaRight _ sA sc ss nA nc ns cur.toNat HS.out.t.tab).mono ?_
        rintro e x3 ⟨rfl, hb⟩
        replace HB := hide (below_call HB.out HB.out.size hb)
        replace HT4 := hide (HT4.out.keep hb)
        clear hb c0 c1 c2
        cases hr : rightP (ss.map plS) (ns.map plN) cur.toNat with
        | false =>
          clear hr
          go_wp2_with fail
          go_ret
          exact ⟨rfl, HB.out⟩
        | true =>
          have HRR := hide hr
          clear hr
          by_cases h0 : e3 = 0
          · have HK : Hid (rightP (r4.map plS) (y4.map plN) u3 = true) := hide (by
              have h := HR3.out
              rw [h0] at h
              rw [HM4.out.1, HM4.out.2]
              exact drop_keeps h HRR.out)
            have t2 : ((e3 : Int) != 0) = false := by rw [bne_eq_false_iff_eq, h0]; rfl
            clear h0
            have f0 := HT4.out.bx.cell 0 _ rfl
            have f1 := HT4.out.bx.cell 1 _ rfl
            have f2 := HT4.out.bx.cell 2 _ rfl
            go_wp2_with fail
            refine (metaRight _ a4 z4 r4 m4 d4 y4 u3 HT4.out.tab).mono ?_
            rintro e x4 ⟨rfl, hb⟩
            rw [HK.out]
            go_wp2_with fail
            go_ret
            exact ⟨rfl, below_call HB.out HB.out.size hb⟩
          · have t2 : ((e3 : Int) != 0) = true := by rw [bne_iff_ne]; omega
            clear h0
            go_wp2_with fail
            go_ret
            exact ⟨rfl, HB.out⟩

set_option maxRecDepth 100000 in
theorem lifted (os : Os) (started : os.Started) (H : Type) (enc : TypeId × Value → H) :
    ReturnsInHanded {} Try.checked os 10 .any (Rows.metaStepsSpec.pre6 enc Try.prog Try.f10 Rows.metaStepsRow.domain false) (Rows.metaStepsSpec.post enc Try.prog Try.f10 false true false false) := by
  refine returnsInHanded_of_change (C := Try.checked) own started (by kernel_rfl) Try.func10
    (ChangeSpec.witness6 (enc := enc) (C := Try.checked) false ⟨#[], #[.agg #[.slice none 0 0, .slice none 0 0, .int .u64 0], .agg #[.int .u64 0, .int .u64 0, .int .u64 0, .int .u64 0, .int .u64 0, .int .u32 0, .slice none 0 0], .agg #[.int .u32 0, .slice none 0 0], .slice none 0 0], []⟩ 8 (by kernel_rfl) (by kernel_rfl) (by kernel_rfl) (by kernel_rfl)) ?_
  intro W base args ds gs before hval0 hW hcnd _
  have hval : ∀ (j : Nat) t v, Try.f10.params[j]? = some t → args[j]? = some v → Value.okWide Try.prog W .any base t v := hval0
  have hW' := hW
  obtain ⟨p, q, hA0, hV, rfl, hfz, hnd⟩ := hW
  have hA : DataW.TrodAll enc Try.prog W 0 (fun _ => true) true Try.f10.params.toList args.toList ds p := hA0
  rw [Try.params10] at hA hval
  obtain ⟨v0, vs0, d0, ds0, p0, q0, hargs, rfl, rfl, h0, r0⟩ := trodAll_cons hA
  obtain ⟨v1, vs1, d1, ds1, p1, q1, rfl, rfl, rfl, h1, r1⟩ := trodAll_cons r0
  obtain ⟨v2, vs2, d2, ds2, p2, q2, rfl, rfl, rfl, h2, r2⟩ := trodAll_cons r1
  obtain ⟨v3, vs3, d3, ds3, p3, q3, rfl, rfl, rfl, h3, r3⟩ := trodAll_cons r2
  obtain ⟨rfl, rfl, rfl⟩ := trodAll_nil r3
  obtain rfl : args = #[v0, v1, v2, v3] := by cases args; simp_all
  obtain ⟨rfl, rfl⟩ := trodVars_none hV
  have k0 := h0
  have lt0 : ∀ x ∈ p0, x.block < W.heap.size := by obtain ⟨m, hm⟩ := k0; exact DataW.trod_lt m _ _ _ hm
  have k1 := h1
  have lt1 : ∀ x ∈ p1, x.block < W.heap.size := by obtain ⟨m, hm⟩ := k1; exact DataW.trod_lt m _ _ _ hm
  have k2 := h2
  have lt2 : ∀ x ∈ p2, x.block < W.heap.size := by obtain ⟨m, hm⟩ := k2; exact DataW.trod_lt m _ _ _ hm
  have k3 := h3
  have lt3 : ∀ x ∈ p3, x.block < W.heap.size := by obtain ⟨m, hm⟩ := k3; exact DataW.trod_lt m _ _ _ hm
  obtain ⟨sA0, sc0, ss0, nA0, nc0, ns0, cur0, rfl, w0⟩ := frame_table (hval 0 70 v0 rfl rfl) h0
  obtain ⟨n1, A1, c1, rfl, w1⟩ := frame_snap (hval 1 73 v1 rfl rfl) h1
  obtain ⟨id2, A2, n2, c2, l2, rfl, w2⟩ := frame_schema (hval 2 25 v2 rfl rfl) h2
  obtain ⟨A3, n3, c3, l3, rfl, w3, g3, hr3⟩ := frame_ints Try.underlying83 Try.underlying68 (by kernel_rfl) (hval 3 83 v3 rfl rfl) h3
  clear hA0 hval0
  refine (walk W sA0 sc0 ss0 nA0 nc0 ns0 cur0 w0 n1 A1 c1 w1 id2 A2 n2 c2 l2 w2 A3 n3 c3 l3 w3 (fun z hz => bounds_u64 (g3 z hz))).mono fun e W' ⟨he, bel⟩ => ?_
  subst he
  exact ⟨_, rfl, _, _, _, [], _, [], hW', trodAll_mk1 (shut_bool Try.underlying4 _), (trodAll_cons_mk (Below.trod laidOut (by kernel_rfl) (of_decide_eq_true (by kernel_rfl)) k0 bel lt0) (trodAll_cons_mk (Below.trod laidOut (by kernel_rfl) (of_decide_eq_true (by kernel_rfl)) k1 bel lt1) (trodAll_cons_mk (Below.trod laidOut (by kernel_rfl) (of_decide_eq_true (by kernel_rfl)) k2 bel lt2) (trodAll_cons_mk (Below.trod laidOut (by kernel_rfl) (of_decide_eq_true (by kernel_rfl)) k3 bel lt3) trodAll_mk0)))), rfl, bel.frame _, fun h => by cases h⟩

theorem over : Rows.metaStepsRow.holds Try.pinned (OpenSpec.ofChange Rows.metaStepsSpec) :=
  OpenClaim.holds_of_wide 10 Try.f10 rfl rfl rfl rfl rfl rfl rfl ⟨rfl, rfl, rfl, rfl, rfl⟩ rfl rfl rfl rfl rfl (by kernel_rfl) Try.func10 (by kernel_rfl)
    (of_decide_eq_true (by kernel_rfl)) (by unfold Func.isWrapper; first | (rw [if_pos (by decide +kernel)]; kernel_rfl) | (rw [if_neg (by decide +kernel)]; exact ⟨rfl, rfl⟩))
    (fun os started H enc _ => lifted os started H enc)

theorem proved : Rows.MetaStepsSaid := over
#print axioms proved
end Go.Proofs.Ytlccpchlclpnaaa.metaSteps
