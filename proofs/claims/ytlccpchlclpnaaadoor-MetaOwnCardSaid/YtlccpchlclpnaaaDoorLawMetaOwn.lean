/- MetaOwn: for every input the law returns true, and what was there is as it was; the table as the program's text lays it: the card. -/
import Derived.Test.YtlccpchlclpnaaaDoorCards
import Derived.Test.YtlccpchlclpnaaaDoorTie
import Derived.WalkKit
import Derived.ProofKit
import Derived.OpenShut
import Derived.Deep.DeepHandedRow
import Derived.Lib.LaidTab
import Derived.Test.YtlccpchlclpnaaaDoorMetaO
namespace Go.Proofs.YtlccpchlclpnaaaDoor.metaOwn
open Go.Proofs.YtlccpchlclpnaaaDoor
open Go.ChangeShapes Go.WideShapes Go.ChangeAt Go.RowKit
open Go.ChangeMaps (open_string shut_string)

theorem own : ownKnob Tryd.prog.godebug = none := by kernel_rfl
theorem laidOut : laidOutB Tryd.prog = true := by kernel_rfl
theorem gTab : Tryd.prog.globalNamed "catchment/crc.half" = some 0 := by kernel_rfl
theorem gTabType : (Tryd.prog.globals[0]?).map (·.type) = some 117 := by kernel_rfl
theorem cellsT : Tryd.prog.cellsOf 117 = 16 := by kernel_rfl
theorem cellsE : Tryd.prog.cellsOf 27 = 1 := by kernel_rfl
def nums : List Int := [0, 498536548, 997073096, 651767980, 1994146192, 1802195444, 1303535960, 1342533948, 3988292384, 4027552580, 3604390888, 3412177804, 2607071920, 2262029012, 2685067896, 3183342108]
theorem nums_tab : ∀ j, j < 16 → nums.getD j 0 = ((Crc.tab j).toNat : Int) := by decide
theorem table {W : World} (h : laidMetH Tryd.prog Rows.metaOwnRow.laid W) : Table W := fun j hj => by
  have ht : Lib.TabIs Tryd.prog W "catchment/crc.half" .u32 nums := Lib.tabIs_of_head (rest := []) gTab gTabType Tryd.underlying117 Tryd.underlying27 cellsE cellsT h
  have := ht.cell gTab j hj
  rw [nums_tab j hj] at this
  exact this

set_option maxRecDepth 100000 in
set_option maxHeartbeats 8000000 in
theorem walk (w : World) (ht : Table w) (sA : Option Addr) (sc : Nat) (ss : List Sl) (nA : Option Addr) (nc : Nat) (ns : List Nl) (cur : UInt64) (hT : TabR w w.heap.size sA sc ss nA nc ns) (p : Sn) (pA : Option Addr) (pc : Nat) (hp : Rd w w.heap.size 1 pA p.ms.length pc (strsV p.ms)) :
    Calls Tryd.prog 3 #[.agg #[.slice sA ss.length sc, .slice nA ns.length nc, .int .u64 (cur.toNat : Int)], .agg #[.int .u64 (p.id.toNat : Int), .int .u64 (p.par.toNat : Int), .int .u64 (p.seq.toNat : Int), .int .u64 (p.off.toNat : Int), .int .u64 (p.tim.toNat : Int), .int .u32 (p.sch.toNat : Int), .slice pA p.ms.length pc]] w (RetVal w (.bool true)) := by
  have HT := hide ht
  have hpos := ht.pos
  clear ht
  go_enter Tryd.func3, Tryd.ntmps3
  go_wp2_with fail
  have x1 := boxN_new w #[.slice sA ss.length sc, .slice nA ns.length nc, .int .u64 (cur.toNat : Int)] 26
  have hb1 := (Below.refl w.heap.size w).alloc (Nat.le_refl _) (.cells #[.slice sA ss.length sc, .slice nA ns.length nc, .int .u64 (cur.toNat : Int)] 26)
  have hz1 : (w.alloc (.cells #[.slice sA ss.length sc, .slice nA ns.length nc, .int .u64 (cur.toNat : Int)] 26)).heap.size = w.heap.size + 1 := by simp
  generalize w.alloc (.cells #[.slice sA ss.length sc, .slice nA ns.length nc, .int .u64 (cur.toNat : Int)] 26) = w1 at *
  have x2 := boxN_new w1 #[.int .u64 (p.id.toNat : Int), .int .u64 (p.par.toNat : Int), .int .u64 (p.seq.toNat : Int), .int .u64 (p.off.toNat : Int), .int .u64 (p.tim.toNat : Int), .int .u32 (p.sch.toNat : Int), .slice pA p.ms.length pc] 30
  have hb2 := (Below.refl w1.heap.size w1).alloc (Nat.le_refl _) (.cells #[.int .u64 (p.id.toNat : Int), .int .u64 (p.par.toNat : Int), .int .u64 (p.seq.toNat : Int), .int .u64 (p.off.toNat : Int), .int .u64 (p.tim.toNat : Int), .int .u32 (p.sch.toNat : Int), .slice pA p.ms.length pc] 30)
  generalize w1.alloc (.cells #[.int .u64 (p.id.toNat : Int), .int .u64 (p.par.toNat : Int), .int .u64 (p.seq.toNat : Int), .int .u64 (p.off.toNat : Int), .int .u64 (p.tim.toNat : Int), .int .u32 (p.sch.toNat : Int), .slice pA p.ms.length pc] 30) = w2 at *
  rw [← hz1]
  have hB2 := below_call hb1 hb1.size hb2
  have X2 := x1.keep hb2 x1.z
  obtain ⟨b2, hb2e⟩ : ∃ b, b = w.heap.size := ⟨_, rfl⟩
  rw [← hb2e] at X2 ⊢
  have HB2E := hide hb2e
  generalize w1.heap.size = b3 at *
  clear x1 hb1 hb2 hz1 hb2e
  refine (alive14 w2).mono ?_
  rintro e w3 ⟨rfl, hb⟩
  have X3 := X2.keep hb X2.z
  have Y3 := x2.keep hb x2.z
  have hB3 := below_call hB2 hB2.size hb
  have c0 := X3.cell 0 _ rfl
  have c1 := X3.cell 1 _ rfl
  have c2 := X3.cell 2 _ rfl
  have hT3 := hT.later hB3
  clear X2 x2 hB2 hb
  go_wp2_with fail
  refine (refGreat14 w3 sA sc ss nA nc ns cur.toNat hT3).mono ?_
  rintro e w4 ⟨g, rfl, hsm, hb⟩
  have X4 := X3.keep hb X3.z
  have Y4 := Y3.keep hb Y3.z
  have hB4 := below_call hB3 hB3.size hb
  clear X3 Y3 hB3 hb c0 c1 c2 hT3
  cases g with
  | true =>
    go_wp2_with fail
    go_ret
    exact ⟨rfl, hB4⟩
  | false =>
  have hsm1 := hide (hsm rfl)
  clear hsm
  have p0 := Y4.cell 0 _ rfl
  have p1 := Y4.cell 1 _ rfl
  have p2 := Y4.cell 2 _ rfl
  have p3 := Y4.cell 3 _ rfl
  have p4 := Y4.cell 4 _ rfl
  have p5 := Y4.cell 5 _ rfl
  have p6 := Y4.cell 6 _ rfl
  go_wp2_with fail
  refine (refGreatSnap w4 p pA pc ((hp.below hB4).more hB4.size)).mono ?_
  rintro e w5 ⟨g, rfl, hsm, hb⟩
  have X5 := X4.keep hb X4.z
  have Y5 := Y4.keep hb Y4.z
  have hB5 := below_call hB4 hB4.size hb
  clear X4 Y4 hB4 hb p0 p1 p2 p3 p4 p5 p6
  cases g with
  | true =>
    go_wp2_with fail
    go_ret
    exact ⟨rfl, hB5⟩
  | false =>
  have hpl : p.ms.length ≤ 1000000 := by have := (hsm rfl).1; omega
  clear hsm
  have h1 : ss.length ≤ 1000000 := by have := hsm1.out.1; omega
  have h2 : ∀ s ∈ ss, s.fs.length ≤ 1000000 := fun s hs => by
    obtain ⟨j, hj, rfl⟩ := List.mem_iff_getElem.1 hs
    have h := (hsm1.out.2.2.1 j hj).1
    rw [getD_at _ _ hj] at h
    omega
  have h3 : ns.length ≤ 1000000 := by have := hsm1.out.2.1; omega
  have h4 : ∀ s ∈ ns, s.p.ms.length ≤ 1000000 := fun s hs => by
    obtain ⟨j, hj, rfl⟩ := List.mem_iff_getElem.1 hs
    have h := (hsm1.out.2.2.2 j hj).1
    rw [getD_at _ _ hj] at h
    omega
  have hms : ∀ s ∈ ns, ∀ m ∈ s.p.ms, m.size ≤ 9223372036854775807 := fun s hs m hm => by
    obtain ⟨j, hj, rfl⟩ := List.mem_iff_getElem.1 hs
    obtain ⟨k, hk, rfl⟩ := List.mem_iff_getElem.1 hm
    have h := (hsm1.out.2.2.2 j hj).2
    rw [getD_at _ _ hj] at h
    have h := h k hk
    rw [getD_at _ _ hk] at h
    omega
  have HZ := hide (And.intro h1 (And.intro h2 (And.intro h3 (And.intro h4 (And.intro hms hpl)))))
  clear hsm1 h1 h2 h3 h4 hms hpl
  have c0 := X5.cell 0 _ rfl
  have c1 := X5.cell 1 _ rfl
  have c2 := X5.cell 2 _ rfl
  go_wp2_with fail
  refine (refRight w5 sA sc ss nA nc ns cur.toNat (hT.later hB5) HZ.out.2.2.2.2.1).mono ?_
  rintro e w6 ⟨rfl, hb⟩
  have X6 := X5.keep hb X5.z
  have Y6 := Y5.keep hb Y5.z
  have hB6 := below_call hB5 hB5.size hb
  clear X5 Y5 hB5 hb c0 c1 c2
  cases hr : rightP (ss.map plS) (ns.map plN) cur.toNat with
  | false =>
    clear hr
    go_wp2_with fail
    go_ret
    exact ⟨rfl, hB6⟩
  | true =>
  have HR := hide hr
  have HH := hide (right_has hr)
  clear hr
  have c0 := X6.cell 0 _ rfl
  have c1 := X6.cell 1 _ rfl
  have c2 := X6.cell 2 _ rfl
  go_wp2_with fail
  refine (metaWrite w6 sA sc ss nA nc ns cur.toNat (hT.later hB6) (HT.out.below hB6 hpos)).mono ?_
  intro e w7 hwr
  obtain ⟨A7, n7, rfl, hown7, hb7⟩ : ∃ A7 n7, e = .returned (.tuple #[.slice A7 (wrS (ss.map plS) (ns.map plN)).length n7, .int .i64 0]) ∧ w7.ownsRow w6.heap.size 5 1 (.slice A7 (wrS (ss.map plS) (ns.map plN)).length n7) (wrS (ss.map plS) (ns.map plN)).length (bytesV (wrS (ss.map plS) (ns.map plN))) ∧ Below w6.heap.size w6 w7 := by
    rcases hwr with ⟨_, v, rfl, ho, hb⟩ | ⟨hf, _⟩
    · obtain ⟨A, c, rfl⟩ := own_slice ho
      exact ⟨A, c, rfl, ho, hb⟩
    · rw [HR.out] at hf; cases hf
  have X7 := X6.keep hb7 X6.z
  have Y7 := Y6.keep hb7 Y6.z
  have hB7 := below_call hB6 hB6.size hb7
  have HO7 := hide hown7
  obtain ⟨wl, hwl⟩ : ∃ l, l = wrS (ss.map plS) (ns.map plN) := ⟨_, rfl⟩
  rw [← hwl] at HO7 ⊢
  have HWL := hide hwl
  clear hwr X6 Y6 hB6 hb7 hown7 hwl c0 c1 c2
  -- what holds from here on: all below the heap of w7
  have c0 := X7.cell 0 _ rfl
  have c1 := X7.cell 1 _ rfl
  have c2 := X7.cell 2 _ rfl
  have p0 := Y7.cell 0 _ rfl
  have p1 := Y7.cell 1 _ rfl
  have p2 := Y7.cell 2 _ rfl
  have p3 := Y7.cell 3 _ rfl
  have p4 := Y7.cell 4 _ rfl
  have p5 := Y7.cell 5 _ rfl
  have p6 := Y7.cell 6 _ rfl
  go_wp2_with fail
  refine (metaPush w7 sA sc ss nA nc ns cur.toNat (hT.later hB7) HZ.out.1 HZ.out.2.1 HZ.out.2.2.1 HZ.out.2.2.2.1 p pA pc ((hp.below hB7).more hB7.size) HZ.out.2.2.2.2.2).mono ?_
  intro e w8 hpu
  obtain ⟨er, cu, uA, uc, us, mA, mc, um, rfl, O8, hus, hb8⟩ := push_own hpu
  have HUS := hide hus
  have hbA := (Below.refl w8.heap.size w8).alloc (Nat.le_refl _) (.cells #[.slice uA us.length uc, .slice mA um.length mc, .int .u64 (cu : Int)] 26)
  have U9 := boxT_new w8 #[.slice uA us.length uc, .slice mA um.length mc, .int .u64 (cu : Int)] 26
  have O9 := O8.keep hbA
  have X9 := (X7.keep hb8 X7.z).keep hbA (X7.keep hb8 X7.z).z
  have hB9 : Below w7.heap.size w7 _ := below_call hb8 hb8.size hbA
  clear hpu hus O8 hb8 hbA p0 p1 p2 p3 p4 p5 p6 c0 c1 c2 Y7
  have c0 := X9.cell 0 _ rfl
  have c1 := X9.cell 1 _ rfl
  have c2 := X9.cell 2 _ rfl
  go_wp2_with fail
  generalize w8.alloc (.cells #[.slice uA us.length uc, .slice mA um.length mc, .int .u64 (cu : Int)] 26) = w9 at *
  generalize w8.heap.size = b7 at *
  have HU9 := hide (And.intro U9 O9)
  clear U9 O9
  refine (metaNow w9 sA sc ss nA nc ns cur (hT.later (hB7.trans (hB9.mono hB7.size))) HZ.out.2.2.1 HZ.out.2.2.2.1).mono ?_
  rintro e w10 ⟨qA, qc, rfl, hownq, hb10⟩
  generalize decide (0 ≤ nowIx ns cur) = nb at *
  generalize snAt ns (nowIx ns cur) = q at *
  have hbA := (Below.refl w10.heap.size w10).alloc (Nat.le_refl _) (.cells #[.int .u64 (q.id.toNat : Int), .int .u64 (q.par.toNat : Int), .int .u64 (q.seq.toNat : Int), .int .u64 (q.off.toNat : Int), .int .u64 (q.tim.toNat : Int), .int .u32 (q.sch.toNat : Int), .slice qA q.ms.length qc] 30)
  have V11 := boxT_new w10 #[.int .u64 (q.id.toNat : Int), .int .u64 (q.par.toNat : Int), .int .u64 (q.seq.toNat : Int), .int .u64 (q.off.toNat : Int), .int .u64 (q.tim.toNat : Int), .int .u32 (q.sch.toNat : Int), .slice qA q.ms.length qc] 30
  have q11 : WRow (w10.alloc (.cells #[.int .u64 (q.id.toNat : Int), .int .u64 (q.par.toNat : Int), .int .u64 (q.seq.toNat : Int), .int .u64 (q.off.toNat : Int), .int .u64 (q.tim.toNat : Int), .int .u32 (q.sch.toNat : Int), .slice qA q.ms.length qc] 30)) w9.heap.size 9 1 qA q.ms.length qc := ⟨_, own_below hownq hbA⟩
  have hB11 : Below w9.heap.size w9 _ := below_call hb10 hb10.size hbA
  have hz9 : w7.heap.size ≤ w9.heap.size := hB9.size
  have hqc : q.ms.length ≤ 9223372036854775807 := by have h1 := (rd_own hownq).le; have h2 := (rd_own hownq).cap; unfold maxLen at h2; omega
  clear c0 c1 c2 hownq hb10 hbA X9
  go_wp2_with fail
  generalize w10.alloc (.cells #[.int .u64 (q.id.toNat : Int), .int .u64 (q.par.toNat : Int), .int .u64 (q.seq.toNat : Int), .int .u64 (q.off.toNat : Int), .int .u64 (q.tim.toNat : Int), .int .u32 (q.sch.toNat : Int), .slice qA q.ms.length qc] 30) = w11 at *
  generalize w10.heap.size = b9 at *
  go_loopw [11] (fun iv wr => ∃ k : Nat, iv = .int .i64 (k : Int) ∧ k ≤ q.ms.length ∧ WRow wr w9.heap.size 9 1 qA q.ms.length qc ∧ BoxT wr b9 #[.int .u64 (q.id.toNat : Int), .int .u64 (q.par.toNat : Int), .int .u64 (q.seq.toNat : Int), .int .u64 (q.off.toNat : Int), .int .u64 (q.tim.toNat : Int), .int .u32 (q.sch.toNat : Int), .slice qA q.ms.length qc].toList 30 ∧ Below w9.heap.size w9 wr) (fun iv _ => q.ms.length - (intOf iv).toNat)
  case atStart => exact ⟨0, rfl, Nat.zero_le _, q11, V11, hB11⟩
  case round =>
    obtain ⟨k, rfl, hk, hrow, hv, hbr⟩ := hrel
    have v6 := hv.bx.cell 6 _ rfl
    by_cases hlt : k < q.ms.length
    · obtain ⟨g, rfl, hg1, hg2, hgc, hgf, arr, hga⟩ := hrow.at_ (by omega)
      obtain ⟨old, hold⟩ := Option.isSome_iff_exists.1 (hgc k (by omega))
      have hfr := hgf k
      have HRW := hide (And.intro hrow (And.intro hv hga))
      clear hrow hv hgc hgf hga
      go_wp2_with fail
      go_roundw
      case rel => exact ⟨k + 1, by go_num, hlt, HRW.out.1.set g k _, HRW.out.2.1.setO _ HRW.out.2.2 (by decide), hbr.setCell (p := ⟨g, k, none⟩) hg1 _⟩
      case measure => simp [intOf]; omega
    · have hB12 : Below w7.heap.size w7 wr := hB9.trans (hbr.mono hz9)
      have U12 := HU9.out.1.keep hbr
      have O12 := HU9.out.2.keep hbr
      go_upto_if 59 with fail
      clear hrow hv v6 hbr hlt hk q11 V11 hB11
      go_cut [12, 13] from 58 to 98 (fun _ _ wx => Below w7.heap.size w7 wx)
      case first =>
        by_cases h0 : er = 0
        · have t1 : ((er : Int) == 0) = true := by rw [h0]; rfl
          have hmap := HUS.out h0
          have hl1 : 0 < us.length := by
            have h := HH.out.1.1
            rw [← hmap, List.length_map] at h
            exact h
          obtain ⟨g1, o1, hA1, _, f0, f1⟩ := O12.tab.srow.sl hl1
          have hmem : us.getD 0 default ∈ us := getD_mem hl1
          have hck := HH.out.2.1 (plS (us.getD 0 default)) (by rw [← hmap]; exact List.mem_map_of_mem hmem)
          have hfr := O12.sin _ hmem
          generalize us.getD 0 default = f at *
          have hfl : 0 < f.fs.length := (check_len hck).2.1
          obtain ⟨g2, hA2, hg2, _, hgc, hgf, arr, hga⟩ := WRow.at_ ⟨_, hfr⟩ hfl
          obtain ⟨old, hold⟩ := Option.isSome_iff_exists.1 (hgc 1 (by omega))
          have hfz := hgf 1
          rw [hA2] at f1
          simp only [Nat.zero_mul, Nat.add_zero] at f0 f1
          have u0 := U12.bx.cell 0 _ rfl
          rw [hA1] at u0
          have SN := (SnapW.of O12).setT (b := g2) (k := 1) (.string ⟨#[111, 116, 104, 101, 114]⟩) hga (by decide)
          have U13 := U12.setO (g := g2) (k := 1) (.string ⟨#[111, 116, 104, 101, 114]⟩) hga (by decide)
          have hB13 := hB12.setCell (p := ⟨g2, 1, none⟩) hg2 (.string ⟨#[111, 116, 104, 101, 114]⟩)
          have HNL := hide (And.intro hl1 hmap)
          clear h0 hmap hmem hck hfr hgc hgf hga hA1 hA2 O12 U12
          go_wp2_with fail
          clear f0 f1 hold hfz u0
          generalize wr.setCell ⟨g2, 1, none⟩ (.string ⟨#[111, 116, 104, 101, 114]⟩) = w13 at *
          have hml : um.length ≤ 9223372036854775807 := by obtain ⟨xs, h, _⟩ := SN.row; have h1 := (rd_own h).le; have h2 := (rd_own h).cap; unfold maxLen at h2; omega
          go_loopw [12] (fun iv wq => ∃ i : Nat, iv = .int .i64 (i : Int) ∧ i ≤ um.length ∧ SnapW wq w7.heap.size mA mc um ∧ BoxT wq b7 #[.slice uA us.length uc, .slice mA um.length mc, .int .u64 (cu : Int)].toList 26 ∧ Below w7.heap.size w7 wq) (fun iv _ => um.length - (intOf iv).toNat)
          case atStart => exact ⟨0, rfl, Nat.zero_le _, SN, U13, hB13⟩
          case round =>
            clear SN U13 hB13
            obtain ⟨i, rfl, hi, SN, U, hB⟩ := hrel
            have u1 := U.bx.cell 1 _ rfl
            by_cases hlt : i < um.length
            · obtain ⟨g, rfl, hg1, _, hgc, hgf, arr2, hga⟩ := SN.wrow.at_ (by omega)
              obtain ⟨old2, hold⟩ := Option.isSome_iff_exists.1 (hgc (i * 7 + 3) (by omega))
              have hfz := hgf (i * 7 + 3)
              have SN2 := SN.setN (g := g) (i := i) (j := 3) rfl (by omega) (.int .u64 9)
              have U2 := U.setO (g := g) (k := i * 7 + 3) (.int .u64 9) hga (by decide)
              have hB2' := hB.setCell (p := ⟨g, i * 7 + 3, none⟩) hg1 (.int .u64 9)
              clear hgc hgf hga SN U hB
              go_wp2_with fail
              clear u1 hold hfz
              generalize wr.setCell ⟨g, i * 7 + 3, none⟩ (.int .u64 9) = w14 at *
              have hmi : um.getD i default ∈ um := getD_mem hlt
              go_loopw [13] (fun kv wq => ∃ k : Nat, kv = .int .i64 (k : Int) ∧ k ≤ (um.getD i default).p.ms.length ∧ SnapW wq w7.heap.size (some ⟨g, 0, none⟩) mc um ∧ BoxT wq b7 #[.slice uA us.length uc, .slice (some ⟨g, 0, none⟩) um.length mc, .int .u64 (cu : Int)].toList 26 ∧ Below w7.heap.size w7 wq) (fun kv _ => (um.getD i default).p.ms.length - (intOf kv).toNat)
              case atStart => exact ⟨0, rfl, Nat.zero_le _, SN2, U2, hB2'⟩
              case round =>
                clear SN2 U2 hB2'
                obtain ⟨k, rfl, hk, SN, U, hB⟩ := hrel
                have u1 := U.bx.cell 1 _ rfl
                have l6 := SN.list rfl hlt
                have hrow := SN.ins _ hmi
                have HMI := hide hmi
                clear hmi
                generalize um.getD i default = f at *
                have hfc : f.p.ms.length ≤ 9223372036854775807 := by obtain ⟨xs, h⟩ := hrow; have h1 := (rd_own h).le; have h2 := (rd_own h).cap; unfold maxLen at h2; omega
                by_cases hlk : k < f.p.ms.length
                · obtain ⟨g3, hA3, hg3, _, hgc, hgf, arr3, hga⟩ := hrow.at_ (by omega)
                  obtain ⟨old3, hold⟩ := Option.isSome_iff_exists.1 (hgc k (by omega))
                  have hfz := hgf k
                  rw [hA3] at l6
                  have SN3 := hide (SN.setT (b := g3) (k := k) (.string ⟨#[111, 116, 104, 101, 114]⟩) hga (by decide))
                  have U3 := hide (U.setO (g := g3) (k := k) (.string ⟨#[111, 116, 104, 101, 114]⟩) hga (by decide))
                  have hB3' := hide (hB.setCell (p := ⟨g3, k, none⟩) hg3 (.string ⟨#[111, 116, 104, 101, 114]⟩))
                  clear hgc hgf hga SN U hB hrow hA3
                  go_wp2_with fail
                  go_roundw
                  case rel => exact ⟨k + 1, by go_num, hlk, SN3.out, U3.out, hB3'.out⟩
                  case measure => simp [intOf]; omega
                · have HS := hide (And.intro SN (And.intro U hB))
                  clear SN U hB hrow
                  go_wp2_with fail
                  go_roundw
                  case rel => exact ⟨i + 1, by go_num, hlt, HS.out.1, HS.out.2.1, HS.out.2.2⟩
                  case measure => simp [intOf]; omega
            · have HS := hide hB
              clear SN U hB
              go_wp2_with fail
              go_meet
              exact HS.out
        · have t1 : ((er : Int) == 0) = false := by rw [beq_eq_false_iff_ne]; omega
          clear h0 U12 O12
          go_wp2_with fail
          go_meet
          exact hB12
      case rest =>
        have X12 := X7.keep hcut X7.z
        have c0 := X12.cell 0 _ rfl
        have c1 := X12.cell 1 _ rfl
        have c2 := X12.cell 2 _ rfl
        have hBc := hB7.trans (hcut.mono hB7.size)
        have hTc := hT.later hBc
        clear U12 O12 hB12
        go_wp2_with fail
        refine (metaDrop0 wc sA sc ss nA nc ns cur hTc HZ.out.1 HZ.out.2.1 HZ.out.2.2.1 HZ.out.2.2.2.1 [] none 0 (Rd.nil _ _ _) (by decide) rfl).mono ?_
        rintro e w13 ⟨xA, xc, xs, yA, yc, xn, rfl, O13, _, _, hb13⟩
        have hbA := (Below.refl w13.heap.size w13).alloc (Nat.le_refl _) (.cells #[.slice xA xs.length xc, .slice yA xn.length yc, .int .u64 (cur.toNat : Int)] 26)
        have Z14 := boxT_new w13 #[.slice xA xs.length xc, .slice yA xn.length yc, .int .u64 (cur.toNat : Int)] 26
        have r14 : WRow (w13.alloc (.cells #[.slice xA xs.length xc, .slice yA xn.length yc, .int .u64 (cur.toNat : Int)] 26)) wc.heap.size 30 7 yA xn.length yc := ⟨_, own_below O13.nown hbA⟩
        have hB14 : Below w7.heap.size w7 _ := hcut.trans ((below_call hb13 hb13.size hbA).mono hcut.size)
        have zc := hcut.size
        clear c0 c1 c2 hTc X12 O13 hb13 hbA
        have d1 := Z14.bx.cell 1 _ rfl
        go_upto_region 23 with fail
        generalize w13.alloc (.cells #[.slice xA xs.length xc, .slice yA xn.length yc, .int .u64 (cur.toNat : Int)] 26) = w14 at *
        generalize w13.heap.size = b14 at *
        generalize xn.length = nx at *
        go_upto_if 110 with fail
        go_cut [] from 103 to 115 (fun wx => Below w7.heap.size w7 wx)
        case first =>
          by_cases hn : 0 < nx
          · have t1 : decide ((0 : Int) < (nx : Int)) = true := decide_eq_true (by omega)
            obtain ⟨g, rfl, hg1, _, hgc, hgf, _⟩ := r14.at_ hn
            obtain ⟨old, hold⟩ := Option.isSome_iff_exists.1 (hgc 0 (by omega))
            have hfz := hgf 0
            have HB := hide (hB14.setCell (p := ⟨g, 0, none⟩) (show w7.heap.size ≤ g by omega) (.int .u64 77))
            clear hgc hgf r14 hB14
            go_wp2_with fail
            go_meet
            exact HB.out
          · have t1 : decide ((0 : Int) < (nx : Int)) = false := decide_eq_false (by omega)
            go_wp2_with fail
            go_meet
            exact hB14
        case rest =>
          have X14 := X7.keep hcut X7.z
          have c0 := X14.cell 0 _ rfl
          have c1 := X14.cell 1 _ rfl
          have c2 := X14.cell 2 _ rfl
          have hBe := hB7.trans (hcut.mono hB7.size)
          have hTe := hT.later hBe
          clear d1 Z14 r14 hB14
          go_wp2_with fail
          refine (metaWrite wc sA sc ss nA nc ns cur.toNat hTe (HT.out.below hBe hpos)).mono ?_
          intro e w15 hwr
          obtain ⟨A8, n8, rfl, hown8, hb8⟩ : ∃ A7 n7, e = .returned (.tuple #[.slice A7 wl.length n7, .int .i64 0]) ∧ w15.ownsRow wc.heap.size 5 1 (.slice A7 wl.length n7) wl.length (bytesV wl) ∧ Below wc.heap.size wc w15 := by
            rcases hwr with ⟨_, v, rfl, ho, hb⟩ | ⟨hf, _⟩
            · obtain ⟨A, c, rfl⟩ := own_slice ho
              rw [← HWL.out] at ho ⊢
              exact ⟨A, c, rfl, ho, hb⟩
            · rw [HR.out] at hf; cases hf
          have hB15 : Below w7.heap.size w7 w15 := hcut.trans (hb8.mono hcut.size)
          have hBz := hB7.trans (hB15.mono hB7.size)
          have s1 := run_str (P := Tryd.prog) w15 Tryd.underlying34 Tryd.underlying5 Tryd.underlying9 (rd_own (own_below HO7.out hB15))
          have s2 := run_str (P := Tryd.prog) w15 Tryd.underlying34 Tryd.underlying5 Tryd.underlying9 (rd_own hown8)
          clear hwr hown8 hb8 c0 c1 c2 hTe X14
          go_wp2_with fail
          go_ret
          exact ⟨rfl, hBz⟩

set_option maxRecDepth 100000 in
theorem contract (H : Type) (enc : TypeId × Value → H) (W : World) (base : Nat) (args : Array Value) (ds gs : List (DataW H)) (before : List MemPlace)
    (hval0 : ∀ (j : Nat) t v, Tryd.f3.params[j]? = some t → args[j]? = some v → Value.okWide Tryd.prog W .any base t v)
    (hW : DataW.Whole enc Tryd.prog Tryd.f3.params.toList Rows.metaOwnSpec.vars false W args.toList ds gs before) (hL : laidMetH Tryd.prog Rows.metaOwnRow.laid W) :
    Calls Tryd.prog 3 args W fun e W' => ∃ v, e = .returned v ∧ Rows.metaOwnSpec.post enc Tryd.prog Tryd.f3 false true false false W args v W' := by
  have hval : ∀ (j : Nat) t v, Tryd.f3.params[j]? = some t → args[j]? = some v → Value.okWide Tryd.prog W .any base t v := hval0
  have hW' := hW
  obtain ⟨p, q, hA0, hV, rfl, hfz, hnd⟩ := hW
  have hA : DataW.TrodAll enc Tryd.prog W 0 (fun _ => true) true Tryd.f3.params.toList args.toList ds p := hA0
  rw [Tryd.params3] at hA hval
  obtain ⟨v0, vs0, d0, ds0, p0, q0, hargs, rfl, rfl, h0, r0⟩ := trodAll_cons hA
  obtain ⟨v1, vs1, d1, ds1, p1, q1, rfl, rfl, rfl, h1, r1⟩ := trodAll_cons r0
  obtain ⟨rfl, rfl, rfl⟩ := trodAll_nil r1
  obtain rfl : args = #[v0, v1] := by cases args; simp_all
  obtain ⟨rfl, rfl⟩ := trodVars_none hV
  have k0 := h0
  have lt0 : ∀ x ∈ p0, x.block < W.heap.size := by obtain ⟨m, hm⟩ := k0; exact DataW.trod_lt m _ _ _ hm
  have k1 := h1
  have lt1 : ∀ x ∈ p1, x.block < W.heap.size := by obtain ⟨m, hm⟩ := k1; exact DataW.trod_lt m _ _ _ hm
  obtain ⟨sA0, sc0, ss0, nA0, nc0, ns0, cur0, rfl, w0⟩ := frame_table (hval 0 26 v0 rfl rfl) h0
  obtain ⟨n1, A1, c1, rfl, w1⟩ := frame_snap (hval 1 30 v1 rfl rfl) h1
  clear hA0 hval0
  refine (walk W (table hL) sA0 sc0 ss0 nA0 nc0 ns0 cur0 w0 n1 A1 c1 w1).mono fun e W' ⟨he, bel⟩ => ?_
  subst he
  exact ⟨_, rfl, _, _, _, [], _, [], hW', trodAll_mk1 (shut_bool Tryd.underlying4 _), (trodAll_cons_mk (Below.trod laidOut (by kernel_rfl) (of_decide_eq_true (by kernel_rfl)) k0 bel lt0) (trodAll_cons_mk (Below.trod laidOut (by kernel_rfl) (of_decide_eq_true (by kernel_rfl)) k1 bel lt1) trodAll_mk0)), rfl, bel.frame _, fun h => by cases h⟩

/-- a world for the witness: the table holds what its initialiser lays -/
noncomputable def laidWorld (os : Os) : World :=
  { World.holding Tryd.prog os ⟨#[], #[], []⟩ with heap := (World.holding Tryd.prog os ⟨#[], #[], []⟩).heap.modify 0 fun
      | .cells _ t frozen => .cells (nums.map (Value.int .u32)).toArray t frozen
      | o => o }
theorem laid_met (os : Os) : laidMet Tryd.prog Rows.metaOwnRow.laid ((laidWorld os).forCall (fun _ _ => 0) ⟨#[], #[.agg #[.slice none 0 0, .slice none 0 0, .int .u64 0], .agg #[.int .u64 0, .int .u64 0, .int .u64 0, .int .u64 0, .int .u64 0, .int .u32 0, .slice none 0 0]], []⟩).memory :=
  laidMet_of_run' 8 (by kernel_rfl) (by kernel_rfl)
theorem reads (os : Os) {H : Type} (enc : TypeId × Value → H) : ∃ places, DataW.whole enc Tryd.prog ((laidWorld os).forCall (fun _ _ => 0) ⟨#[], #[.agg #[.slice none 0 0, .slice none 0 0, .int .u64 0], .agg #[.int .u64 0, .int .u64 0, .int .u64 0, .int .u64 0, .int .u64 0, .int .u32 0, .slice none 0 0]], []⟩).memory Tryd.f3.params.toList Rows.metaOwnSpec.vars false (#[.agg #[.slice none 0 0, .slice none 0 0, .int .u64 0], .agg #[.int .u64 0, .int .u64 0, .int .u64 0, .int .u64 0, .int .u64 0, .int .u32 0, .slice none 0 0]] : Array Value).toList 8 = some ([.agg [.nil, .nil, .lit (.int .u64 0)], .agg [.lit (.int .u64 0), .lit (.int .u64 0), .lit (.int .u64 0), .lit (.int .u64 0), .lit (.int .u64 0), .lit (.int .u32 0), .nil]], [], places) :=
  ⟨[], by kernel_rfl⟩

set_option maxRecDepth 100000 in
theorem lifted (os : Os) (started : os.Started) (H : Type) (enc : TypeId × Value → H) (F : Stop.Interp) :
    ReturnsInHanded {} Tryd.checked os 3 .any ((OpenSpec.ofChange Rows.metaOwnSpec).preRow enc Tryd.prog Tryd.f3 Rows.metaOwnRow.domain false Rows.metaOwnRow.laid) (((OpenSpec.ofChange Rows.metaOwnSpec).at F).post enc Tryd.prog Tryd.f3 false true false false) := by
  obtain ⟨places, hx⟩ := reads os enc
  refine returnsInHanded_of_row (C := Tryd.checked) (s := OpenSpec.ofChange Rows.metaOwnSpec) own started (by kernel_rfl) Tryd.func3
    (witness_row_at (enc := enc) (C := Tryd.checked) false (laidWorld os) #[.agg #[.slice none 0 0, .slice none 0 0, .int .u64 0], .agg #[.int .u64 0, .int .u64 0, .int .u64 0, .int .u64 0, .int .u64 0, .int .u32 0, .slice none 0 0]] rfl (by kernel_rfl) (by kernel_rfl) (by kernel_rfl)
      (OpenSpec.preRow_of_cond 8 hx (by kernel_rfl) (fun k hk => by cases hk) (by kernel_rfl) (laid_met os))) ?_
  intro W base args ds gs before hval hW _ _ _ hL _ _
  exact contract H enc W base args ds gs before hval hW hL

theorem said : Rows.MetaOwnSaid :=
  OpenClaim.holds_of_cond 3 Tryd.f3 rfl rfl rfl rfl rfl rfl rfl ⟨rfl, rfl, rfl, rfl, rfl⟩ rfl rfl rfl rfl rfl (by kernel_rfl) Tryd.func3 (by kernel_rfl)
    (of_decide_eq_true (by kernel_rfl)) (by unfold Func.isWrapper; first | (rw [if_pos (by decide +kernel)]; kernel_rfl) | (rw [if_neg (by decide +kernel)]; exact ⟨rfl, rfl⟩))
    (fun os started H enc _ F => by rw [OpenClaim.pre_eq_preRow]; exact lifted os started H enc F)

theorem plain (f : FuncId) (fn : Func) (hf : Tryd.pinned.checked.prog.funcNamed "catchment/catchmentlaw14.MetaOwn" = some f) (hfn : Tryd.pinned.checked.prog.funcs[f]? = some fn) :
    false = Tryd.pinned.checked.prog.looks [] ∧ ∀ (j : Nat) t, fn.params[j]? = some t → Tryd.pinned.checked.prog.wantsStandIn t = false := by
  obtain rfl : f = 3 := Option.some.inj ((show Tryd.prog.funcNamed "catchment/catchmentlaw14.MetaOwn" = some 3 by kernel_rfl).symm.trans hf) |>.symm
  obtain rfl : fn = Tryd.f3 := (Option.some.inj (Tryd.func3.symm.trans hfn)).symm
  refine ⟨by kernel_rfl, fun j t ht => ?_⟩
  rw [Tryd.params3] at ht
  have hm := Array.mem_of_getElem? ht
  simp only [List.mem_toArray, List.mem_cons, List.not_mem_nil, or_false] at hm
  rcases hm with rfl | rfl
  · exact (show Tryd.prog.wantsStandIn 26 = false by kernel_rfl)
  · exact (show Tryd.prog.wantsStandIn 30 = false by kernel_rfl)

theorem proved : Rows.MetaOwnCardSaid :=
  Claim7.holds_tied_plain_at .later [] _ _ _ _ said (fun _ h => by cases h) (by kernel_rfl) (fun _ h => by cases h) metaOwn_row_tie rfl ⟨rfl, rfl⟩ (by kernel_rfl) rfl plain (by kernel_rfl)
#print axioms proved
end Go.Proofs.YtlccpchlclpnaaaDoor.metaOwn
