/- WHAT SERVES THE TABLES' STATEMENTS, part 6: MetaS, MetaSW, Frame, FrameS, FrameT, FrameM, FrameN, VarI, PackP, Pack, Crc, CrcW, CrcS. No statement of the seat is proved here. -/
import Derived.Test.YtlccpchlclpnaaaDoorD5
import Derived.ProofKit
import Derived.OpenShut
import Derived.ShutString
import Derived.ChangeOld
import Derived.SizedLaws
import Derived.Below
import Derived.Deep.Slices
import Derived.Deep.Fields
import Derived.ChangeSame
import Derived.Lib.SmallJoins
import Derived.Deep.Strs
import Derived.Lib.AppendStr
import Init.Data.BitVec.Lemmas
namespace Go.Proofs.YtlccpchlclpnaaaDoor

section
open Go.RowKit

theorem map_at {α β : Type} [Inhabited α] {f : α → β} {l1 l2 : List α} (h : l1.map f = l2.map f) {k : Nat} (h1 : k < l1.length) (h2 : k < l2.length) : f (l1.getD k default) = f (l2.getD k default) := by
  have := congrArg (fun l => l[k]?) h
  simp only [List.getElem?_map] at this
  simpa [List.getD, h1, h2] using this
set_option maxRecDepth 100000 in
set_option maxHeartbeats 4000000 in
theorem refSameT (w : World) (sA tA : Option Addr) (sc tc : Nat) (ss ts : List Sl) (nA mA : Option Addr) (nc mc : Nat) (ns ms : List Nl) (cur : Nat) (hT : TabR w w.heap.size sA sc ss nA nc ns) (hU : TabR w w.heap.size tA tc ts mA mc ms) (hs : ss.map plS = ts.map plS) (hn : ns.map plN = ms.map plN) :
    Calls Tryd.prog 18 #[.agg #[.slice sA ss.length sc, .slice nA ns.length nc, .int .u64 (cur : Int)], .agg #[.slice tA ts.length tc, .slice mA ms.length mc, .int .u64 (cur : Int)]] w (RetVal w (.bool true)) := by
  have hl1 : ss.length = ts.length := by have := congrArg List.length hs; simpa using this
  have hl2 : ns.length = ms.length := by have := congrArg List.length hn; simpa using this
  rw [← hl1, ← hl2]
  have HL := hide (And.intro hl1 hl2)
  have HM := hide (And.intro hs hn)
  have hcap1 : ss.length ≤ 9223372036854775807 := by have h1 := hT.srow.le; have h2 := hT.srow.cap; unfold maxLen at h2; omega
  have hcap2 : ns.length ≤ 9223372036854775807 := by have h1 := hT.nrow.le; have h2 := hT.nrow.cap; unfold maxLen at h2; omega
  clear hl1 hl2 hs hn
  go_enter Tryd.func18, Tryd.ntmps18
  go_wp2_with fail
  have x1 := boxN_new w #[.slice sA ss.length sc, .slice nA ns.length nc, .int .u64 (cur : Int)] 26
  have hb1 := (Below.refl w.heap.size w).alloc (Nat.le_refl _) (.cells #[.slice sA ss.length sc, .slice nA ns.length nc, .int .u64 (cur : Int)] 26)
  have hz1 : (w.alloc (.cells #[.slice sA ss.length sc, .slice nA ns.length nc, .int .u64 (cur : Int)] 26)).heap.size = w.heap.size + 1 := by simp
  generalize w.alloc (.cells #[.slice sA ss.length sc, .slice nA ns.length nc, .int .u64 (cur : Int)] 26) = w1 at *
  have x2 := boxN_new w1 #[.slice tA ss.length tc, .slice mA ns.length mc, .int .u64 (cur : Int)] 26
  have hb2 := (Below.refl w1.heap.size w1).alloc (Nat.le_refl _) (.cells #[.slice tA ss.length tc, .slice mA ns.length mc, .int .u64 (cur : Int)] 26)
  have x1b := x1.keep hb2 x1.z
  have hB2 := below_call hb1 hb1.size hb2
  rw [← hz1]
  generalize w1.alloc (.cells #[.slice tA ss.length tc, .slice mA ns.length mc, .int .u64 (cur : Int)] 26) = w2 at *
  have hT2 := hT.later hB2
  have hU2 := hU.later hB2
  have z1 : w.heap.size < w2.heap.size := x1b.z
  obtain ⟨bx, hbx⟩ : ∃ b, b = w.heap.size := ⟨_, rfl⟩
  have HB2 : Hid (Below bx w w2) := hide (by rw [hbx]; exact hB2)
  have HBX := hide hbx
  rw [← hbx] at x1b z1 ⊢
  generalize w1.heap.size = by_ at *
  clear hz1 hT hU hb1 hb2 x1 hB2 hbx
  have zx := x1b.z
  have zy := x2.z
  have c0 := x1b.cell 0 _ rfl
  have d0 := x2.cell 0 _ rfl
  go_wp2_with fail
  skip
  go_loopw [5] (fun iv wr => ∃ k : Nat, iv = .int .i64 (k : Int) ∧ k ≤ ss.length ∧ Below w2.heap.size w2 wr) (fun iv _ => ss.length - (intOf iv).toNat)
  case atStart => exact ⟨0, rfl, Nat.zero_le _, Below.refl _ _⟩
  case round =>
    skip
    obtain ⟨k, rfl, hk, hbr⟩ := hrel
    have X1 := x1b.keep hbr zx
    have X2 := x2.keep hbr zy
    have k0 := X1.cell 0 _ rfl
    have m0 := X2.cell 0 _ rfl
    have zbr := hbr.size
    by_cases hlt : k < ss.length
    · have hlt2 : k < ts.length := by have := HL.out; omega
      have hTr := hT2.later hbr
      have hUr := hU2.later hbr
      have he := map_at HM.out.1 hlt hlt2
      obtain ⟨b1, o1, hA1, hd1, a0, a1⟩ := hTr.srow.sl hlt
      obtain ⟨b2, o2, hA2, hd2, d0, d1⟩ := hUr.srow.sl hlt2
      have r1 := hTr.s_at hlt
      have r2 := hUr.s_at hlt2
      rw [hA1] at k0
      rw [hA2] at m0
      generalize ss.getD k default = f1 at *
      generalize ts.getD k default = f2 at *
      have HE : Hid (f1.id = f2.id ∧ f1.fs = f2.fs) := hide (⟨congrArg Prod.fst he, congrArg Prod.snd he⟩)
      have zb := X1.z
      have zc := X2.z
      clear hTr hUr hA1 hA2 he
      go_wp2_with fail
      refine wp_region_abs ext_grow (by kernel_rfl) (by kernel_rfl) ?_
      simp only [List.map_cons, List.map_nil]
      refine wpA_value ext_grow ?_ (fun _ _ h => by cases h) rfl rfl ?_ ?_
      rotate_left 1
      · intro w' hw' C hC
        go_simp
        try go_bits
        exact hC
      simp only [putS, List.set_cons_succ, List.set_cons_zero]
      refine wpA_value ext_grow ?_ (fun _ _ h => by cases h) rfl rfl ?_ ?_
      rotate_left 1
      · intro w' hw' C hC
        have v0 := (hw'.cell (p := ⟨bx, 0, none⟩) zb).trans k0
        go_simp
        try go_bits
        exact hC
      simp only [putS, List.set_cons_succ, List.set_cons_zero]
      refine wpA_value ext_grow ?_ (fun _ _ h => by cases h) rfl rfl ?_ ?_
      rotate_left 1
      · intro w' hw' C hC
        go_simp
        try go_bits
        exact hC
      simp only [putS, List.set_cons_succ, List.set_cons_zero]
      refine wpA_value ext_grow ?_ (fun _ _ h => by cases h) rfl rfl ?_ ?_
      rotate_left 1
      · intro w' hw' C hC
        go_simp
        try go_bits
        exact hC
      simp only [putS, List.set_cons_succ, List.set_cons_zero]
      refine wpA_value ext_grow ?_ (fun _ _ h => by cases h) rfl rfl ?_ ?_
      rotate_left 1
      · intro w' hw' C hC
        have v0 := (hw'.cell (p := ⟨b1, o1 + k * 2, none⟩) hd1).trans a0
        have v1 := (hw'.cell (p := ⟨b1, o1 + k * 2 + 1, none⟩) hd1).trans a1
        go_simp
        try go_bits
        exact hC
      simp only [putS, List.set_cons_succ, List.set_cons_zero]
      refine wpA_value ext_grow ?_ (fun _ _ h => by cases h) rfl rfl ?_ ?_
      rotate_left 1
      · intro w' hw' C hC
        go_simp
        try go_bits
        exact hC
      simp only [putS, List.set_cons_succ, List.set_cons_zero]
      refine wpA_value ext_grow ?_ (fun _ _ h => by cases h) rfl rfl ?_ ?_
      rotate_left 1
      · intro w' hw' C hC
        have v0 := (hw'.cell (p := ⟨by_, 0, none⟩) zc).trans m0
        go_simp
        try go_bits
        exact hC
      simp only [putS, List.set_cons_succ, List.set_cons_zero]
      refine wpA_value ext_grow ?_ (fun _ _ h => by cases h) rfl rfl ?_ ?_
      rotate_left 1
      · intro w' hw' C hC
        go_simp
        try go_bits
        exact hC
      simp only [putS, List.set_cons_succ, List.set_cons_zero]
      refine wpA_value ext_grow ?_ (fun _ _ h => by cases h) rfl rfl ?_ ?_
      rotate_left 1
      · intro w' hw' C hC
        go_simp
        try go_bits
        exact hC
      simp only [putS, List.set_cons_succ, List.set_cons_zero]
      refine wpA_value ext_grow ?_ (fun _ _ h => by cases h) rfl rfl ?_ ?_
      rotate_left 1
      · intro w' hw' C hC
        have v0 := (hw'.cell (p := ⟨b2, o2 + k * 2, none⟩) hd2).trans d0
        have v1 := (hw'.cell (p := ⟨b2, o2 + k * 2 + 1, none⟩) hd2).trans d1
        go_simp
        try go_bits
        exact hC
      simp only [putS, List.set_cons_succ, List.set_cons_zero]
      refine wpA_known (.is (.bool true)) (fun _ _ h => by cases h) rfl rfl (mono_is _) (fun w' hw' => ?_) ?_
      · go_simp
        exact ⟨Below.refl _ _, (sameSchT w' f1.id f2.id f1.A f2.A f1.c f2.c f1.fs f2.fs ((r1.drew.below hw').more hw'.size) ((r2.drew.below hw').more hw'.size) HE.out.1 HE.out.2).mono fun e w'' h => is_ret (h.1) h.2⟩
      simp only [putS, List.set_cons_succ, List.set_cons_zero]
      refine wpA_value ext_grow ?_ (fun _ _ h => by cases h) rfl rfl ?_ ?_
      rotate_left 1
      · intro w' hw' C hC
        go_simp
        try go_bits
        exact hC
      simp only [putS, List.set_cons_succ, List.set_cons_zero]
      intro wd hwd
      simp only [openS]
      have hbd := below_of_drew hwd
      go_wp2_with fail
      go_roundw
      case rel => exact ⟨k + 1, by go_num, hlt, below_call hbr hbr.size hbd⟩
      case measure => simp [intOf]; omega
    · skip
      skip
      skip
      go_wp2_with fail
      clear c0 d0 hk hlt k0 m0
      go_loopw [6] (fun iv wr => ∃ k : Nat, iv = .int .i64 (k : Int) ∧ k ≤ ns.length ∧ Below w2.heap.size w2 wr) (fun iv _ => ns.length - (intOf iv).toNat)
      case atStart => exact ⟨0, rfl, Nat.zero_le _, hbr⟩
      case round =>
        clear hbr X1 X2
        obtain ⟨k, rfl, hk, hbr⟩ := hrel
        have X1 := x1b.keep hbr zx
        have X2 := x2.keep hbr zy
        have k1 := X1.cell 1 _ rfl
        have m1 := X2.cell 1 _ rfl
        have zbr := hbr.size
        by_cases hlt : k < ns.length
        · have hlt2 : k < ms.length := by have := HL.out; omega
          have hTr := hT2.later hbr
          have hUr := hU2.later hbr
          have he := map_at HM.out.2 hlt hlt2
          obtain ⟨b1, o1, hA1, hd1, a0, a1, a2, a3, a4, a5, a6⟩ := hTr.nrow.nl hlt
          obtain ⟨b2, o2, hA2, hd2, d0, d1, d2, d3, d4, d5, d6⟩ := hUr.nrow.nl hlt2
          have r1 := hTr.n_at hlt
          have r2 := hUr.n_at hlt2
          rw [hA1] at k1
          rw [hA2] at m1
          generalize ns.getD k default = f1 at *
          generalize ms.getD k default = f2 at *
          have HE : Hid (f1.p = f2.p) := hide (he)
          have zb := X1.z
          have zc := X2.z
          clear hTr hUr hA1 hA2 he
          go_wp2_with fail
          refine wp_region_abs ext_grow (by kernel_rfl) (by kernel_rfl) ?_
          simp only [List.map_cons, List.map_nil]
          refine wpA_value ext_grow ?_ (fun _ _ h => by cases h) rfl rfl ?_ ?_
          rotate_left 1
          · intro w' hw' C hC
            go_simp
            try go_bits
            exact hC
          simp only [putS, List.set_cons_succ, List.set_cons_zero]
          refine wpA_value ext_grow ?_ (fun _ _ h => by cases h) rfl rfl ?_ ?_
          rotate_left 1
          · intro w' hw' C hC
            have v0 := (hw'.cell (p := ⟨bx, 1, none⟩) zb).trans k1
            go_simp
            try go_bits
            exact hC
          simp only [putS, List.set_cons_succ, List.set_cons_zero]
          refine wpA_value ext_grow ?_ (fun _ _ h => by cases h) rfl rfl ?_ ?_
          rotate_left 1
          · intro w' hw' C hC
            go_simp
            try go_bits
            exact hC
          simp only [putS, List.set_cons_succ, List.set_cons_zero]
          refine wpA_value ext_grow ?_ (fun _ _ h => by cases h) rfl rfl ?_ ?_
          rotate_left 1
          · intro w' hw' C hC
            go_simp
            try go_bits
            exact hC
          simp only [putS, List.set_cons_succ, List.set_cons_zero]
          refine wpA_value ext_grow ?_ (fun _ _ h => by cases h) rfl rfl ?_ ?_
          rotate_left 1
          · intro w' hw' C hC
            have v0 := (hw'.cell (p := ⟨b1, o1 + k * 7, none⟩) hd1).trans a0
            have v1 := (hw'.cell (p := ⟨b1, o1 + k * 7 + 1, none⟩) hd1).trans a1
            have v2 := (hw'.cell (p := ⟨b1, o1 + k * 7 + 2, none⟩) hd1).trans a2
            have v3 := (hw'.cell (p := ⟨b1, o1 + k * 7 + 3, none⟩) hd1).trans a3
            have v4 := (hw'.cell (p := ⟨b1, o1 + k * 7 + 4, none⟩) hd1).trans a4
            have v5 := (hw'.cell (p := ⟨b1, o1 + k * 7 + 5, none⟩) hd1).trans a5
            have v6 := (hw'.cell (p := ⟨b1, o1 + k * 7 + 6, none⟩) hd1).trans a6
            go_simp
            try go_bits
            exact hC
          simp only [putS, List.set_cons_succ, List.set_cons_zero]
          refine wpA_value ext_grow ?_ (fun _ _ h => by cases h) rfl rfl ?_ ?_
          rotate_left 1
          · intro w' hw' C hC
            go_simp
            try go_bits
            exact hC
          simp only [putS, List.set_cons_succ, List.set_cons_zero]
          refine wpA_value ext_grow ?_ (fun _ _ h => by cases h) rfl rfl ?_ ?_
          rotate_left 1
          · intro w' hw' C hC
            have v0 := (hw'.cell (p := ⟨by_, 1, none⟩) zc).trans m1
            go_simp
            try go_bits
            exact hC
          simp only [putS, List.set_cons_succ, List.set_cons_zero]
          refine wpA_value ext_grow ?_ (fun _ _ h => by cases h) rfl rfl ?_ ?_
          rotate_left 1
          · intro w' hw' C hC
            go_simp
            try go_bits
            exact hC
          simp only [putS, List.set_cons_succ, List.set_cons_zero]
          refine wpA_value ext_grow ?_ (fun _ _ h => by cases h) rfl rfl ?_ ?_
          rotate_left 1
          · intro w' hw' C hC
            go_simp
            try go_bits
            exact hC
          simp only [putS, List.set_cons_succ, List.set_cons_zero]
          refine wpA_value ext_grow ?_ (fun _ _ h => by cases h) rfl rfl ?_ ?_
          rotate_left 1
          · intro w' hw' C hC
            have v0 := (hw'.cell (p := ⟨b2, o2 + k * 7, none⟩) hd2).trans d0
            have v1 := (hw'.cell (p := ⟨b2, o2 + k * 7 + 1, none⟩) hd2).trans d1
            have v2 := (hw'.cell (p := ⟨b2, o2 + k * 7 + 2, none⟩) hd2).trans d2
            have v3 := (hw'.cell (p := ⟨b2, o2 + k * 7 + 3, none⟩) hd2).trans d3
            have v4 := (hw'.cell (p := ⟨b2, o2 + k * 7 + 4, none⟩) hd2).trans d4
            have v5 := (hw'.cell (p := ⟨b2, o2 + k * 7 + 5, none⟩) hd2).trans d5
            have v6 := (hw'.cell (p := ⟨b2, o2 + k * 7 + 6, none⟩) hd2).trans d6
            go_simp
            try go_bits
            exact hC
          simp only [putS, List.set_cons_succ, List.set_cons_zero]
          refine wpA_known (.is (.bool true)) (fun _ _ h => by cases h) rfl rfl (mono_is _) (fun w' hw' => ?_) ?_
          · go_simp
            exact ⟨Below.refl _ _, (sameSnapT w' f1.p f1.A f2.A f1.c f2.c ((r1.drew.below hw').more hw'.size) f2.p ((r2.drew.below hw').more hw'.size) HE.out).mono fun e w'' h => is_ret (h.1) h.2⟩
          simp only [putS, List.set_cons_succ, List.set_cons_zero]
          refine wpA_value ext_grow ?_ (fun _ _ h => by cases h) rfl rfl ?_ ?_
          rotate_left 1
          · intro w' hw' C hC
            go_simp
            try go_bits
            exact hC
          simp only [putS, List.set_cons_succ, List.set_cons_zero]
          intro wd hwd
          simp only [openS]
          have hbd := below_of_drew hwd
          go_wp2_with fail
          go_roundw
          case rel => exact ⟨k + 1, by go_num, hlt, below_call hbr hbr.size hbd⟩
          case measure => simp [intOf]; omega
        · go_wp2_with fail
          go_ret
          exact ⟨rfl, by rw [← HBX.out]; exact HB2.out.trans (hbr.mono (Nat.le_of_lt z1))⟩
end

section
open Go.RowKit

abbrev Res := Nat × List Ps × List Sn × Nat
section
variable {w w' : World} {e : Ending} {er cu : Nat} {cs : List Ps} {cn : List Sn}
end
/-- a table in a box -/
structure TBox (w : World) (b : Nat) (sA : Option Addr) (sc : Nat) (ss : List Sl) (nA : Option Addr) (nc : Nat) (ns : List Nl) (cu : Nat) : Prop where
  bx : BoxN w b #[.slice sA ss.length sc, .slice nA ns.length nc, .int .u64 (cu : Int)].toList
  tab : TabR w w.heap.size sA sc ss nA nc ns
section
variable {w w' : World} {b : Nat} {sA : Option Addr} {sc : Nat} {ss : List Sl} {nA : Option Addr} {nc : Nat} {ns : List Nl} {cu : Nat}
theorem TBox.keep (h : TBox w b sA sc ss nA nc ns cu) (hb : Below w.heap.size w w') : TBox w' b sA sc ss nA nc ns cu := ⟨h.bx.keep hb h.bx.z, h.tab.later hb⟩
end
/-- the law's arguments in their boxes -/
structure StepB (w : World) (b4 b5 b6 : Nat) (sA : Option Addr) (sc : Nat) (ss : List Sl) (nA : Option Addr) (nc : Nat) (ns : List Nl) (cur : Nat) (p : Sn) (pA : Option Addr) (pc : Nat) (sid : UInt32) (sfs : List Fd) (fA : Option Addr) (fc : Nat) (ids : List UInt64) (iA : Option Addr) (ic : Nat) : Prop where
  t : TBox w b4 sA sc ss nA nc ns cur
  s : BoxN w b5 #[.int .u64 (p.id.toNat : Int), .int .u64 (p.par.toNat : Int), .int .u64 (p.seq.toNat : Int), .int .u64 (p.off.toNat : Int), .int .u64 (p.tim.toNat : Int), .int .u32 (p.sch.toNat : Int), .slice pA p.ms.length pc].toList
  h : BoxN w b6 [.int .u32 (sid.toNat : Int), .slice fA sfs.length fc]
  rs : Rd w w.heap.size 1 pA p.ms.length pc (strsV p.ms)
  rh : Rd w w.heap.size 4 fA sfs.length fc (fdsV sfs)
  ri : Rd w w.heap.size 1 iA ids.length ic (u64sV ids)
section
variable {w w' : World} {b4 b5 b6 : Nat} {sA : Option Addr} {sc : Nat} {ss : List Sl} {nA : Option Addr} {nc : Nat} {ns : List Nl} {cur : Nat} {p : Sn} {pA : Option Addr} {pc : Nat} {sid : UInt32} {sfs : List Fd} {fA : Option Addr} {fc : Nat} {ids : List UInt64} {iA : Option Addr} {ic : Nat}
theorem StepB.keep (q : StepB w b4 b5 b6 sA sc ss nA nc ns cur p pA pc sid sfs fA fc ids iA ic) (hb : Below w.heap.size w w') : StepB w' b4 b5 b6 sA sc ss nA nc ns cur p pA pc sid sfs fA fc ids iA ic :=
  ⟨q.t.keep hb, q.s.keep hb q.s.z, q.h.keep hb q.h.z, (q.rs.below hb).more hb.size, (q.rh.below hb).more hb.size, (q.ri.below hb).more hb.size⟩
end
theorem res_split (r : Res) : ∃ a b c d, r = (a, b, c, d) := ⟨r.1, r.2.1, r.2.2.1, r.2.2.2, rfl⟩
end

section
open Go.ChangeShapes Go.WideShapes Go.ChangeAt Go.RowKit
open Go.ChangeMaps (open_string shut_string)

theorem rd_row {k : IntKind} {w : World} {x : Addr} {len cap : Nat} {zs : List Int} (hl : len ≤ cap) (hm : cap ≤ maxLen) (hz : zs.length = cap)
    (hcell : ∀ i, i < zs.length → w.cell? (x.add i) = some (.int k (zs.getD i 0))) : Rd w w.heap.size 1 (some x) len cap ((zs.take len).map (.int k)) := by
  refine ⟨by simp; omega, hl, hm, fun hn => ?_⟩
  obtain ⟨b, off, spot⟩ := x
  have h0 := hcell 0 (by omega)
  have hspot : spot = none := by simpa [Addr.add] using World.cell?_spot h0
  subst hspot
  refine ⟨b, off, rfl, ?_, fun j u hu => ?_⟩
  · exact World.block_lt_of_cell? w _ h0
  · have hj : j < len := by
      have := (List.getElem?_eq_some_iff.1 hu).1
      simp at this
      omega
    have h1 := hcell j (by omega)
    rw [Addr.add_lit] at h1
    rw [h1]
    simp [hj, show j < zs.length by omega] at hu
    simp [List.getD, show j < zs.length by omega, hu]

section
variable {H : Type} {enc : TypeId × Value → H} {P : Program} {W : World} {t e : TypeId} {k : IntKind} {v : Value} {d : DataW H} {ps : List MemPlace} {r : Reach} {base : Nat}
/-- a slice of integers that came in -/
theorem frame_ints (ht : P.underlying t = some (.slice e)) (he : P.underlying e = some (.int k)) (hc : P.cellsOf e = 1) (hv : Value.okWide P W r base t v)
    (h : DataW.Trod enc P W 0 (fun _ => true) true t v d ps) :
    ∃ (A : Option Addr) (n c : Nat) (zs : List Int), v = .slice A n c ∧ Rd W W.heap.size 1 A n c (zs.map (.int k)) ∧ (∀ z ∈ zs, (Lit.int k z).wf = true) ∧
      (n = 0 ∨ ∃ elems spare, d = .slice elems spare ∧ n ≤ elems.length + spare.length) := by
  obtain ⟨A, n, c, rfl⟩ := okWide_slice ht hv
  obtain ⟨fuel, hf⟩ := h
  rcases open_ints ht he hc hf with ⟨hcs, _⟩ | ⟨x, l, cp, zs, hcs, _, hl, hm, hz, hx, hcell, hwz⟩
  · simp [Value.cells] at hcs
    obtain ⟨rfl, rfl, rfl⟩ := hcs
    exact ⟨_, _, _, [], rfl, Rd.nil _ _ _, by simp, .inl rfl⟩
  · simp [Value.cells] at hcs
    obtain ⟨rfl, rfl, rfl⟩ := hcs
    have hz' : zs.length = c := by simpa using hz
    refine ⟨_, _, _, zs.take n, rfl, rd_row hl hm hz' hcell, fun z hz => hwz z (List.mem_of_mem_take hz), .inr ?_⟩
    simp only [Prod.mk.injEq] at hx
    exact ⟨_, _, hx.1, by simp [Go.ChangeShapes.lits]; omega⟩
/-- a slice of bytes that came in -/
theorem frame_bytes (ht : P.underlying t = some (.slice e)) (he : P.underlying e = some (.int .u8)) (hc : P.cellsOf e = 1) (hv : Value.okWide P W r base t v)
    (h : DataW.Trod enc P W 0 (fun _ => true) true t v d ps) :
    ∃ (A : Option Addr) (n c : Nat) (l : List UInt8), v = .slice A n c ∧ Rd W W.heap.size 1 A n c (bytesV l) ∧
      (n = 0 ∨ ∃ elems spare, d = .slice elems spare ∧ n ≤ elems.length + spare.length) := by
  obtain ⟨A, n, c, zs, rfl, hr, hwf, hd⟩ := frame_ints ht he hc hv h
  refine ⟨A, n, c, zs.map fun z => UInt8.ofNat z.toNat, rfl, ?_, hd⟩
  have e : bytesV (zs.map fun z => UInt8.ofNat z.toNat) = zs.map (.int .u8) := by
    unfold bytesV
    rw [List.map_map]
    refine List.map_congr_left fun z hz => ?_
    have := bounds_u8 (hwf z hz)
    simp only [Function.comp, byteV]
    congr 1
    rw [UInt8.toNat_ofNat_of_lt' (by simp [UInt8.size]; omega)]
    omega
  rw [e]
  exact hr
end
end

section
open Go.ChangeShapes Go.WideShapes Go.ChangeAt Go.RowKit Go.Deep Go.Joins

section
variable {H : Type} {enc : TypeId × Value → H} {w : World} {base : Nat} {spare : Nat → Bool} {held : Bool} {fuel : Nat}
theorem cells_str : Tryd.prog.cellsOf 9 = 1 := by kernel_rfl
theorem cells_fd : Tryd.prog.cellsOf 44 = 4 := by kernel_rfl
theorem list4 {α : Type} {cs : List α} (h : cs.length = 4) : ∃ a b c d, cs = [a, b, c, d] := by
  match cs, h with
  | [a, b, c, d], _ => exact ⟨a, b, c, d, rfl⟩
/-- a field of a struct of one-cell fields, by its place -/
theorem trod_at {P : Program} {t : TypeId} {fs : Array Field} {cs : List Value} {x : DataW H × List MemPlace} {F : Nat} (ht : P.underlying t = some (.struct fs)) (hone : oneCellFields P fs = true) (h : DataW.trod enc P w base spare held F t cs = some x) (hl : cs.length = fs.size) :
    ∃ n, ∀ (i : Nat) (f : Field) (c : Value), fs[i]? = some f → cs[i]? = some c → ∃ y, DataW.trod enc P w base spare held n f.type [c] = some y := by
  obtain ⟨ys, n, _, _, _, hyl, hf⟩ := DataW.trod_struct ht h
  refine ⟨n, fun i f c hi hc => ?_⟩
  obtain ⟨ho, hk⟩ := hone_of hone i f hi
  have h1 := hf i f hi
  rw [ho, hk] at h1
  have hil : i < cs.length := (List.getElem?_eq_some_iff.1 hc).1
  have e : (cs.drop i).take 1 = [c] := by
    rw [List.drop_eq_getElem_cons hil]
    have := (List.getElem?_eq_some_iff.1 hc).2
    simp [this]
  rw [e] at h1
  have hys : i < ys.length := by rw [hyl]; rw [← hl]; exact hil
  exact ⟨_, h1.trans (List.getElem?_eq_getElem hys)⟩
theorem open_fd {cs : List Value} {x : DataW H × List MemPlace} (hl : cs.length = 4) (h : DataW.trod enc Tryd.prog w base spare held fuel 44 cs = some x) : ∃ f : Fd, cs = fdV f := by
  obtain ⟨n, hf⟩ := trod_at Tryd.underlying44 (by kernel_rfl) h hl
  obtain ⟨c0, c1, c2, c3, rfl⟩ := list4 hl
  obtain ⟨y0, h0⟩ := hf 0 _ c0 rfl rfl
  obtain ⟨y1, h1⟩ := hf 1 _ c1 rfl rfl
  obtain ⟨y2, h2⟩ := hf 2 _ c2 rfl rfl
  obtain ⟨y3, h3⟩ := hf 3 _ c3 rfl rfl
  obtain ⟨a0, e0, _, w0⟩ := DataW.trod_int Tryd.underlying27 h0
  obtain ⟨a1, e1, _, _⟩ := DataW.trod_string Tryd.underlying9 h1
  obtain ⟨a2, e2, _, w2⟩ := DataW.trod_int Tryd.underlying42 h2
  obtain ⟨a3, e3, _⟩ := DataW.trod_bool Tryd.underlying4 h3
  injection e0 with e0
  injection e1 with e1
  injection e2 with e2
  injection e3 with e3
  subst e0 e1 e2 e3
  have b0 := bounds_u32 w0
  have b2 := bounds_u8 w2
  refine ⟨⟨UInt32.ofNat a0.toNat, a1, UInt8.ofNat a2.toNat, a3⟩, ?_⟩
  unfold fdV
  rw [ofNat32 (by omega), ofNat8 (by omega)]
  congr 2
  · congr 1; omega
  · congr 2
    · congr 1; omega
theorem open_fds {cs : List Value} {x : DataW H × List MemPlace} (h : DataW.trod enc Tryd.prog w base (fun _ => true) held fuel 45 cs = some x) : ∃ (A : Option Addr) (n c : Nat) (l : List Fd), cs = [.slice A n c] ∧ Rd w w.heap.size 4 A n c (fdsV l) := by
  rcases open_slice Tryd.underlying45 h with ⟨h0, _⟩ | ⟨a, len, cap, m, n, D, Pl, hcs, hb, hl, hm, hmm, hx, hi⟩
  · exact ⟨none, 0, 0, [], h0, Rd.nil _ _ _⟩
  · rw [if_pos rfl] at hmm
    have each : ∀ i, i < len → ∃ f : Fd, ∀ j, j < 4 → w.cell? (a.add (i * 4 + j)) = (fdV f)[j]? := by
      intro i him
      obtain ⟨cs', hc, ht'⟩ := hi i (by omega)
      rw [cells_fd] at hc
      obtain ⟨_, hcl, hat⟩ := World.cells?_some hc
      obtain ⟨f, rfl⟩ := open_fd hcl ht'
      refine ⟨f, fun j hj => ?_⟩
      have := hat j hj
      rwa [Go.Deep.add_add] at this
    obtain ⟨F, hF⟩ := choose_lt each
    refine ⟨some a, len, cap, (List.range len).map F, hcs, ?_⟩
    refine ⟨by rw [fdsV_length]; simp, hl, hm, fun hn => ?_⟩
    obtain ⟨b, off, spot⟩ := a
    have hc0 := hF 0 hn 0 (by omega)
    have hspot : spot = none := by
      have := World.cell?_spot (hc0.trans rfl)
      simpa [Addr.add] using this
    subst hspot
    have hblk : b < w.heap.size := World.block_lt_of_cell? w _ (hc0.trans rfl)
    refine ⟨b, off, rfl, hblk, fun j u hu => ?_⟩
    have hjl : j < len * 4 := by
      have := (List.getElem?_eq_some_iff.1 hu).1
      rw [fdsV_length] at this
      simpa using this
    have e := fdsV_get ((List.range len).map F) (j / 4) (j % 4) (by simp; omega) (Nat.mod_lt _ (by omega))
    rw [show j / 4 * 4 + j % 4 = j by omega] at e
    have e2 := hF (j / 4) (by omega) (j % 4) (Nat.mod_lt _ (by omega))
    rw [show j / 4 * 4 + j % 4 = j by omega, Addr.add_lit] at e2
    rw [e2, ← hu, e]
    simp
end
end

section
open Go.ChangeShapes Go.WideShapes Go.ChangeAt Go.RowKit Go.Deep Go.Joins

section
variable {H : Type} {enc : TypeId × Value → H} {w : World} {base : Nat} {spare : Nat → Bool} {held : Bool} {fuel : Nat}
theorem open_sts {cs : List Value} {x : DataW H × List MemPlace} (h : DataW.trod enc Tryd.prog w base (fun _ => true) held fuel 28 cs = some x) : ∃ (A : Option Addr) (n c : Nat) (l : List ByteArray), cs = [.slice A n c] ∧ Rd w w.heap.size 1 A n c (strsV l) := by
  rcases open_strs Tryd.underlying28 Tryd.underlying9 cells_str h with ⟨h0, _⟩ | ⟨a, len, cap, m, Sx, hcs, hb, hl, hm, hmm, hx, hi⟩
  · exact ⟨none, 0, 0, [], h0, Rd.nil _ _ _⟩
  · rw [if_pos rfl] at hmm
    refine ⟨some a, len, cap, (List.range len).map Sx, hcs, ?_⟩
    refine ⟨by simp [strsV], hl, hm, fun hn => ?_⟩
    obtain ⟨b, off, spot⟩ := a
    have hc0 := (hi 0 (by omega)).1
    have hspot : spot = none := by
      have := World.cell?_spot hc0
      simpa [Addr.add] using this
    subst hspot
    have hblk : b < w.heap.size := World.block_lt_of_cell? w _ hc0
    refine ⟨b, off, rfl, hblk, fun j u hu => ?_⟩
    have hjl : j < len := by
      have := (List.getElem?_eq_some_iff.1 hu).1
      simpa [strsV] using this
    have e2 := (hi j (by omega)).1
    rw [Addr.add_lit] at e2
    rw [e2, ← hu]
    simp [strsV, hjl]
end
end

section
open Go.ChangeShapes Go.WideShapes Go.ChangeAt Go.RowKit Go.Deep Go.Joins

section
variable {H : Type} {enc : TypeId × Value → H} {w : World} {base : Nat} {spare : Nat → Bool} {held : Bool} {fuel : Nat}
theorem cells_sch : Tryd.prog.cellsOf 47 = 2 := by kernel_rfl
theorem cells_snap : Tryd.prog.cellsOf 30 = 7 := by kernel_rfl
/-- a row of things of k cells, each of which opens -/
theorem open_rows {α : Type} [Inhabited α] {P : Program} (encA : α → List Value) (k : Nat) (hk : ∀ a, (encA a).length = k) {ts te : TypeId} (hts : P.underlying ts = some (.slice te)) (hcl : P.cellsOf te = k) (hk0 : 0 < k) (Q : α → Prop)
    (hopen : ∀ (F : Nat) (cs : List Value) (x : DataW H × List MemPlace), cs.length = k → DataW.trod enc P w base (fun _ => true) held F te cs = some x → ∃ a, cs = encA a ∧ Q a)
    {cs : List Value} {x : DataW H × List MemPlace} (h : DataW.trod enc P w base (fun _ => true) held fuel ts cs = some x) :
    ∃ (A : Option Addr) (n c : Nat) (l : List α), cs = [.slice A n c] ∧ Rd w w.heap.size k A n c (l.flatMap encA) ∧ ∀ a ∈ l, Q a := by
  rcases open_slice hts h with ⟨h0, _⟩ | ⟨a, len, cap, m, n, D, Pl, hcs, hb, hl, hm, hmm, hx, hi⟩
  · exact ⟨none, 0, 0, [], h0, Rd.nil _ _ _, by simp⟩
  · rw [if_pos rfl] at hmm
    have each : ∀ i, i < len → ∃ f : α, (∀ j, j < k → w.cell? (a.add (i * k + j)) = (encA f)[j]?) ∧ Q f := by
      intro i him
      obtain ⟨cs', hc, ht'⟩ := hi i (by omega)
      rw [hcl] at hc
      obtain ⟨_, hcl', hat⟩ := World.cells?_some hc
      obtain ⟨f, rfl, hq⟩ := hopen _ _ _ hcl' ht'
      refine ⟨f, fun j hj => ?_, hq⟩
      have := hat j hj
      rwa [Go.Deep.add_add] at this
    obtain ⟨F, hF⟩ := choose_lt each
    refine ⟨some a, len, cap, (List.range len).map F, hcs, ?_, fun f hf => ?_⟩
    · refine ⟨by rw [flat_len encA k hk]; simp, hl, hm, fun hn => ?_⟩
      obtain ⟨b, off, spot⟩ := a
      have hc0 := (hF 0 hn).1 0 hk0
      have hx0 : ∃ v, (encA (F 0))[0]? = some v := ⟨_, List.getElem?_eq_getElem (by rw [hk]; exact hk0)⟩
      obtain ⟨v0, hv0⟩ := hx0
      have hspot : spot = none := by
        have := World.cell?_spot (hc0.trans hv0)
        simpa [Addr.add] using this
      subst hspot
      have hblk : b < w.heap.size := by
        have := World.block_lt_of_cell? w _ (hc0.trans hv0)
        rw [Addr.add_lit] at this
        exact this
      refine ⟨b, off, rfl, hblk, fun j u hu => ?_⟩
      have hjl : j < len * k := by
        have := (List.getElem?_eq_some_iff.1 hu).1
        rw [flat_len encA k hk] at this
        simpa using this
      have hd : j / k < len := Nat.div_lt_of_lt_mul (by rw [Nat.mul_comm]; exact hjl)
      have hm : j % k < k := Nat.mod_lt _ hk0
      have hjk : j / k * k + j % k = j := by rw [Nat.mul_comm]; exact Nat.div_add_mod j k
      have e := flat_get encA k hk ((List.range len).map F) (j / k) (j % k) (by simpa using hd) hm
      rw [hjk] at e
      have e2 := (hF (j / k) hd).1 (j % k) hm
      rw [hjk, Addr.add_lit] at e2
      rw [e2, ← hu, e]
      simp
    · obtain ⟨i, hi', rfl⟩ := List.mem_map.1 hf
      exact (hF i (by simpa using hi')).2
theorem list2 {α : Type} {cs : List α} (h : cs.length = 2) : ∃ a b, cs = [a, b] := by
  match cs, h with
  | [a, b], _ => exact ⟨a, b, rfl⟩
theorem list7 {α : Type} {cs : List α} (h : cs.length = 7) : ∃ a b c d e f g, cs = [a, b, c, d, e, f, g] := by
  match cs, h with
  | [a, b, c, d, e, f, g], _ => exact ⟨a, b, c, d, e, f, g, rfl⟩
theorem ofNat64 {n : Nat} (h : n < 18446744073709551616) : (UInt64.ofNat n).toNat = n := by rw [UInt64.toNat_ofNat']; omega
theorem open_sl {cs : List Value} {x : DataW H × List MemPlace} (hl : cs.length = 2) (h : DataW.trod enc Tryd.prog w base (fun _ => true) held fuel 47 cs = some x) : ∃ s : Sl, cs = slV s ∧ Rd w w.heap.size 4 s.A s.fs.length s.c (fdsV s.fs) := by
  obtain ⟨n, hf⟩ := trod_at Tryd.underlying47 (by kernel_rfl) h hl
  obtain ⟨c0, c1, rfl⟩ := list2 hl
  obtain ⟨y0, h0⟩ := hf 0 _ c0 rfl rfl
  obtain ⟨y1, h1⟩ := hf 1 _ c1 rfl rfl
  obtain ⟨a0, e0, _, w0⟩ := DataW.trod_int Tryd.underlying27 h0
  obtain ⟨A, m, c, l, e1, hr⟩ := open_fds h1
  injection e0 with e0
  injection e1 with e1
  subst e0 e1
  obtain rfl := hr.lenF
  have b0 := bounds_u32 w0
  refine ⟨⟨UInt32.ofNat a0.toNat, l, A, c⟩, ?_, hr⟩
  unfold slV
  rw [ofNat32 (by omega), show ((a0.toNat : Nat) : Int) = a0 by omega]
theorem open_nl {cs : List Value} {x : DataW H × List MemPlace} (hl : cs.length = 7) (h : DataW.trod enc Tryd.prog w base (fun _ => true) held fuel 30 cs = some x) : ∃ s : Nl, cs = nlV s ∧ Rd w w.heap.size 1 s.A s.p.ms.length s.c (strsV s.p.ms) := by
  obtain ⟨n, hf⟩ := trod_at Tryd.underlying30 (by kernel_rfl) h hl
  obtain ⟨c0, c1, c2, c3, c4, c5, c6, rfl⟩ := list7 hl
  obtain ⟨y0, h0⟩ := hf 0 _ c0 rfl rfl
  obtain ⟨y1, h1⟩ := hf 1 _ c1 rfl rfl
  obtain ⟨y2, h2⟩ := hf 2 _ c2 rfl rfl
  obtain ⟨y3, h3⟩ := hf 3 _ c3 rfl rfl
  obtain ⟨y4, h4⟩ := hf 4 _ c4 rfl rfl
  obtain ⟨y5, h5⟩ := hf 5 _ c5 rfl rfl
  obtain ⟨y6, h6⟩ := hf 6 _ c6 rfl rfl
  obtain ⟨a0, e0, _, w0⟩ := DataW.trod_int Tryd.underlying24 h0
  obtain ⟨a1, e1, _, w1⟩ := DataW.trod_int Tryd.underlying24 h1
  obtain ⟨a2, e2, _, w2⟩ := DataW.trod_int Tryd.underlying24 h2
  obtain ⟨a3, e3, _, w3⟩ := DataW.trod_int Tryd.underlying24 h3
  obtain ⟨a4, e4, _, w4⟩ := DataW.trod_int Tryd.underlying24 h4
  obtain ⟨a5, e5, _, w5⟩ := DataW.trod_int Tryd.underlying27 h5
  obtain ⟨A, m, c, l, e6, hr⟩ := open_sts h6
  injection e0 with e0
  injection e1 with e1
  injection e2 with e2
  injection e3 with e3
  injection e4 with e4
  injection e5 with e5
  injection e6 with e6
  subst e0 e1 e2 e3 e4 e5 e6
  obtain rfl := hr.lenT
  have b0 := bounds_u64 w0
  have b1 := bounds_u64 w1
  have b2 := bounds_u64 w2
  have b3 := bounds_u64 w3
  have b4 := bounds_u64 w4
  have b5 := bounds_u32 w5
  refine ⟨⟨⟨UInt64.ofNat a0.toNat, UInt64.ofNat a1.toNat, UInt64.ofNat a2.toNat, UInt64.ofNat a3.toNat, UInt64.ofNat a4.toNat, UInt32.ofNat a5.toNat, l⟩, A, c⟩, ?_, hr⟩
  unfold nlV
  rw [ofNat64 (by omega), ofNat64 (by omega), ofNat64 (by omega), ofNat64 (by omega), ofNat64 (by omega), ofNat32 (by omega)]
  rw [show ((a0.toNat : Nat) : Int) = a0 by omega, show ((a1.toNat : Nat) : Int) = a1 by omega, show ((a2.toNat : Nat) : Int) = a2 by omega, show ((a3.toNat : Nat) : Int) = a3 by omega, show ((a4.toNat : Nat) : Int) = a4 by omega, show ((a5.toNat : Nat) : Int) = a5 by omega]
set_option maxRecDepth 100000 in
theorem frame_table {W : World} {r : Reach} {v : Value} {d : DataW H} {ps : List MemPlace} {b0 : Nat} (hv : Value.okWide Tryd.prog W r b0 26 v) (h : DataW.Trod enc Tryd.prog W base (fun _ => true) held 26 v d ps) :
    ∃ (sA : Option Addr) (sc : Nat) (ss : List Sl) (nA : Option Addr) (nc : Nat) (ns : List Nl) (cur : UInt64), v = .agg #[.slice sA ss.length sc, .slice nA ns.length nc, .int .u64 (cur.toNat : Int)] ∧ TabR W W.heap.size sA sc ss nA nc ns := by
  obtain ⟨v0, v1, v2, y0, y1, y2, n, rfl, _, _, h0, h1, h2⟩ := open_agg3 Tryd.underlying26 (by kernel_rfl) (by kernel_rfl) hv h
  obtain ⟨sA, m, sc, ss, e0, hs, hsi⟩ := open_rows slV 2 slV_length Tryd.underlying22 cells_sch (by omega) _ (fun F cs x hl h => open_sl hl h) h0
  obtain ⟨nA, m2, nc, ns, e1, hn, hni⟩ := open_rows nlV 7 nlV_length Tryd.underlying23 cells_snap (by omega) _ (fun F cs x hl h => open_nl hl h) h1
  obtain ⟨a2, e2, _, w2⟩ := DataW.trod_int Tryd.underlying24 h2
  injection e0 with e0
  injection e1 with e1
  injection e2 with e2
  subst e0 e1 e2
  have b2 := bounds_u64 w2
  obtain rfl := Rd.lenS hs
  obtain rfl := Rd.lenN hn
  refine ⟨sA, sc, ss, nA, nc, ns, UInt64.ofNat a2.toNat, ?_, hs, hsi, hn, hni⟩
  rw [ofNat64 (by omega), show ((a2.toNat : Nat) : Int) = a2 by omega]
end
end

section
open Go.ChangeShapes Go.WideShapes Go.ChangeAt Go.RowKit Go.Deep Go.Joins

section
variable {H : Type} {enc : TypeId × Value → H} {base : Nat} {held : Bool}
set_option maxRecDepth 100000 in
theorem frame_snap {W : World} {r : Reach} {v : Value} {d : DataW H} {ps : List MemPlace} {b0 : Nat} (hv : Value.okWide Tryd.prog W r b0 30 v) (h : DataW.Trod enc Tryd.prog W base (fun _ => true) held 30 v d ps) :
    ∃ (p : Sn) (A : Option Addr) (c : Nat), v = .agg #[.int .u64 (p.id.toNat : Int), .int .u64 (p.par.toNat : Int), .int .u64 (p.seq.toNat : Int), .int .u64 (p.off.toNat : Int), .int .u64 (p.tim.toNat : Int), .int .u32 (p.sch.toNat : Int), .slice A p.ms.length c] ∧ Rd W W.heap.size 1 A p.ms.length c (strsV p.ms) := by
  obtain ⟨cs, rfl, hsz⟩ := okWide_struct Tryd.underlying30 hv
  obtain ⟨F, hf⟩ := h
  have hl : (Value.agg cs).cells.toList.length = 7 := by
    rw [cells_snap] at hsz
    simpa [Value.cells] using hsz
  obtain ⟨s, e, hr⟩ := open_nl hl hf
  refine ⟨s.p, s.A, s.c, ?_, hr⟩
  have e2 : cs = (nlV s).toArray := by
    rw [← e]
    simp [Value.cells]
  rw [e2]
  rfl
/-- ids by value -/
theorem ids_of {W : World} {A : Option Addr} {n c : Nat} {zs : List Int} (h : Rd W W.heap.size 1 A n c (zs.map (.int .u64))) (hz : ∀ z ∈ zs, 0 ≤ z ∧ z ≤ 18446744073709551615) : ∃ ids : List UInt64, n = ids.length ∧ Rd W W.heap.size 1 A n c (u64sV ids) := by
  have e : u64sV (zs.map fun z => UInt64.ofNat z.toNat) = zs.map (.int .u64) := by
    unfold u64sV
    rw [List.map_map]
    refine List.map_congr_left fun z hm => ?_
    obtain ⟨h0, h1⟩ := hz z hm
    show Value.int .u64 ((UInt64.ofNat z.toNat).toNat : Int) = _
    rw [ofNat64 (by omega), show ((z.toNat : Nat) : Int) = z by omega]
  rw [← e] at h
  exact ⟨_, h.lenU, h⟩
end
end

section
open Go.RowKit

theorem xor_zero (a : Nat) (ha : a < 18446744073709551616) : bits .xor .u64 (a : Int) 0 = (a : Int) := by
  have h := u64_xor_nat a 0 ha (by omega)
  simpa using h
end

section
def packF (f : Fd) : List UInt8 := Var.put f.id.toNat ++ (Var.put f.name.size ++ (f.name.data.toList ++ (Var.put f.kind.toNat ++ [if f.need then 1 else 0])))
def packFs (l : List Fd) : List UInt8 := l.flatMap packF
def pack (id : UInt32) (l : List Fd) : List UInt8 := Var.put id.toNat ++ (Var.put l.length ++ packFs l)
theorem packFs_cons (f : Fd) (l : List Fd) : packFs (f :: l) = packF f ++ packFs l := rfl
theorem packFs_append (a b : List Fd) : packFs (a ++ b) = packFs a ++ packFs b := by simp [packFs]

theorem num_put {most n : Nat} (h : n ≤ most) (hm : most < 18446744073709551616) (rest : List UInt8) : num most (Var.put n ++ rest) 0 = (n, rest, 0) := by
  have hg := Var.get_put (n := n) (by omega) rest
  rw [num_0 (by rw [hg]) (by rw [hg]; omega), hg]
  simp
theorem put_bit (b : Bool) : [if b then (1 : UInt8) else 0] = Var.put (if b then 1 else 0) := by
  cases b
  · rw [if_neg (by simp), if_neg (by simp), Var.put_lt (by omega)]; rfl
  · rw [if_pos rfl, if_pos rfl, Var.put_lt (by omega)]; rfl
theorem rdF_pack (f : Fd) (h : f.name.size ≤ 16) (rest : List UInt8) : rdF (packF f ++ rest) 0 = (f, rest, 0) := by
  have hid := f.id.toNat_lt
  have hkd := f.kind.toNat_lt
  have e1 : packF f ++ rest = Var.put f.id.toNat ++ (Var.put f.name.size ++ (f.name.data.toList ++ (Var.put f.kind.toNat ++ (Var.put (if f.need then 1 else 0) ++ rest)))) := by
    unfold packF
    rw [put_bit]
    simp only [List.append_assoc]
  have h1 := num_put (most := 4294967295) (n := f.id.toNat) (by omega) (by decide) (Var.put f.name.size ++ (f.name.data.toList ++ (Var.put f.kind.toNat ++ (Var.put (if f.need then 1 else 0) ++ rest))))
  have h2 := num_put (most := 16) (n := f.name.size) h (by decide) (f.name.data.toList ++ (Var.put f.kind.toNat ++ (Var.put (if f.need then 1 else 0) ++ rest)))
  have h3 := num_put (most := 255) (n := f.kind.toNat) (by omega) (by decide) (Var.put (if f.need then 1 else 0) ++ rest)
  have h4 := num_put (most := 1) (n := if f.need then 1 else 0) (by split <;> omega) (by decide) rest
  have hs : f.name.data.toList.length = f.name.size := by simp
  obtain ⟨t1, t2, t3⟩ := text_0 (r := (f.name.size, f.name.data.toList ++ (Var.put f.kind.toNat ++ (Var.put (if f.need then 1 else 0) ++ rest)), 0)) rfl (by simp only [List.length_append, hs]; omega)
  rw [e1, rdF_of h1 h2 (by rw [t1, t3]; simp only []; rw [← hs, List.drop_left]; exact h3) h4, t2]
  have hn : (⟨(List.take f.name.size (f.name.data.toList ++ (Var.put f.kind.toNat ++ (Var.put (if f.need then 1 else 0) ++ rest)))).toArray⟩ : ByteArray) = f.name := by
    rw [← hs, List.take_left]
  have hb : decide ((if f.need then 1 else 0) = 1) = f.need := by cases f.need <;> rfl
  simp only []
  rw [hn, hb]
theorem rdFs_pack : ∀ (l acc : List Fd) (rest : List UInt8), (∀ f ∈ l, f.name.size ≤ 16) → rdFs l.length (packFs l ++ rest) 0 acc = (acc ++ l, rest, 0)
  | [], acc, rest, _ => by simp [rdFs, packFs]
  | f :: l, acc, rest, h => by
    rw [packFs_cons, List.append_assoc, List.length_cons, rdFs_on, rdF_pack f (h f (by simp))]
    rw [rdFs_pack l _ rest fun g hg => h g (by simp [hg])]
    simp
theorem rdS_pack (id : UInt32) (l : List Fd) (rest : List UInt8) (h8 : l.length ≤ 8) (h : ∀ f ∈ l, f.name.size ≤ 16) : rdS (pack id l ++ rest) 0 = ⟨id, l, rest, check id l⟩ := by
  have hid := id.toNat_lt
  have h1 := num_put (most := 4294967295) (n := id.toNat) (by omega) (by decide) (Var.put l.length ++ (packFs l ++ rest))
  have h2 := num_put (most := 8) (n := l.length) h8 (by decide) (packFs l ++ rest)
  have h3 := rdFs_pack l [] rest h
  have e1 : pack id l ++ rest = Var.put id.toNat ++ (Var.put l.length ++ (packFs l ++ rest)) := by unfold pack; simp only [List.append_assoc]
  rw [e1, rdS_of h1.symm h2.symm h3]
  simp
/-- the names of a schema that may be are short -/
theorem check_names {id : UInt32} {l : List Fd} (h : check id l = 0) : ∀ f ∈ l, f.name.size ≤ 16 := by
  intro f hf
  obtain ⟨k, hk, rfl⟩ := List.getElem_of_mem hf
  have h0 := check_all h k hk
  have hg : l.getD k default = l[k] := by simp [List.getD, hk]
  by_cases h1 : l[k].id.toNat ≤ wasId l k
  · rw [errAt_81 (f := l[k]) hg h1] at h0; cases h0
  · cases hn : named l[k].name with
    | false => rw [errAt_80 (f := l[k]) hg h1 (by rw [hn]; rfl)] at h0; cases h0
    | true =>
      unfold named at hn
      simp at hn
      omega
theorem pack_unp {id : UInt32} {l : List Fd} (h : check id l = 0) (rest : List UInt8) : rdS (pack id l ++ rest) 0 = ⟨id, l, rest, 0⟩ := by
  rw [rdS_pack id l rest (check_len h).2.2 (check_names h), h]
end

section
open Go.RowKit

theorem row_below {w w' : World} {b : Nat} {o : Obj} (hT : w.heap[b]? = some o) (hb : Below w.heap.size w w') : w'.heap[b]? = some o :=
  (hb.block b (Array.getElem?_eq_some_iff.1 hT).1).trans hT
/-- a row of another type stands while one's own grows -/
theorem row_grown {w w' : World} {b base : Nat} {arr : Array Value} {t e : TypeId} {fr : Nat × Nat} {v : Value} {n sz : Nat} {xs : List Value} (hT : w.heap[b]? = some (.cells arr t fr)) (hown : w.ownsRow base e sz v n xs) (hg : w.grownBy w' v.ownBlock) (hne : e ≠ t) :
    w'.heap[b]? = some (.cells arr t fr) := by
  refine (hg.block b (Array.getElem?_eq_some_iff.1 hT).1 ?_).trans hT
  intro q
  rcases hown.2 with ⟨rfl, _⟩ | ⟨g, cap, cur, rfl, _, hgc, _⟩
  · cases q
  · simp only [Value.ownBlock] at q
    injection q with q
    subst q
    rw [hT] at hgc
    injection hgc with hgc
    injection hgc with _ q2 _
    exact hne q2.symm
def OwnB (B : Nat) (l : List UInt8) (v : Value) (w : World) : Prop := w.ownsRow B 5 1 v l.length (bytesV l)
theorem mono_ownB (B : Nat) (l : List UInt8) : (Slot.has (OwnB B l)).mono Ext := fun _ _ _ he h => own_below h he
theorem ownB_ret {w w' : World} {B : Nat} {l : List UInt8} {e : Ending} (h : RetBytes w l e w') (hB : B ≤ w.heap.size) : ∃ v, e = .returned v ∧ Ext w w' ∧ (Slot.has (OwnB B l)).holds v w' := by
  obtain ⟨v, rfl, ho, hb⟩ := h
  exact ⟨v, rfl, hb, own_base ho hB⟩
theorem bytesR_ret {w w' : World} {l : List UInt8} {e : Ending} (h : RetBytes w l e w') : ∃ v, e = .returned v ∧ Ext w w' ∧ (Slot.has (BytesR l)).holds v w' := by
  obtain ⟨v, h1, h2, h3⟩ := h
  exact bytes_ret h1 h2 h3
def Sized (l : List Fd) : Prop := l.length ≤ 1000000 ∧ ∀ j, j < l.length → (l.getD j default).name.size ≤ 1000000
/-- what holds at each round -/
def PR (wx : World) (id : UInt32) (l : List Fd) (v iv : Value) (wr : World) : Prop :=
  ∃ (k : Nat) (cur : List UInt8) (vb : Value), v = vb ∧ iv = .int .i64 (k : Int) ∧ k ≤ l.length ∧ wr.ownsRow wx.heap.size 5 1 vb cur.length (bytesV cur) ∧ Hid (cur = Var.put id.toNat ++ (Var.put l.length ++ packFs (l.take k))) ∧ cur.length ≤ 20 + k * 1000031 ∧ Below wx.heap.size wx wr
theorem packFs_take {l : List Fd} {k : Nat} (hk : k < l.length) : packFs (l.take (k + 1)) = packFs (l.take k) ++ packF (l.getD k default) := by
  rw [List.take_add_one, packFs_append]
  simp [hk, packFs, List.getD]
theorem cur_next {id : UInt32} {l : List Fd} {k : Nat} {cur c1 c2 c3 c4 c5 : List UInt8} (hk : k < l.length) (h : cur = Var.put id.toNat ++ (Var.put l.length ++ packFs (l.take k))) {f : Fd} (hf : f = l.getD k default)
    (h1 : c1 = cur ++ Var.put f.id.toNat) (h2 : c2 = c1 ++ Var.put f.name.size) (h3 : c3 = c2 ++ f.name.data.toList) (h4 : c4 = c3 ++ Var.put f.kind.toNat) (h5 : c5 = c4 ++ [if f.need then 1 else 0]) :
    c5 = Var.put id.toNat ++ (Var.put l.length ++ packFs (l.take (k + 1))) := by
  rw [packFs_take hk, ← hf, h5, h4, h3, h2, h1, h]
  unfold packF
  simp only [List.append_assoc]
set_option maxRecDepth 100000 in
set_option maxHeartbeats 4000000 in
theorem schPack (w : World) (id : UInt32) (n c : Nat) (A : Option Addr) (l : List Fd) (hr : Rd w w.heap.size 4 A n c (fdsV l)) (hsz : Sized l) :
    Calls Tryd.prog 27 #[.agg #[.int .u32 (id.toNat : Int), .slice A n c]] w (RetBytes w (pack id l)) := by
  obtain rfl := hr.lenF
  obtain ⟨hl6, hnm6⟩ := hsz
  have hidb : id.toNat < 4294967296 := id.toNat_lt
  go_enter Tryd.func27, Tryd.ntmps27
  go_wp2_with fail
  have x1 := box_new w #[.int .u32 (id.toNat : Int), .slice A l.length c] 47
  obtain ⟨wx, hwx⟩ : ∃ wx, wx = w.alloc (.cells #[.int .u32 (id.toNat : Int), .slice A l.length c] 47) := ⟨_, rfl⟩
  rw [← hwx] at x1 ⊢
  have s0 := x1.cell 0 _ rfl
  have s1 := x1.cell 1 _ rfl
  have zx : w.heap.size < wx.heap.size := by have := x1.size; omega
  have hrx := hr.below x1.below
  have hBx := x1.below
  obtain ⟨bx, hbx⟩ : ∃ bx, bx = w.heap.size := ⟨_, rfl⟩
  rw [← hbx] at s0 s1 zx hrx ⊢
  have HBX := hide hbx
  clear hwx x1 hr hbx
  have hp1 := Var.put_le10 (n := id.toNat) (by omega)
  have hp2 := Var.put_le10 (n := l.length) (by omega)
  have e32 : (id.toNat : Int) % 18446744073709551616 = (id.toNat : Int) := by omega
  have e33 : IntKind.u64.wrap (id.toNat : Int) = (id.toNat : Int) := by rw [IntKind.wrap_u64]; omega
  have e34 : (l.length : Int) % 18446744073709551616 = (l.length : Int) := by omega
  have e35 : IntKind.u64.wrap (l.length : Int) = (l.length : Int) := by rw [IntKind.wrap_u64]; omega
  refine wp_region_abs_tail 9 ext_grow (by kernel_rfl) (by kernel_rfl) ?_
  simp only [List.map_cons, List.map_nil, List.take_succ_cons, List.take_zero, List.drop_succ_cons, List.drop_zero]
  refine wpA_value ext_grow ?_ (fun _ _ h => by cases h) rfl rfl ?_ ?_
  rotate_left 1
  · intro w' hw' C hC
    go_simp
    try go_bits
    exact hC
  simp only [putS, List.set_cons_succ, List.set_cons_zero]
  refine wpA_value ext_grow ?_ (fun _ _ h => by cases h) rfl rfl ?_ ?_
  rotate_left 1
  · intro w' hw' C hC
    have q := (hw'.cell (p := ⟨bx, 0, none⟩) zx).trans s0
    go_simp
    try go_bits
    exact hC
  simp only [putS, List.set_cons_succ, List.set_cons_zero]
  refine wpA_value ext_grow ?_ (fun _ _ h => by cases h) rfl rfl ?_ ?_
  rotate_left 1
  · intro w' hw' C hC
    have q := e33
    go_simp
    try go_bits
    exact hC
  simp only [putS, List.set_cons_succ, List.set_cons_zero]
  refine wpA_known (.has (OwnB wx.heap.size (Var.put id.toNat))) (fun _ _ h => by cases h) rfl rfl (mono_ownB _ _) (fun w' hw' => ?_) ?_
  · go_simp
    exact ⟨Below.refl _ _, (varPut (id.toNat : Int) w' (by omega) (by omega)).mono fun e w'' h => ownB_ret (by rw [Int.toNat_natCast] at h; exact h) hw'.size⟩
  simp only [putS, List.set_cons_succ, List.set_cons_zero]
  refine wpA_value ext_grow ?_ (fun _ _ h => by cases h) rfl rfl ?_ ?_
  rotate_left 1
  · intro w' hw' C hC
    go_simp
    try go_bits
    exact hC
  simp only [putS, List.set_cons_succ, List.set_cons_zero]
  refine wpA_value ext_grow ?_ (fun _ _ h => by cases h) rfl rfl ?_ ?_
  rotate_left 1
  · intro w' hw' C hC
    have q := (hw'.cell (p := ⟨bx, 1, none⟩) zx).trans s1
    go_simp
    try go_bits
    exact hC
  simp only [putS, List.set_cons_succ, List.set_cons_zero]
  refine wpA_value ext_grow ?_ (fun _ _ h => by cases h) rfl rfl ?_ ?_
  rotate_left 1
  · intro w' hw' C hC
    go_simp
    try go_bits
    exact hC
  simp only [putS, List.set_cons_succ, List.set_cons_zero]
  refine wpA_value ext_grow ?_ (fun _ _ h => by cases h) rfl rfl ?_ ?_
  rotate_left 1
  · intro w' hw' C hC
    have q := e35
    go_simp
    try go_bits
    exact hC
  simp only [putS, List.set_cons_succ, List.set_cons_zero]
  refine wpA_known (.has (BytesR (Var.put l.length))) (fun _ _ h => by cases h) rfl rfl (mono_bytes _) (fun w' hw' => ?_) ?_
  · go_simp
    exact ⟨Below.refl _ _, (varPut (l.length : Int) w' (by omega) (by omega)).mono fun e w'' h => bytesR_ret (by rw [Int.toNat_natCast] at h; exact h)⟩
  simp only [putS, List.set_cons_succ, List.set_cons_zero]
  intro wA hwA
  simp only [openS]
  intro vo ho vl hvl
  obtain ⟨Al, cl, rfl, hl⟩ := hvl
  have hbA : Below wx.heap.size wx wA := below_of_drew hwA
  have ho : wA.ownsRow wx.heap.size 5 1 vo (Var.put id.toNat).length (bytesV (Var.put id.toNat)) := ho
  clear hwA e32 e33 e34 e35
  go_wp2_with (at_builtin; refine wpList_app _ tyBytes rfl (.tmp 10) (.tmp 15) rfl wx.heap.size _ _ _ rfl ho wA.heap.size Al _ cl _ rfl hl (bytesV_one _) (by omega) hbA.size ?_; intro v2 wB hown hg _; have hbB := below_app hbA (Nat.le_refl _) ho hg hbA.size; have s1B := (hbB.cell (p := ⟨bx, 1, none⟩) zx).trans s1; clear hg)
  have hown0 : wB.ownsRow wx.heap.size 5 1 v2 (Var.put id.toNat ++ (Var.put l.length ++ packFs (l.take 0))).length (bytesV (Var.put id.toNat ++ (Var.put l.length ++ packFs (l.take 0)))) := by
    simp only [List.take_zero, packFs, List.flatMap_nil, List.append_nil]
    rw [List.length_append, bytesV_append]
    exact hown
  clear hown ho hl hbA
  go_loopw [3, 20] (PR wx id l) (fun _ iv _ => l.length - (intOf iv).toNat)
  case atStart => exact ⟨0, _, _, rfl, rfl, Nat.zero_le _, hown0, hide rfl, by simp [packFs]; omega, hbB⟩
  case round =>
    clear hown0 hbB
    obtain ⟨k, cur, vb, rfl, rfl, hk, hown, hcur, hlen, hbr⟩ := hrel
    have s1r := (hbr.cell (p := ⟨bx, 1, none⟩) zx).trans s1
    by_cases hlt : k < l.length
    · obtain ⟨b0, off, rfl, hb0, f0, f1, f2, f3⟩ := (hrx.below' hbr (Nat.le_of_lt zx)).fd hlt
      have hfn := hnm6 k hlt
      obtain ⟨f, hf⟩ : ∃ f, f = l.getD k default := ⟨_, rfl⟩
      rw [← hf] at f0 f1 f2 f3 hfn
      have HF := hide hf
      have HN := hide hfn
      have hfid := f.id.toNat_lt
      have hfkd := f.kind.toNat_lt
      have q1 := Var.put_le10 (n := f.id.toNat) (by omega)
      have q2 := Var.put_le10 (n := f.name.size) (by omega)
      have q3 := Var.put_le10 (n := f.kind.toNat) (by omega)
      have q4 : f.name.data.toList.length = f.name.size := by simp
      have m1 : (f.name.size : Int) % 18446744073709551616 = (f.name.size : Int) := by omega
      have HQ := hide (And.intro q1 (And.intro q2 (And.intro q3 q4)))
      clear hf q1 q2 q3 q4 hfn
      go_wp2_with fail
      have hT := heap_alloc_new wr (.cells #[.int .u32 (f.id.toNat : Int), .string f.name, .int .u8 (f.kind.toNat : Int), .bool f.need] 44)
      have hown1 := hown.alloc (.cells #[.int .u32 (f.id.toNat : Int), .string f.name, .int .u8 (f.kind.toNat : Int), .bool f.need] 44)
      have hb1 := hbr.alloc hbr.size (.cells #[.int .u32 (f.id.toNat : Int), .string f.name, .int .u8 (f.kind.toNat : Int), .bool f.need] 44)
      generalize wr.alloc (.cells #[.int .u32 (f.id.toNat : Int), .string f.name, .int .u8 (f.kind.toNat : Int), .bool f.need] 44) = w1 at *
      generalize wr.heap.size = bf at *
      clear f0 f1 f2 f3 hown hbr s1r
      have g10 := cell_of_row w1 bf 0 _ _ _ hT
      simp at g10
      go_wp2_with fail
      refine (varPut (f.id.toNat : Int) w1 (by omega) (by omega)).mono ?_
      rintro e w2 ⟨vp, rfl, hop, hbp⟩
      rw [Int.toNat_natCast] at hop
      obtain ⟨pA, pc, rfl, hrp⟩ := Rd.of_own hop
      have hT2 := row_below hT hbp
      have hown2 := own_below hown1 hbp
      have hb2 := below_call hb1 hb1.size hbp
      have zz2 := hb2.size
      clear hop hbp hown1 hb1 hT
      obtain ⟨ti, hti, hti1, hti2, hti3⟩ := info_parts tyBytes.inf
      go_wp2_with (at_builtin; refine wpList_app _ tyBytes rfl (.tmp 24) (.tmp 28) rfl wx.heap.size _ _ _ rfl hown2 w2.heap.size pA _ pc _ rfl hrp (bytesV_one _) (by have := HQ.out.1; omega) hb2.size ?_; intro v3 w3 ho hg _; have hb3 := below_app hb2 (Nat.le_refl _) hown2 hg hb2.size; have hT3 := row_grown hT2 hown2 hg (by decide); obtain ⟨c1, hc1⟩ : ∃ c, c = cur ++ Var.put f.id.toNat := ⟨_, rfl⟩; have hown3 : w3.ownsRow wx.heap.size 5 1 v3 c1.length (bytesV c1) := (by rw [hc1, List.length_append, bytesV_append]; exact ho); have hlc1 : c1.length = cur.length + (Var.put f.id.toNat).length := (by rw [hc1, List.length_append]); have Hc1 := hide hc1; have HLc1 := hide hlc1; have g31 := cell_of_row w3 bf 1 _ _ _ hT3; simp at g31; clear ho hg hc1 hlc1)
      refine (varPut (f.name.size : Int) w3 (by omega) (by have := HN.out; omega)).mono ?_
      rintro e w4 ⟨vp, rfl, hop, hbp⟩
      rw [Int.toNat_natCast] at hop
      obtain ⟨pA, pc, rfl, hrp⟩ := Rd.of_own hop
      have hT4 := row_below hT3 hbp
      have hown4 := own_below hown3 hbp
      have hb4 := below_call hb3 hb3.size hbp
      have zz4 := hb4.size
      clear hop hbp hown3 hb3 hT3
      go_wp2_with (first | (at_builtin; refine wpList_app _ tyBytes rfl (.tmp 30) (.tmp 35) rfl wx.heap.size _ _ _ rfl hown4 w4.heap.size pA _ pc _ rfl hrp (bytesV_one _) (by have := HQ.out; have := HN.out; have := HLc1.out; omega) hb4.size ?_; intro v5 w5 ho hg _; have hb5 := below_app hb4 (Nat.le_refl _) hown4 hg hb4.size; have hT5 := row_grown hT4 hown4 hg (by decide); obtain ⟨c2, hc2⟩ : ∃ c, c = c1 ++ Var.put f.name.size := ⟨_, rfl⟩; have hown5 : w5.ownsRow wx.heap.size 5 1 v5 c2.length (bytesV c2) := (by rw [hc2, List.length_append, bytesV_append]; exact ho); have hlc2 : c2.length = c1.length + (Var.put f.name.size).length := (by rw [hc2, List.length_append]); have Hc2 := hide hc2; have HLc2 := hide hlc2; have g51 := cell_of_row w5 bf 1 _ _ _ hT5; simp at g51; clear ho hg hc2 hlc2) | (at_builtin; refine Go.Lib.wpList_append_own_string _ rfl (.tmp 37) (.tmp 39) 34 9 rfl wx.heap.size 5 ti Tryd.underlying34 Tryd.underlying9 hti hti1 hti2 hti3 _ _ _ rfl hown5 f.name rfl (by have := HLc2.out; have := HQ.out; have := HN.out; have := HLc1.out; unfold maxLen; omega) (by have := HLc2.out; have := HQ.out; have := HN.out; have := HLc1.out; omega) hb5.size ?_; intro v6 w6 ho hg _; have hb6 := below_app hb5 (Nat.le_refl _) hown5 hg hb5.size; have hT6 := row_grown hT5 hown5 hg (by decide); obtain ⟨c3, hc3⟩ : ∃ c, c = c2 ++ f.name.data.toList := ⟨_, rfl⟩; have hown6 : w6.ownsRow wx.heap.size 5 1 v6 c3.length (bytesV c3) := (by rw [hc3, List.length_append, bytesV_append]; exact ho); have hlc3 : c3.length = c2.length + f.name.size := (by rw [hc3, List.length_append, HQ.out.2.2.2]); have Hc3 := hide hc3; have HLc3 := hide hlc3; have g62 := cell_of_row w6 bf 2 _ _ _ hT6; simp at g62; clear ho hg hc3 hlc3))
      refine (varPut (f.kind.toNat : Int) w6 (by omega) (by omega)).mono ?_
      rintro e w7 ⟨vp, rfl, hop, hbp⟩
      rw [Int.toNat_natCast] at hop
      obtain ⟨pA, pc, rfl, hrp⟩ := Rd.of_own hop
      have hT7 := row_below hT6 hbp
      have hown7 := own_below hown6 hbp
      have hb7 := below_call hb6 hb6.size hbp
      have zz7 := hb7.size
      clear hop hbp hown6 hb6 hT6
      obtain ⟨nd, hnd⟩ : ∃ nd, nd = f.need := ⟨_, rfl⟩
      rw [← hnd] at hT7
      have HND := hide hnd
      clear hnd
      cases nd with
      | true =>
        go_wp2_with (first | (at_builtin; refine wpList_app _ tyBytes rfl (.tmp 41) (.tmp 45) rfl wx.heap.size _ _ _ rfl hown7 w7.heap.size pA _ pc _ rfl hrp (bytesV_one _) (by have := HQ.out; have := HN.out; have := HLc1.out; have := HLc2.out; have := HLc3.out; omega) hb7.size ?_; intro v8 w8 ho hg _; have hb8 := below_app hb7 (Nat.le_refl _) hown7 hg hb7.size; have hT8 := row_grown hT7 hown7 hg (by decide); obtain ⟨c4, hc4⟩ : ∃ c, c = c3 ++ Var.put f.kind.toNat := ⟨_, rfl⟩; have hown8 : w8.ownsRow wx.heap.size 5 1 v8 c4.length (bytesV c4) := (by rw [hc4, List.length_append, bytesV_append]; exact ho); have hlc4 : c4.length = c3.length + (Var.put f.kind.toNat).length := (by rw [hc4, List.length_append]); have Hc4 := hide hc4; have HLc4 := hide hlc4; have g83 := cell_of_row w8 bf 3 _ _ _ hT8; simp at g83; clear ho hg hc4 hlc4) | (at_builtin; have hownL := hown8.alloc (.cells #[.int .u8 1] 5); have hlit : Rd (w8.alloc (.cells #[.int .u8 1] 5)) (w8.heap.size + 1) 1 (some ⟨w8.heap.size, 0, none⟩) 1 1 (bytesV [if true then 1 else 0]) := Rd.lit w8 5 #[.int .u8 1] (n := 1) (sz := 1) rfl (by decide); refine wpList_app _ tyBytes rfl (.tmp 49) (.tmp 51) rfl wx.heap.size _ _ _ rfl hownL (w8.heap.size + 1) _ 1 1 _ rfl hlit (bytesV_one _) (by have := HQ.out; have := HN.out; have := HLc1.out; have := HLc2.out; have := HLc3.out; have := HLc4.out; omega) (by simp; have := hb8.size; omega) ?_; intro v9 w9 ho hg _; have hbL := hb8.alloc hb8.size (.cells #[.int .u8 1] 5); have hb9 := below_app hbL (Nat.le_refl _) hownL hg (by simp; have := hb8.size; omega); obtain ⟨c5, hc5⟩ : ∃ c, c = c4 ++ [if true then 1 else 0] := ⟨_, rfl⟩; have hown9 : w9.ownsRow wx.heap.size 5 1 v9 c5.length (bytesV c5) := (by rw [hc5, List.length_append, bytesV_append]; exact ho); have Hc5 := hide hc5; clear ho hg hc5 hlit hownL hbL))
        go_roundw
        case rel =>
          refine ⟨k + 1, c5, v9, rfl, by go_num, by omega, hown9, hide (cur_next hlt hcur.out HF.out Hc1.out Hc2.out Hc3.out Hc4.out (by rw [← HND.out]; exact Hc5.out)), ?_, hb9⟩
          have := HLc1.out
          have := HLc2.out
          have := HLc3.out
          have := HLc4.out
          have := HQ.out
          have := HN.out
          rw [Hc5.out, List.length_append]
          simp only [List.length_cons, List.length_nil]
          omega
        case measure => exact meas_sub k _ hlt
      | false =>
        go_wp2_with (first | (at_builtin; refine wpList_app _ tyBytes rfl (.tmp 41) (.tmp 45) rfl wx.heap.size _ _ _ rfl hown7 w7.heap.size pA _ pc _ rfl hrp (bytesV_one _) (by have := HQ.out; have := HN.out; have := HLc1.out; have := HLc2.out; have := HLc3.out; omega) hb7.size ?_; intro v8 w8 ho hg _; have hb8 := below_app hb7 (Nat.le_refl _) hown7 hg hb7.size; have hT8 := row_grown hT7 hown7 hg (by decide); obtain ⟨c4, hc4⟩ : ∃ c, c = c3 ++ Var.put f.kind.toNat := ⟨_, rfl⟩; have hown8 : w8.ownsRow wx.heap.size 5 1 v8 c4.length (bytesV c4) := (by rw [hc4, List.length_append, bytesV_append]; exact ho); have hlc4 : c4.length = c3.length + (Var.put f.kind.toNat).length := (by rw [hc4, List.length_append]); have Hc4 := hide hc4; have HLc4 := hide hlc4; have g83 := cell_of_row w8 bf 3 _ _ _ hT8; simp at g83; clear ho hg hc4 hlc4) | (at_builtin; have hownL := hown8.alloc (.cells #[.int .u8 0] 5); have hlit : Rd (w8.alloc (.cells #[.int .u8 0] 5)) (w8.heap.size + 1) 1 (some ⟨w8.heap.size, 0, none⟩) 1 1 (bytesV [if false then 1 else 0]) := Rd.lit w8 5 #[.int .u8 0] (n := 1) (sz := 1) rfl (by decide); refine wpList_app _ tyBytes rfl (.tmp 49) (.tmp 51) rfl wx.heap.size _ _ _ rfl hownL (w8.heap.size + 1) _ 1 1 _ rfl hlit (bytesV_one _) (by have := HQ.out; have := HN.out; have := HLc1.out; have := HLc2.out; have := HLc3.out; have := HLc4.out; omega) (by simp; have := hb8.size; omega) ?_; intro v9 w9 ho hg _; have hbL := hb8.alloc hb8.size (.cells #[.int .u8 0] 5); have hb9 := below_app hbL (Nat.le_refl _) hownL hg (by simp; have := hb8.size; omega); obtain ⟨c5, hc5⟩ : ∃ c, c = c4 ++ [if false then 1 else 0] := ⟨_, rfl⟩; have hown9 : w9.ownsRow wx.heap.size 5 1 v9 c5.length (bytesV c5) := (by rw [hc5, List.length_append, bytesV_append]; exact ho); have Hc5 := hide hc5; clear ho hg hc5 hlit hownL hbL))
        go_roundw
        case rel =>
          refine ⟨k + 1, c5, v9, rfl, by go_num, by omega, hown9, hide (cur_next hlt hcur.out HF.out Hc1.out Hc2.out Hc3.out Hc4.out (by rw [← HND.out]; exact Hc5.out)), ?_, hb9⟩
          have := HLc1.out
          have := HLc2.out
          have := HLc3.out
          have := HLc4.out
          have := HQ.out
          have := HN.out
          rw [Hc5.out, List.length_append]
          simp only [List.length_cons, List.length_nil]
          omega
        case measure => exact meas_sub k _ hlt
    · have hlt2 : ¬ k < l.length := hlt
      go_wp2_with fail
      go_ret
      refine ⟨_, rfl, ?_, hBx.trans (hbr.mono (Nat.le_of_lt (by have := zx; rw [HBX.out] at this; exact this)))⟩
      have hc := hcur.out
      rw [show k = l.length by omega, List.take_length] at hc
      have e1 : pack id l = cur := by rw [hc]; rfl
      rw [e1]
      exact own_base hown (Nat.le_of_lt (by have := zx; rw [HBX.out] at this; exact this))
set_option maxRecDepth 100000 in
set_option maxHeartbeats 4000000 in
theorem refPack (w : World) (id : UInt32) (n c : Nat) (A : Option Addr) (l : List Fd) (hr : Rd w w.heap.size 4 A n c (fdsV l)) (hsz : Sized l) :
    Calls Tryd.prog 36 #[.agg #[.int .u32 (id.toNat : Int), .slice A n c]] w (RetBytes w (pack id l)) := by
  obtain rfl := hr.lenF
  obtain ⟨hl6, hnm6⟩ := hsz
  have hidb : id.toNat < 4294967296 := id.toNat_lt
  go_enter Tryd.func36, Tryd.ntmps36
  go_wp2_with fail
  have x1 := box_new w #[.int .u32 (id.toNat : Int), .slice A l.length c] 47
  obtain ⟨wx, hwx⟩ : ∃ wx, wx = w.alloc (.cells #[.int .u32 (id.toNat : Int), .slice A l.length c] 47) := ⟨_, rfl⟩
  rw [← hwx] at x1 ⊢
  have s0 := x1.cell 0 _ rfl
  have s1 := x1.cell 1 _ rfl
  have zx : w.heap.size < wx.heap.size := by have := x1.size; omega
  have hrx := hr.below x1.below
  have hBx := x1.below
  obtain ⟨bx, hbx⟩ : ∃ bx, bx = w.heap.size := ⟨_, rfl⟩
  rw [← hbx] at s0 s1 zx hrx ⊢
  have HBX := hide hbx
  clear hwx x1 hr hbx
  have hp1 := Var.put_le10 (n := id.toNat) (by omega)
  have hp2 := Var.put_le10 (n := l.length) (by omega)
  refine (refPut (id.toNat : Int) wx (by omega) (by omega)).mono ?_
  rintro e w1 ⟨v1, rfl, ho1, hb1⟩
  rw [Int.toNat_natCast] at ho1
  have s11 := (hb1.cell (p := ⟨bx, 1, none⟩) zx).trans s1
  go_wp2_with fail
  refine (refPut (l.length : Int) w1 (by omega) (by omega)).mono ?_
  rintro e wA ⟨v2, rfl, ho2, hb2⟩
  rw [Int.toNat_natCast] at ho2
  obtain ⟨Al, cl, rfl, hl⟩ := Rd.of_own ho2
  have hbA : Below wx.heap.size wx wA := below_call hb1 hb1.size hb2
  have ho := own_below ho1 hb2
  clear ho1 ho2 hb1 hb2 s11
  go_wp2_with (at_builtin; refine wpList_app _ tyBytes rfl (.tmp 10) (.tmp 15) rfl wx.heap.size _ _ _ rfl ho wA.heap.size Al _ cl _ rfl hl (bytesV_one _) (by omega) hbA.size ?_; intro v2 wB hown hg _; have hbB := below_app hbA (Nat.le_refl _) ho hg hbA.size; clear hg)
  have hown0 : wB.ownsRow wx.heap.size 5 1 v2 (Var.put id.toNat ++ (Var.put l.length ++ packFs (l.take 0))).length (bytesV (Var.put id.toNat ++ (Var.put l.length ++ packFs (l.take 0)))) := by
    simp only [List.take_zero, packFs, List.flatMap_nil, List.append_nil]
    rw [List.length_append, bytesV_append]
    exact hown
  clear hown ho hl hbA
  go_loopw [3, 4] (PR wx id l) (fun _ iv _ => l.length - (intOf iv).toNat)
  case atStart => exact ⟨0, _, _, rfl, rfl, Nat.zero_le _, hown0, hide rfl, by simp [packFs]; omega, hbB⟩
  case round =>
    clear hown0 hbB
    obtain ⟨k, cur, vb, rfl, rfl, hk, hown, hcur, hlen, hbr⟩ := hrel
    have s1r := (hbr.cell (p := ⟨bx, 1, none⟩) zx).trans s1
    by_cases hlt : k < l.length
    · obtain ⟨b0, off, rfl, hb0, f0, f1, f2, f3⟩ := (hrx.below' hbr (Nat.le_of_lt zx)).fd hlt
      have hfn := hnm6 k hlt
      obtain ⟨f, hf⟩ : ∃ f, f = l.getD k default := ⟨_, rfl⟩
      rw [← hf] at f0 f1 f2 f3 hfn
      have HF := hide hf
      have HN := hide hfn
      have hfid := f.id.toNat_lt
      have hfkd := f.kind.toNat_lt
      have q1 := Var.put_le10 (n := f.id.toNat) (by omega)
      have q2 := Var.put_le10 (n := f.name.size) (by omega)
      have q3 := Var.put_le10 (n := f.kind.toNat) (by omega)
      have q4 : f.name.data.toList.length = f.name.size := by simp
      have m1 : (f.name.size : Int) % 18446744073709551616 = (f.name.size : Int) := by omega
      have HQ := hide (And.intro q1 (And.intro q2 (And.intro q3 q4)))
      clear hf q1 q2 q3 q4 hfn
      go_wp2_with fail
      have hT := heap_alloc_new wr (.cells #[.int .u32 (f.id.toNat : Int), .string f.name, .int .u8 (f.kind.toNat : Int), .bool f.need] 44)
      have hown1 := hown.alloc (.cells #[.int .u32 (f.id.toNat : Int), .string f.name, .int .u8 (f.kind.toNat : Int), .bool f.need] 44)
      have hb1 := hbr.alloc hbr.size (.cells #[.int .u32 (f.id.toNat : Int), .string f.name, .int .u8 (f.kind.toNat : Int), .bool f.need] 44)
      generalize wr.alloc (.cells #[.int .u32 (f.id.toNat : Int), .string f.name, .int .u8 (f.kind.toNat : Int), .bool f.need] 44) = w1 at *
      generalize wr.heap.size = bf at *
      clear f0 f1 f2 f3 hown hbr s1r
      have g10 := cell_of_row w1 bf 0 _ _ _ hT
      simp at g10
      go_wp2_with fail
      refine (refPut (f.id.toNat : Int) w1 (by omega) (by omega)).mono ?_
      rintro e w2 ⟨vp, rfl, hop, hbp⟩
      rw [Int.toNat_natCast] at hop
      obtain ⟨pA, pc, rfl, hrp⟩ := Rd.of_own hop
      have hT2 := row_below hT hbp
      have hown2 := own_below hown1 hbp
      have hb2 := below_call hb1 hb1.size hbp
      have zz2 := hb2.size
      clear hop hbp hown1 hb1 hT
      obtain ⟨ti, hti, hti1, hti2, hti3⟩ := info_parts tyBytes.inf
      go_wp2_with (at_builtin; refine wpList_app _ tyBytes rfl (.tmp 29) (.tmp 33) rfl wx.heap.size _ _ _ rfl hown2 w2.heap.size pA _ pc _ rfl hrp (bytesV_one _) (by have := HQ.out.1; omega) hb2.size ?_; intro v3 w3 ho hg _; have hb3 := below_app hb2 (Nat.le_refl _) hown2 hg hb2.size; have hT3 := row_grown hT2 hown2 hg (by decide); obtain ⟨c1, hc1⟩ : ∃ c, c = cur ++ Var.put f.id.toNat := ⟨_, rfl⟩; have hown3 : w3.ownsRow wx.heap.size 5 1 v3 c1.length (bytesV c1) := (by rw [hc1, List.length_append, bytesV_append]; exact ho); have hlc1 : c1.length = cur.length + (Var.put f.id.toNat).length := (by rw [hc1, List.length_append]); have Hc1 := hide hc1; have HLc1 := hide hlc1; have g31 := cell_of_row w3 bf 1 _ _ _ hT3; simp at g31; clear ho hg hc1 hlc1)
      refine (refPut (f.name.size : Int) w3 (by omega) (by have := HN.out; omega)).mono ?_
      rintro e w4 ⟨vp, rfl, hop, hbp⟩
      rw [Int.toNat_natCast] at hop
      obtain ⟨pA, pc, rfl, hrp⟩ := Rd.of_own hop
      have hT4 := row_below hT3 hbp
      have hown4 := own_below hown3 hbp
      have hb4 := below_call hb3 hb3.size hbp
      have zz4 := hb4.size
      clear hop hbp hown3 hb3 hT3
      go_wp2_with (first | (at_builtin; refine wpList_app _ tyBytes rfl (.tmp 35) (.tmp 40) rfl wx.heap.size _ _ _ rfl hown4 w4.heap.size pA _ pc _ rfl hrp (bytesV_one _) (by have := HQ.out; have := HN.out; have := HLc1.out; omega) hb4.size ?_; intro v5 w5 ho hg _; have hb5 := below_app hb4 (Nat.le_refl _) hown4 hg hb4.size; have hT5 := row_grown hT4 hown4 hg (by decide); obtain ⟨c2, hc2⟩ : ∃ c, c = c1 ++ Var.put f.name.size := ⟨_, rfl⟩; have hown5 : w5.ownsRow wx.heap.size 5 1 v5 c2.length (bytesV c2) := (by rw [hc2, List.length_append, bytesV_append]; exact ho); have hlc2 : c2.length = c1.length + (Var.put f.name.size).length := (by rw [hc2, List.length_append]); have Hc2 := hide hc2; have HLc2 := hide hlc2; have g51 := cell_of_row w5 bf 1 _ _ _ hT5; simp at g51; clear ho hg hc2 hlc2) | (at_builtin; refine Go.Lib.wpList_append_own_string _ rfl (.tmp 42) (.tmp 44) 34 9 rfl wx.heap.size 5 ti Tryd.underlying34 Tryd.underlying9 hti hti1 hti2 hti3 _ _ _ rfl hown5 f.name rfl (by have := HLc2.out; have := HQ.out; have := HN.out; have := HLc1.out; unfold maxLen; omega) (by have := HLc2.out; have := HQ.out; have := HN.out; have := HLc1.out; omega) hb5.size ?_; intro v6 w6 ho hg _; have hb6 := below_app hb5 (Nat.le_refl _) hown5 hg hb5.size; have hT6 := row_grown hT5 hown5 hg (by decide); obtain ⟨c3, hc3⟩ : ∃ c, c = c2 ++ f.name.data.toList := ⟨_, rfl⟩; have hown6 : w6.ownsRow wx.heap.size 5 1 v6 c3.length (bytesV c3) := (by rw [hc3, List.length_append, bytesV_append]; exact ho); have hlc3 : c3.length = c2.length + f.name.size := (by rw [hc3, List.length_append, HQ.out.2.2.2]); have Hc3 := hide hc3; have HLc3 := hide hlc3; have g62 := cell_of_row w6 bf 2 _ _ _ hT6; simp at g62; clear ho hg hc3 hlc3))
      refine (refPut (f.kind.toNat : Int) w6 (by omega) (by omega)).mono ?_
      rintro e w7 ⟨vp, rfl, hop, hbp⟩
      rw [Int.toNat_natCast] at hop
      obtain ⟨pA, pc, rfl, hrp⟩ := Rd.of_own hop
      have hT7 := row_below hT6 hbp
      have hown7 := own_below hown6 hbp
      have hb7 := below_call hb6 hb6.size hbp
      have zz7 := hb7.size
      clear hop hbp hown6 hb6 hT6
      obtain ⟨nd, hnd⟩ : ∃ nd, nd = f.need := ⟨_, rfl⟩
      rw [← hnd] at hT7
      have HND := hide hnd
      clear hnd
      cases nd with
      | true =>
        go_wp2_with (first | (at_builtin; refine wpList_app _ tyBytes rfl (.tmp 46) (.tmp 50) rfl wx.heap.size _ _ _ rfl hown7 w7.heap.size pA _ pc _ rfl hrp (bytesV_one _) (by have := HQ.out; have := HN.out; have := HLc1.out; have := HLc2.out; have := HLc3.out; omega) hb7.size ?_; intro v8 w8 ho hg _; have hb8 := below_app hb7 (Nat.le_refl _) hown7 hg hb7.size; have hT8 := row_grown hT7 hown7 hg (by decide); obtain ⟨c4, hc4⟩ : ∃ c, c = c3 ++ Var.put f.kind.toNat := ⟨_, rfl⟩; have hown8 : w8.ownsRow wx.heap.size 5 1 v8 c4.length (bytesV c4) := (by rw [hc4, List.length_append, bytesV_append]; exact ho); have hlc4 : c4.length = c3.length + (Var.put f.kind.toNat).length := (by rw [hc4, List.length_append]); have Hc4 := hide hc4; have HLc4 := hide hlc4; have g83 := cell_of_row w8 bf 3 _ _ _ hT8; simp at g83; clear ho hg hc4 hlc4) | (at_builtin; have hownL := hown8.alloc (.cells #[.int .u8 1] 5); have hlit : Rd (w8.alloc (.cells #[.int .u8 1] 5)) (w8.heap.size + 1) 1 (some ⟨w8.heap.size, 0, none⟩) 1 1 (bytesV [if true then 1 else 0]) := Rd.lit w8 5 #[.int .u8 1] (n := 1) (sz := 1) rfl (by decide); refine wpList_app _ tyBytes rfl (.tmp 54) (.tmp 55) rfl wx.heap.size _ _ _ rfl hownL (w8.heap.size + 1) _ 1 1 _ rfl hlit (bytesV_one _) (by have := HQ.out; have := HN.out; have := HLc1.out; have := HLc2.out; have := HLc3.out; have := HLc4.out; omega) (by simp; have := hb8.size; omega) ?_; intro v9 w9 ho hg _; have hbL := hb8.alloc hb8.size (.cells #[.int .u8 1] 5); have hb9 := below_app hbL (Nat.le_refl _) hownL hg (by simp; have := hb8.size; omega); obtain ⟨c5, hc5⟩ : ∃ c, c = c4 ++ [if true then 1 else 0] := ⟨_, rfl⟩; have hown9 : w9.ownsRow wx.heap.size 5 1 v9 c5.length (bytesV c5) := (by rw [hc5, List.length_append, bytesV_append]; exact ho); have Hc5 := hide hc5; clear ho hg hc5 hlit hownL hbL))
        go_roundw
        case rel =>
          refine ⟨k + 1, c5, v9, rfl, by go_num, by omega, hown9, hide (cur_next hlt hcur.out HF.out Hc1.out Hc2.out Hc3.out Hc4.out (by rw [← HND.out]; exact Hc5.out)), ?_, hb9⟩
          have := HLc1.out
          have := HLc2.out
          have := HLc3.out
          have := HLc4.out
          have := HQ.out
          have := HN.out
          rw [Hc5.out, List.length_append]
          simp only [List.length_cons, List.length_nil]
          omega
        case measure => exact meas_sub k _ hlt
      | false =>
        go_wp2_with (first | (at_builtin; refine wpList_app _ tyBytes rfl (.tmp 46) (.tmp 50) rfl wx.heap.size _ _ _ rfl hown7 w7.heap.size pA _ pc _ rfl hrp (bytesV_one _) (by have := HQ.out; have := HN.out; have := HLc1.out; have := HLc2.out; have := HLc3.out; omega) hb7.size ?_; intro v8 w8 ho hg _; have hb8 := below_app hb7 (Nat.le_refl _) hown7 hg hb7.size; have hT8 := row_grown hT7 hown7 hg (by decide); obtain ⟨c4, hc4⟩ : ∃ c, c = c3 ++ Var.put f.kind.toNat := ⟨_, rfl⟩; have hown8 : w8.ownsRow wx.heap.size 5 1 v8 c4.length (bytesV c4) := (by rw [hc4, List.length_append, bytesV_append]; exact ho); have hlc4 : c4.length = c3.length + (Var.put f.kind.toNat).length := (by rw [hc4, List.length_append]); have Hc4 := hide hc4; have HLc4 := hide hlc4; have g83 := cell_of_row w8 bf 3 _ _ _ hT8; simp at g83; clear ho hg hc4 hlc4) | (at_builtin; have hownL := hown8.alloc (.cells #[.int .u8 0] 5); have hlit : Rd (w8.alloc (.cells #[.int .u8 0] 5)) (w8.heap.size + 1) 1 (some ⟨w8.heap.size, 0, none⟩) 1 1 (bytesV [if false then 1 else 0]) := Rd.lit w8 5 #[.int .u8 0] (n := 1) (sz := 1) rfl (by decide); refine wpList_app _ tyBytes rfl (.tmp 57) (.tmp 58) rfl wx.heap.size _ _ _ rfl hownL (w8.heap.size + 1) _ 1 1 _ rfl hlit (bytesV_one _) (by have := HQ.out; have := HN.out; have := HLc1.out; have := HLc2.out; have := HLc3.out; have := HLc4.out; omega) (by simp; have := hb8.size; omega) ?_; intro v9 w9 ho hg _; have hbL := hb8.alloc hb8.size (.cells #[.int .u8 0] 5); have hb9 := below_app hbL (Nat.le_refl _) hownL hg (by simp; have := hb8.size; omega); obtain ⟨c5, hc5⟩ : ∃ c, c = c4 ++ [if false then 1 else 0] := ⟨_, rfl⟩; have hown9 : w9.ownsRow wx.heap.size 5 1 v9 c5.length (bytesV c5) := (by rw [hc5, List.length_append, bytesV_append]; exact ho); have Hc5 := hide hc5; clear ho hg hc5 hlit hownL hbL))
        go_roundw
        case rel =>
          refine ⟨k + 1, c5, v9, rfl, by go_num, by omega, hown9, hide (cur_next hlt hcur.out HF.out Hc1.out Hc2.out Hc3.out Hc4.out (by rw [← HND.out]; exact Hc5.out)), ?_, hb9⟩
          have := HLc1.out
          have := HLc2.out
          have := HLc3.out
          have := HLc4.out
          have := HQ.out
          have := HN.out
          rw [Hc5.out, List.length_append]
          simp only [List.length_cons, List.length_nil]
          omega
        case measure => exact meas_sub k _ hlt
    · have hlt2 : ¬ k < l.length := hlt
      go_wp2_with fail
      go_ret
      refine ⟨_, rfl, ?_, hBx.trans (hbr.mono (Nat.le_of_lt (by have := zx; rw [HBX.out] at this; exact this)))⟩
      have hc := hcur.out
      rw [show k = l.length by omega, List.take_length] at hc
      have e1 : pack id l = cur := by rw [hc]; rfl
      rw [e1]
      exact own_base hown (Nat.le_of_lt (by have := zx; rw [HBX.out] at this; exact this))
end

section
namespace Crc
abbrev W := BitVec 32
def poly : W := 0xedb88320#32
def bit (c : W) : W := (c >>> 1) ^^^ (if c.getLsbD 0 then poly else 0#32)
def bits : Nat → W → W
  | 0, c => c
  | n + 1, c => bits n (bit c)
def byteS (c : W) (x : UInt8) : W := bits 8 (c ^^^ BitVec.ofNat 32 x.toNat)
def tab (n : Nat) : W := [0x00000000#32, 0x1db71064#32, 0x3b6e20c8#32, 0x26d930ac#32, 0x76dc4190#32, 0x6b6b51f4#32, 0x4db26158#32, 0x5005713c#32, 0xedb88320#32, 0xf00f9344#32, 0xd6d6a3e8#32, 0xcb61b38c#32, 0x9b64c2b0#32, 0x86d3d2d4#32, 0xa00ae278#32, 0xbdbdf21c#32].getD n 0#32
def half (c : W) : W := (c >>> 4) ^^^ tab (c.toNat % 16)
def raw (c : W) (l : List UInt8) : W := l.foldl byteS c
def more (c : W) (l : List UInt8) : W := ~~~ (raw (~~~ c) l)
def crc (l : List UInt8) : W := more 0#32 l

theorem bit_xor (a b : W) : bit (a ^^^ b) = bit a ^^^ bit b := by
  unfold bit
  rw [BitVec.ushiftRight_xor_distrib, BitVec.getLsbD_xor]
  cases a.getLsbD 0 <;> cases b.getLsbD 0 <;> simp only [Bool.xor_false, Bool.xor_true, Bool.not_true, Bool.not_false, if_true, Bool.false_eq_true, if_false, BitVec.xor_zero]
  · ac_rfl
  · ac_rfl
  · have e : a >>> 1 ^^^ poly ^^^ (b >>> 1 ^^^ poly) = (a >>> 1 ^^^ b >>> 1) ^^^ (poly ^^^ poly) := by ac_rfl
    rw [e, BitVec.xor_self, BitVec.xor_zero]
theorem bit_zero : bit 0#32 = 0#32 := by decide
theorem bits_xor (n : Nat) : ∀ a b : W, bits n (a ^^^ b) = bits n a ^^^ bits n b := by
  induction n with
  | zero => intro a b; rfl
  | succ n ih => intro a b; simp only [bits, bit_xor, ih]
theorem bits_zero (n : Nat) : bits n 0#32 = 0#32 := by
  induction n with
  | zero => rfl
  | succ n ih => simp only [bits, bit_zero, ih]
theorem bits_add (m n : Nat) : ∀ c, bits (m + n) c = bits n (bits m c) := by
  induction m with
  | zero => intro c; simp [bits]
  | succ m ih => intro c; rw [Nat.succ_add]; simp only [bits, ih]
theorem bit_ker {c : W} (h : bit c = 0#32) : c = 0#32 := by
  unfold bit at h
  cases h0 : c.getLsbD 0 with
  | true =>
    rw [h0, if_pos rfl] at h
    have h1 : (c >>> 1) = poly := by
      have := congrArg (· ^^^ poly) h
      simpa [BitVec.xor_assoc] using this
    have h2 := congrArg (fun x : W => x.getLsbD 31) h1
    simp [poly] at h2
  | false =>
    rw [h0] at h
    simp at h
    apply BitVec.eq_of_getLsbD_eq
    intro i hi
    cases i with
    | zero => rw [h0]; simp
    | succ i =>
      have h2 := congrArg (fun x : W => x.getLsbD i) h
      simp only [BitVec.getLsbD_ushiftRight] at h2
      rw [Nat.add_comm] at h2
      rw [h2]; simp
theorem bits_ker (n : Nat) : ∀ {c : W}, bits n c = 0#32 → c = 0#32 := by
  induction n with
  | zero => intro c h; exact h
  | succ n ih => intro c h; exact bit_ker (ih h)
/-- a number whose lowest bits are none: only halved -/
theorem bits_low (n : Nat) : ∀ c : W, (∀ i, i < n → c.getLsbD i = false) → bits n c = c >>> n := by
  induction n with
  | zero => intro c _; simp [bits]
  | succ n ih =>
    intro c h
    have h0 := h 0 (by omega)
    have hb : bit c = c >>> 1 := by unfold bit; rw [h0]; simp
    simp only [bits]
    rw [hb, ih]
    · rw [← BitVec.shiftRight_add, Nat.add_comm]
    · intro i hi
      rw [BitVec.getLsbD_ushiftRight]
      exact h (1 + i) (by omega)
theorem split (c : W) (n : Nat) : c = (c >>> n <<< n) ^^^ (c &&& (BitVec.ofNat 32 (2 ^ n - 1))) := by
  apply BitVec.eq_of_getLsbD_eq
  intro i hi
  simp only [BitVec.getLsbD_xor, BitVec.getLsbD_shiftLeft, BitVec.getLsbD_ushiftRight, BitVec.getLsbD_and, BitVec.getLsbD_ofNat, Nat.testBit_two_pow_sub_one]
  by_cases h : i < n
  · simp [h, hi]
  · have e : n + (i - n) = i := by omega
    simp [h, hi, e]
theorem half_eq (c : W) : half c = bits 4 c := by
  have hs := split c 4
  have h1 : bits 4 (c >>> 4 <<< 4) = c >>> 4 := by
    rw [bits_low 4 _ (by intro i hi; simp [BitVec.getLsbD_shiftLeft, hi])]
    apply BitVec.eq_of_getLsbD_eq
    intro i hi
    simp only [BitVec.getLsbD_shiftLeft, BitVec.getLsbD_ushiftRight]
    by_cases h4 : 4 + i < 32
    · have e : 4 + (4 + i - 4) = 4 + i := by omega
      simp [h4]
    · rw [BitVec.getLsbD_of_ge c (4 + i) (by omega)]
      simp [h4]
  have h2 : ∀ k, k < 16 → bits 4 (BitVec.ofNat 32 k) = tab k := by decide +kernel
  have h3 : (c &&& BitVec.ofNat 32 (2 ^ 4 - 1)) = BitVec.ofNat 32 (c.toNat % 16) := by
    apply BitVec.eq_of_toNat_eq
    simp only [BitVec.toNat_and, BitVec.toNat_ofNat]
    have : (2 ^ 4 - 1) % 2 ^ 32 = 15 := by decide
    rw [this, show (15 : Nat) = 2 ^ 4 - 1 from rfl, Nat.and_two_pow_sub_one_eq_mod]
    omega
  conv => rhs; rw [hs, bits_xor, h1, h3, h2 _ (Nat.mod_lt _ (by omega))]
  rfl
theorem byteS_half (c : W) (x : UInt8) : half (half (c ^^^ BitVec.ofNat 32 x.toNat)) = byteS c x := by
  rw [half_eq, half_eq, ← bits_add]; rfl

/-! ### differences -/
theorem raw_cons (c : W) (x : UInt8) (l : List UInt8) : raw c (x :: l) = raw (byteS c x) l := rfl
theorem raw_append (c : W) (a b : List UInt8) : raw c (a ++ b) = raw (raw c a) b := List.foldl_append ..
/-- fed bit by bit -/
def rawB : W → List Bool → W
  | c, [] => c
  | c, b :: r => rawB (bit (c ^^^ (if b then 1#32 else 0#32))) r
theorem rawB_append (a b : List Bool) : ∀ c, rawB c (a ++ b) = rawB (rawB c a) b := by
  induction a with
  | nil => intro c; rfl
  | cons x a ih => intro c; simp only [List.cons_append, rawB, ih]
/-- n bits of a number, the lowest first -/
def low (n : Nat) (x : Nat) : List Bool := (List.range n).map x.testBit
theorem low_succ (n x : Nat) : low (n + 1) x = x.testBit 0 :: low n (x / 2) := by
  unfold low
  rw [List.range_succ_eq_map, List.map_cons, List.map_map]
  congr 1
  refine List.map_congr_left fun i _ => ?_
  simp [Function.comp, Nat.testBit_succ]
theorem bit_low (c : W) (x : Nat) (h : x < 2 ^ 32) : bit (c ^^^ BitVec.ofNat 32 x) = bit (c ^^^ (if x.testBit 0 then 1#32 else 0#32)) ^^^ BitVec.ofNat 32 (x / 2) := by
  rw [bit_xor, bit_xor]
  have e : bit (BitVec.ofNat 32 x) = bit (if x.testBit 0 then 1#32 else 0#32) ^^^ BitVec.ofNat 32 (x / 2) := by
    have hs : (BitVec.ofNat 32 x) >>> 1 = BitVec.ofNat 32 (x / 2) := by
      apply BitVec.eq_of_toNat_eq
      simp only [BitVec.toNat_ushiftRight, BitVec.toNat_ofNat, Nat.shiftRight_eq_div_pow]
      omega
    unfold bit
    rw [hs]
    have hl : (BitVec.ofNat 32 x).getLsbD 0 = x.testBit 0 := by rw [BitVec.getLsbD_ofNat]; simp
    rw [hl]
    cases x.testBit 0
    · simp
    · have h1 : (1#32 : W) >>> 1 = 0#32 := by decide
      have h2 : (1#32 : W).getLsbD 0 = true := by decide
      simp only [if_true, h1, h2]
      rw [BitVec.zero_xor, BitVec.xor_comm]
  rw [e, BitVec.xor_assoc]
theorem bits_rawB (n : Nat) : ∀ (c : W) (x : Nat), x < 2 ^ n → n ≤ 32 → bits n (c ^^^ BitVec.ofNat 32 x) = rawB c (low n x) := by
  induction n with
  | zero =>
    intro c x h _
    have : x = 0 := by simpa using h
    subst this
    simp [bits, low, rawB]
  | succ n ih =>
    intro c x h hn
    have h32 : x < 2 ^ 32 := Nat.lt_of_lt_of_le h (Nat.pow_le_pow_right (by omega) hn)
    rw [low_succ]
    simp only [bits, rawB]
    rw [bit_low c x h32, ih _ _ (by rw [Nat.pow_succ] at h; omega) (by omega)]
def bitsOf : List UInt8 → List Bool
  | [] => []
  | x :: l => low 8 x.toNat ++ bitsOf l
theorem raw_rawB (l : List UInt8) : ∀ c, raw c l = rawB c (bitsOf l) := by
  induction l with
  | nil => intro c; rfl
  | cons x l ih =>
    intro c
    rw [raw_cons, ih]
    simp only [bitsOf, rawB_append]
    rw [← bits_rawB 8 c x.toNat x.toNat_lt (by omega)]
    rfl
theorem rawB_xor : ∀ (a b : List Bool) (c d : W), a.length = b.length → rawB c a ^^^ rawB d b = rawB (c ^^^ d) (List.zipWith xor a b)
  | [], [], c, d, _ => rfl
  | x :: a, y :: b, c, d, h => by
    simp only [rawB, List.zipWith_cons_cons]
    rw [rawB_xor a b _ _ (by simpa using h), ← bit_xor]
    congr 2
    cases x <;> cases y <;> simp only [Bool.xor_false, Bool.xor_true, Bool.not_true, Bool.not_false, if_true, Bool.false_eq_true, if_false, BitVec.xor_zero]
    · ac_rfl
    · ac_rfl
    · have e : (c ^^^ 1#32) ^^^ (d ^^^ 1#32) = (c ^^^ d) ^^^ (1#32 ^^^ 1#32) := by ac_rfl
      rw [e, BitVec.xor_self, BitVec.xor_zero]
  | [], _ :: _, _, _, h => by simp at h
  | _ :: _, [], _, _, h => by simp at h
theorem rawB_zeros (n : Nat) : ∀ c, rawB c (List.replicate n false) = bits n c := by
  induction n with
  | zero => intro c; rfl
  | succ n ih => intro c; simp only [List.replicate_succ, rawB, bits, ih, Bool.false_eq_true, if_false, BitVec.xor_zero]
/-- the number whose bits they are -/
def num : List Bool → Nat
  | [] => 0
  | b :: r => (if b then 1 else 0) + 2 * num r
theorem num_lt (l : List Bool) : num l < 2 ^ l.length := by
  induction l with
  | nil => simp [num]
  | cons b r ih => simp only [num, List.length_cons, Nat.pow_succ]; split <;> omega
theorem low_num (l : List Bool) : low l.length (num l) = l := by
  induction l with
  | nil => rfl
  | cons b r ih =>
    rw [List.length_cons, low_succ]
    have h1 : (num (b :: r)).testBit 0 = b := by
      simp only [num, Nat.testBit_zero]
      cases b <;> simp <;> omega
    have h2 : num (b :: r) / 2 = num r := by simp only [num]; cases b <;> simp <;> omega
    rw [h1, h2, ih]
theorem num_pos (l : List Bool) (h : true ∈ l) : 0 < num l := by
  induction l with
  | nil => simp at h
  | cons b r ih =>
    simp only [num]
    cases b with
    | true => simp; omega
    | false =>
      have : true ∈ r := by simpa using h
      have := ih this
      omega
/-- a burst within 32 bits is seen -/
theorem burst_seen (w : List Bool) (m k : Nat) (hw : w.length ≤ 32) (h : true ∈ w) : rawB 0#32 (List.replicate m false ++ (w ++ List.replicate k false)) ≠ 0#32 := by
  intro he
  rw [rawB_append, rawB_zeros, bits_zero, rawB_append, rawB_zeros] at he
  have h1 := bits_ker k he
  have h2 := bits_rawB w.length 0#32 (num w) (num_lt w) hw
  rw [low_num, BitVec.zero_xor] at h2
  rw [← h2] at h1
  have h3 := bits_ker _ h1
  have h4 := congrArg BitVec.toNat h3
  have h5 := num_lt w
  have h6 : 2 ^ w.length ≤ 2 ^ 32 := Nat.pow_le_pow_right (by omega) hw
  simp only [BitVec.toNat_ofNat] at h4
  have := num_pos w h
  rw [Nat.mod_eq_of_lt (by omega)] at h4
  simp at h4
  omega
theorem bitsOf_length (l : List UInt8) : (bitsOf l).length = 8 * l.length := by
  induction l with
  | nil => rfl
  | cons x l ih => simp only [bitsOf, List.length_append, ih, List.length_cons]; simp [low]; omega
/-- two texts of one length: their sums differ as their difference's does from nothing -/
theorem crc_eq_iff (a b : List UInt8) (h : a.length = b.length) : crc a = crc b ↔ rawB 0#32 (List.zipWith xor (bitsOf a) (bitsOf b)) = 0#32 := by
  have e := rawB_xor (bitsOf a) (bitsOf b) (~~~ 0#32) (~~~ 0#32) (by rw [bitsOf_length, bitsOf_length, h])
  rw [BitVec.xor_self] at e
  rw [← e, ← raw_rawB, ← raw_rawB]
  unfold crc more
  constructor
  · intro hh
    have : raw (~~~ 0#32) a = raw (~~~ 0#32) b := by
      have := congrArg (fun x : W => ~~~ x) hh
      simpa using this
    rw [this, BitVec.xor_self]
  · intro hh
    have : raw (~~~ 0#32) a = raw (~~~ 0#32) b := by
      have := congrArg (· ^^^ raw (~~~ 0#32) b) hh
      simpa [BitVec.xor_assoc] using this
    rw [this]
/-- bit k of a text -/
def bitAt (l : List UInt8) (k : Nat) : Bool := ((l.getD (k / 8) 0).toNat).testBit (k % 8)
theorem bitsOf_get (l : List UInt8) : ∀ k, k < 8 * l.length → (bitsOf l)[k]? = some (bitAt l k) := by
  induction l with
  | nil => intro k h; simp at h
  | cons x l ih =>
    intro k h
    have hlow : (low 8 x.toNat).length = 8 := by simp [low]
    simp only [bitsOf]
    by_cases hk : k < 8
    · rw [List.getElem?_append_left (by omega)]
      have e1 : k / 8 = 0 := by omega
      have e2 : k % 8 = k := by omega
      simp [low, bitAt, e1, e2, hk]
    · rw [List.getElem?_append_right (by omega), hlow, ih (k - 8) (by simp at h; omega)]
      have e1 : k / 8 = (k - 8) / 8 + 1 := by omega
      have e2 : (k - 8) % 8 = k % 8 := by omega
      unfold bitAt
      rw [e1, List.getD_cons_succ, e2]
/-- texts that differ just at the bits 'from + j', j among those of a number of 32 bits -/
theorem crc_burst (a b : List UInt8) (h : a.length = b.length) (fr t : Nat)
    (hd : ∀ k, k < 8 * a.length → bitAt b k = xor (bitAt a k) (decide (fr ≤ k) && decide (k < fr + 32) && t.testBit (k - fr))) :
    crc a = crc b ↔ ∀ j, j < 32 → t.testBit j = true → 8 * a.length ≤ fr + j := by
  rw [crc_eq_iff a b h]
  let n := 8 * a.length
  let f : Nat → Bool := fun k => decide (fr ≤ k) && decide (k < fr + 32) && t.testBit (k - fr)
  have hz : List.zipWith xor (bitsOf a) (bitsOf b) = (List.range n).map f := by
    apply List.ext_getElem?
    intro k
    rw [List.getElem?_zipWith]
    by_cases hk : k < n
    · rw [bitsOf_get a k hk, bitsOf_get b k (by rw [← h]; exact hk), hd k hk]
      simp [hk, f]
    · have e1 : (bitsOf a)[k]? = none := List.getElem?_eq_none (by rw [bitsOf_length]; omega)
      rw [e1]
      simp [hk]
  rw [hz]
  constructor
  · intro hr j hj ht
    apply Classical.byContradiction
    intro hlt
    have hlt' : fr + j < n := by omega
    -- cut in three
    let m := min (fr + 32) n
    have e : (List.range n).map f = List.replicate fr false ++ (((List.range (m - fr)).map fun i => f (fr + i)) ++ List.replicate (n - m) false) := by
      apply List.ext_getElem?
      intro k
      by_cases hk1 : k < fr
      · rw [List.getElem?_append_left (by simpa using hk1)]
        have : k < n := by omega
        simp [this, hk1, f]; omega
      · rw [List.getElem?_append_right (by simpa using hk1)]
        simp only [List.length_replicate]
        by_cases hk2 : k < m
        · rw [List.getElem?_append_left (by simp; omega)]
          have h1 : k < n := by omega
          have h2 : k - fr < m - fr := by omega
          have h3 : fr + (k - fr) = k := by omega
          simp [h1, h2, h3]
        · rw [List.getElem?_append_right (by simp; omega)]
          simp only [List.length_map, List.length_range]
          by_cases hk3 : k < n
          · have h2 : k - fr - (m - fr) < n - m := by omega
            have h4 : ¬ k < fr + 32 := by omega
            simp [hk3, h2, f, h4]
          · have h2 : ¬ k - fr - (m - fr) < n - m := by omega
            simp [hk3, h2]
    rw [e] at hr
    refine burst_seen _ _ _ (by simp; omega) ?_ hr
    rw [List.mem_map]
    refine ⟨j, by simp; omega, ?_⟩
    simp [f, hj, ht]
  · intro hn
    have e : (List.range n).map f = List.replicate n false := by
      apply List.ext_getElem?
      intro k
      by_cases hk : k < n
      · have : f k = false := by
          cases hf : f k with
          | false => rfl
          | true =>
            simp only [f, Bool.and_eq_true, decide_eq_true_eq] at hf
            have := hn (k - fr) (by omega) hf.2
            omega
        simp [hk, this]
      · simp [hk]
    rw [e, rawB_zeros, bits_zero]
end Crc
end

section
open Go.RowKit

/-- the table of half bytes lies in the program's variable -/
def Table (w : World) : Prop := ∀ j, j < 16 → w.cell? ⟨0, j, none⟩ = some (.int .u32 ((Crc.tab j).toNat : Int))
theorem Table.below {B : Nat} {w w' : World} (h : Table w) (hb : Below B w w') (hB : 0 < B) : Table w' := fun j hj => (hb.cell (p := ⟨0, j, none⟩) hB).trans (h j hj)
theorem Table.pos {w : World} (h : Table w) : 0 < w.heap.size := World.block_lt_of_cell? w _ (h 0 (by omega))

theorem word_lt (c : Crc.W) : c.toNat < 4294967296 := c.isLt
theorem word_xor (a b : Crc.W) : bits BinOp.xor .u32 (a.toNat : Int) (b.toNat : Int) = ((a ^^^ b).toNat : Int) := by
  rw [u32_xor_nat _ _ (word_lt a) (word_lt b), BitVec.toNat_xor]

theorem word_not (a : Crc.W) : bits BinOp.xor .u32 IntKind.u32.max (a.toNat : Int) = ((~~~ a).toNat : Int) := by
  have h := word_xor (BitVec.allOnes 32) a
  rw [BitVec.allOnes_xor] at h
  exact h
theorem word_byte (a : Crc.W) (x : UInt8) : bits BinOp.xor .u32 (a.toNat : Int) (x.toNat : Int) = ((a ^^^ BitVec.ofNat 32 x.toNat).toNat : Int) := by
  have h := word_xor a (BitVec.ofNat 32 x.toNat)
  have hx := x.toNat_lt
  rw [BitVec.toNat_ofNat, Nat.mod_eq_of_lt (by omega)] at h
  exact h
theorem half_step (a : Crc.W) : ∃ Q T : Nat, Q < 16 ∧ T = (Crc.tab Q).toNat ∧ bits BinOp.and .u32 (a.toNat : Int) 15 = (Q : Int) ∧ bits BinOp.xor .u32 ((a.toNat : Int) / 16) (T : Int) = ((Crc.half a).toNat : Int) := by
  refine ⟨a.toNat % 16, _, Nat.mod_lt _ (by omega), rfl, ?_, ?_⟩
  · have h := u32_and_nat a.toNat 15 (word_lt a) (by omega)
    rw [nat_mask4] at h
    exact h
  · have e : (a.toNat : Int) / (16 : Int) = ((a >>> 4).toNat : Int) := by
      rw [BitVec.toNat_ushiftRight, Nat.shiftRight_eq_div_pow]; omega
    rw [e, word_xor]
    rfl
/-- one byte, by half bytes -/
theorem byte_step (a : Crc.W) (x : UInt8) : ∃ C1 Q1 T1 C2 Q2 T2 : Nat, Q1 < 16 ∧ Q2 < 16 ∧ T1 = (Crc.tab Q1).toNat ∧ T2 = (Crc.tab Q2).toNat ∧ C1 < 4294967296 ∧ C2 < 4294967296 ∧
    bits BinOp.xor .u32 (a.toNat : Int) (x.toNat : Int) = (C1 : Int) ∧ bits BinOp.and .u32 (C1 : Int) 15 = (Q1 : Int) ∧ bits BinOp.xor .u32 ((C1 : Int) / 16) (T1 : Int) = (C2 : Int) ∧
    bits BinOp.and .u32 (C2 : Int) 15 = (Q2 : Int) ∧ bits BinOp.xor .u32 ((C2 : Int) / 16) (T2 : Int) = ((Crc.byteS a x).toNat : Int) := by
  obtain ⟨Q1, T1, h1, h2, h3, h4⟩ := half_step (a ^^^ BitVec.ofNat 32 x.toNat)
  obtain ⟨Q2, T2, g1, g2, g3, g4⟩ := half_step (Crc.half (a ^^^ BitVec.ofNat 32 x.toNat))
  rw [Crc.byteS_half] at g4
  exact ⟨_, Q1, T1, _, Q2, T2, h1, g1, h2, g2, word_lt _, word_lt _, word_byte a x, h3, h4, g3, g4⟩

set_option maxRecDepth 100000 in
theorem crcMore (w : World) (c0 : Crc.W) (B n c : Nat) (A : Option Addr) (l : List UInt8) (hr : Rd w B 1 A n c (bytesV l)) (ht : Table w) :
    Calls Tryd.prog 74 #[.int .u32 (c0.toNat : Int), .slice A n c] w fun e w' => e = .returned (.int .u32 ((Crc.more c0 l).toNat : Int)) ∧ w = w' := by
  obtain rfl : n = l.length := by have := hr.len; rw [bytesV_length] at this; omega
  have hmax : l.length ≤ 9223372036854775807 := by have h1 := hr.le; have h2 := hr.cap; unfold maxLen at h2; omega
  have HT := hide ht
  have hn0 := word_not c0
  obtain ⟨N0, hN0⟩ : ∃ N : Nat, N = (~~~ c0).toNat := ⟨_, rfl⟩
  rw [← hN0] at hn0
  have HN0 := hide hN0
  clear ht hN0
  go_enter Tryd.func74, Tryd.ntmps74
  go_wp2
  clear hn0
  go_loop [0, 11] (fun cv iv => ∃ (k C : Nat), k ≤ l.length ∧ iv = .int .i64 k ∧ cv = .int .u32 C ∧ Hid (C = (Crc.raw (~~~ c0) (l.take k)).toNat)) (fun _ iv => l.length - (intOf iv).toNat)
  case atStart => exact ⟨0, N0, Nat.zero_le _, rfl, rfl, hide HN0.out⟩
  case round =>
    obtain ⟨k, C, hk, rfl, rfl, hC⟩ := hrel
    by_cases hlt : k < l.length
    · obtain ⟨b, off, rfl, _, hc⟩ := hr.cellAt (k := k) (by rw [bytesV_length]; exact hlt)
      obtain ⟨x, hx⟩ : ∃ x : UInt8, x = l[k] := ⟨_, rfl⟩
      have hc' : w.cell? ⟨b, off + k, none⟩ = some (.int .u8 (x.toNat : Int)) := by rw [hc, hx]; simp [bytesV, byteV]
      have hst : Crc.raw (~~~ c0) (l.take (k + 1)) = Crc.byteS (Crc.raw (~~~ c0) (l.take k)) x := by
        rw [List.take_succ_eq_append_getElem hlt, Crc.raw_append, ← hx]; rfl
      obtain ⟨C1, Q1, T1, C2, Q2, T2, q1, q2, d1, d2, l1, l2, e1, e2, e3, e4, e5⟩ := byte_step (Crc.raw (~~~ c0) (l.take k)) x
      have t1 := HT.out Q1 q1
      have t2 := HT.out Q2 q2
      rw [← d1] at t1
      rw [← d2] at t2
      rw [← hC.out] at e1
      rw [← hst] at e5
      obtain ⟨C3, hC3⟩ : ∃ C3, C3 = (Crc.raw (~~~ c0) (l.take (k + 1))).toNat := ⟨_, rfl⟩
      rw [← hC3] at e5
      have HC3 := hide hC3
      have hx256 := x.toNat_lt
      clear hc hx hst d1 d2 hC3
      go_wp2
      go_round
      case rel => exact ⟨k + 1, C3, by omega, by go_num, rfl, HC3⟩
      case measure => simp [intOf]; omega
    · obtain rfl : k = l.length := by omega
      have hfin := word_not (Crc.raw (~~~ c0) l)
      have hC' := hC.out
      rw [List.take_length] at hC'
      rw [← hC'] at hfin
      have HF := hide hfin
      clear hfin hC'
      go_wp2
      go_ret
      refine ⟨?_, rfl⟩
      show Ending.returned (.int .u32 (bits BinOp.xor .u32 IntKind.u32.max (C : Int))) = _
      rw [HF.out]
      rfl
theorem crcOf (w : World) (B n c : Nat) (A : Option Addr) (l : List UInt8) (hr : Rd w B 1 A n c (bytesV l)) (ht : Table w) :
    Calls Tryd.prog 53 #[.slice A n c] w fun e w' => e = .returned (.int .u32 ((Crc.crc l).toNat : Int)) ∧ w = w' := by
  have HT := hide ht
  clear ht
  go_enter Tryd.func53, Tryd.ntmps53
  go_wp2_with fail
  refine (crcMore w 0#32 B n c A l hr HT.out).mono ?_
  rintro e w1 ⟨rfl, rfl⟩
  go_wp2_with fail
  go_ret
  exact ⟨rfl, rfl⟩
end

section
open Go.RowKit

theorem cloneBytes (w : World) (B n c : Nat) (A : Option Addr) (xs : List Value) (hr : Rd w B 1 A n c xs) (h1 : ∀ u ∈ xs, u.oneCell' = true) (hb : n * 1 ≤ 140737488355328) (hB : B ≤ w.heap.size) :
    Calls Tryd.prog 54 #[.slice A n c] w (RetRow w 5 1 n xs) := by
  have heq := fun W => Lib.run_eql_slice_nil (P := Tryd.prog) W 34 5 A n c 0 0 Tryd.underlying34
  cases A with
  | none =>
    obtain ⟨rfl, rfl⟩ := hr.none_
    go_enter Tryd.func54, Tryd.ntmps54
    go_wp2_with fail
    go_ret
    exact ⟨_, rfl, World.ownsRow_nil _ _ _ _, Below.refl _ _⟩
  | some ad =>
    have hlit := own_lit w (base := w.heap.size) 5 1 0 #[] (Nat.le_refl _) (by decide) rfl
    have hr' := hr.alloc hB (.cells #[] 5)
    go_enter Tryd.func54, Tryd.ntmps54
    go_wp2_with (at_builtin; refine wpList_app _ tyBytes rfl _ _ rfl w.heap.size _ 0 [] rfl hlit B (some ad) _ c _ rfl hr' h1 (by omega) (by simp) ?_; intro v2 w2 hown2 hg2 _; simp only [Nat.zero_add, List.nil_append] at hown2; have hb2 := below_app ((Below.refl w.heap.size w).alloc (Nat.le_refl _) (.cells #[] 5)) (Nat.le_refl _) hlit hg2 (by simp))
    go_ret
    exact ⟨v2, rfl, hown2, hb2⟩

/-- the sum's four bytes, the lowest first -/
def le4 (c : Crc.W) : List UInt8 := [UInt8.ofNat c.toNat, UInt8.ofNat (c.toNat / 256), UInt8.ofNat (c.toNat / 65536), UInt8.ofNat (c.toNat / 16777216)]
def seal_ (l : List UInt8) : List UInt8 := l ++ le4 (Crc.crc l)

theorem crcSeal (w : World) (n c : Nat) (A : Option Addr) (l : List UInt8) (hr : Rd w w.heap.size 1 A n c (bytesV l)) (ht : Table w) (hl : l.length ≤ 1000000) :
    Calls Tryd.prog 29 #[.slice A n c] w (RetBytes w (seal_ l)) := by
  obtain rfl : n = l.length := by have := hr.len; rw [bytesV_length] at this; omega
  have HT := hide ht
  clear ht
  go_enter Tryd.func29, Tryd.ntmps29
  go_wp2_with fail
  refine (crcOf w _ _ c A l hr HT.out).mono ?_
  rintro e w1 ⟨rfl, rfl⟩
  go_wp2_with fail
  refine (cloneBytes w _ _ c A _ hr (bytesV_one _) (by omega) (Nat.le_refl _)).mono ?_
  rintro e w2 ⟨v2, rfl, hown2, hb2⟩
  have hq := word_lt (Crc.crc l)
  have hlen := hown2.1
  go_wp2_with (at_builtin; refine wpList_app _ tyBytes rfl _ _ rfl w.heap.size v2 _ _ rfl (hown2.alloc _) (w2.heap.size + 1) _ 4 4 _ rfl (Rd.lit w2 5 _ rfl (by decide)) ?h1 ?h2 ?h3 ?_)
  case h1 => exact ⟨rfl, rfl, rfl, rfl⟩
  case h2 => omega
  case h3 => have := hb2.size; simp; omega
  intro v3 w3 hown3 hg3 _
  have hb3 := below_app (hb2.alloc hb2.size _) (Nat.le_refl _) (hown2.alloc _) hg3 (by have := hb2.size; simp; omega)
  have e4 : bytesV l ++ #[Value.int .u8 (((Crc.crc l).toNat : Int) % 256), .int .u8 (((Crc.crc l).toNat : Int) / 256 % 256), .int .u8 (((Crc.crc l).toNat : Int) / 65536 % 256), .int .u8 (((Crc.crc l).toNat : Int) / 16777216)].toList = bytesV (seal_ l) := by
    unfold seal_ le4
    rw [bytesV_append]
    congr 1
    simp only [bytesV, List.map_cons, List.map_nil, byteV, UInt8.toNat_ofNat', List.cons.injEq, and_true, Value.int.injEq, true_and]
    refine ⟨by omega, by omega, by omega, by omega⟩
  rw [e4] at hown3
  clear hg3 hown2 e4
  go_wp2
  go_ret
  exact ⟨v3, rfl, by simpa [seal_, le4] using hown3, hb3⟩

set_option maxRecDepth 100000 in
theorem equalBytes (w : World) (B n c m d : Nat) (A A' : Option Addr) (la lb : List UInt8) (ha : Rd w B 1 A n c (bytesV la)) (hb : Rd w B 1 A' m d (bytesV lb)) (hB : B ≤ w.heap.size) :
    Calls Tryd.prog 47 #[.slice A n c, .slice A' m d] w (RetVal w (.bool (la == lb))) := by
  obtain rfl : n = la.length := by have := ha.len; rw [bytesV_length] at this; omega
  obtain rfl : m = lb.length := by have := hb.len; rw [bytesV_length] at this; omega
  have hmax : la.length ≤ 9223372036854775807 := by have h1 := ha.le; have h2 := ha.cap; unfold maxLen at h2; omega
  by_cases hlen : la.length = lb.length
  · have t1 : ((la.length : Int) == (lb.length : Int)) = true := by simp; omega
    have t1' : ((la.length : Int) != (lb.length : Int)) = false := by simp; omega
    have HL := hide hlen
    clear hlen
    go_enter Tryd.func47, Tryd.ntmps47
    go_wp2_with fail
    go_loopw [13] (fun iv wr => ∃ k : Nat, k ≤ la.length ∧ iv = .int .i64 k ∧ Hid (la.take k = lb.take k) ∧ Below w.heap.size w wr) (fun iv _ => la.length - (intOf iv).toNat)
    case atStart => exact ⟨0, Nat.zero_le _, rfl, hide rfl, Below.refl _ _⟩
    case round =>
      obtain ⟨k, hk, rfl, hpre, hbr⟩ := hrel
      by_cases hlt : k < la.length
      · have hlt2 : k < lb.length := by have := HL.out; omega
        obtain ⟨b1, o1, rfl, q1, c1⟩ := ha.cellAt (k := k) (by rw [bytesV_length]; exact hlt)
        obtain ⟨b2, o2, rfl, q2, c2⟩ := hb.cellAt (k := k) (by rw [bytesV_length]; exact hlt2)
        obtain ⟨x, hx⟩ : ∃ x : UInt8, x = la[k] := ⟨_, rfl⟩
        obtain ⟨y, hy⟩ : ∃ y : UInt8, y = lb[k] := ⟨_, rfl⟩
        have c1' : wr.cell? ⟨b1, o1 + k, none⟩ = some (.int .u8 (x.toNat : Int)) := (hbr.cell (p := ⟨b1, o1 + k, none⟩) (Nat.lt_of_lt_of_le q1 hB)).trans (by rw [c1, hx]; simp [bytesV, byteV])
        have c2' : wr.cell? ⟨b2, o2 + k, none⟩ = some (.int .u8 (y.toNat : Int)) := (hbr.cell (p := ⟨b2, o2 + k, none⟩) (Nat.lt_of_lt_of_le q2 hB)).trans (by rw [c2, hy]; simp [bytesV, byteV])
        have z1 : b1 < wr.heap.size := Nat.lt_of_lt_of_le (Nat.lt_of_lt_of_le q1 hB) hbr.size
        have z2 : b2 < wr.heap.size := Nat.lt_of_lt_of_le (Nat.lt_of_lt_of_le q2 hB) hbr.size
        have HX := hide hx
        have HY := hide hy
        clear c1 c2 hx hy
        by_cases hxy : x = y
        · have t2 : ((x.toNat : Int) != (y.toNat : Int)) = false := by rw [hxy]; simp
          have hpre' := hide (show la.take (k + 1) = lb.take (k + 1) by rw [List.take_succ_eq_append_getElem hlt, List.take_succ_eq_append_getElem hlt2, hpre.out, ← HX.out, ← HY.out, hxy])
          clear hxy
          go_wp2_with fail
          refine wp_region_abs ext_grow (by kernel_rfl) (by kernel_rfl) ?_
          simp only [List.map_cons, List.map_nil]
          refine wpA_value ext_grow ?_ (fun _ _ h => by cases h) rfl rfl ?_ ?_
          rotate_left 1
          · intro w' hw' C hC
            go_simp
            try go_bits
            exact hC
          simp only [putS, List.set_cons_succ, List.set_cons_zero]
          refine wpA_value ext_grow ?_ (fun _ _ h => by cases h) rfl rfl ?_ ?_
          rotate_left 1
          · intro w' hw' C hC
            go_simp
            try go_bits
            exact hC
          simp only [putS, List.set_cons_succ, List.set_cons_zero]
          refine wpA_value ext_grow ?_ (fun _ _ h => by cases h) rfl rfl ?_ ?_
          rotate_left 1
          · intro w' hw' C hC
            go_simp
            try go_bits
            exact hC
          simp only [putS, List.set_cons_succ, List.set_cons_zero]
          refine wpA_value ext_grow ?_ (fun _ _ h => by cases h) rfl rfl ?_ ?_
          rotate_left 1
          · intro w' hw' C hC
            have hcw := (hw'.cell (p := ⟨b1, o1 + k, none⟩) z1).trans c1'
            go_simp
            try go_bits
            exact hC
          simp only [putS, List.set_cons_succ, List.set_cons_zero]
          refine wpA_value ext_grow ?_ (fun _ _ h => by cases h) rfl rfl ?_ ?_
          rotate_left 1
          · intro w' hw' C hC
            go_simp
            try go_bits
            exact hC
          simp only [putS, List.set_cons_succ, List.set_cons_zero]
          refine wpA_value ext_grow ?_ (fun _ _ h => by cases h) rfl rfl ?_ ?_
          rotate_left 1
          · intro w' hw' C hC
            go_simp
            try go_bits
            exact hC
          simp only [putS, List.set_cons_succ, List.set_cons_zero]
          refine wpA_value ext_grow ?_ (fun _ _ h => by cases h) rfl rfl ?_ ?_
          rotate_left 1
          · intro w' hw' C hC
            go_simp
            try go_bits
            exact hC
          simp only [putS, List.set_cons_succ, List.set_cons_zero]
          refine wpA_value ext_grow ?_ (fun _ _ h => by cases h) rfl rfl ?_ ?_
          rotate_left 1
          · intro w' hw' C hC
            have hcw := (hw'.cell (p := ⟨b2, o2 + k, none⟩) z2).trans c2'
            go_simp
            try go_bits
            exact hC
          simp only [putS, List.set_cons_succ, List.set_cons_zero]
          refine wpA_value ext_grow ?_ (fun _ _ h => by cases h) rfl rfl ?_ ?_
          rotate_left 1
          · intro w' hw' C hC
            go_simp
            try go_bits
            exact hC
          simp only [putS, List.set_cons_succ, List.set_cons_zero]
          intro w' hw'
          simp only [openS]
          go_wp2
          go_roundw
          case rel => exact ⟨k + 1, by omega, by go_num, hpre', hbr.trans ((below_of_drew hw').mono hbr.size)⟩
          case measure => simp [intOf]; omega
        · have t2 : ((x.toNat : Int) != (y.toNat : Int)) = true := by simp; intro h; exact hxy (UInt8.toNat_inj.1 (by omega))
          have hne := hide (show (la == lb) = false from beq_eq_false_iff_ne.2 fun h => hxy (by rw [HX.out, HY.out]; simp only [h]))
          clear hxy
          go_wp2_with fail
          refine wp_region_abs ext_grow (by kernel_rfl) (by kernel_rfl) ?_
          simp only [List.map_cons, List.map_nil]
          refine wpA_value ext_grow ?_ (fun _ _ h => by cases h) rfl rfl ?_ ?_
          rotate_left 1
          · intro w' hw' C hC
            go_simp
            try go_bits
            exact hC
          simp only [putS, List.set_cons_succ, List.set_cons_zero]
          refine wpA_value ext_grow ?_ (fun _ _ h => by cases h) rfl rfl ?_ ?_
          rotate_left 1
          · intro w' hw' C hC
            go_simp
            try go_bits
            exact hC
          simp only [putS, List.set_cons_succ, List.set_cons_zero]
          refine wpA_value ext_grow ?_ (fun _ _ h => by cases h) rfl rfl ?_ ?_
          rotate_left 1
          · intro w' hw' C hC
            go_simp
            try go_bits
            exact hC
          simp only [putS, List.set_cons_succ, List.set_cons_zero]
          refine wpA_value ext_grow ?_ (fun _ _ h => by cases h) rfl rfl ?_ ?_
          rotate_left 1
          · intro w' hw' C hC
            have hcw := (hw'.cell (p := ⟨b1, o1 + k, none⟩) z1).trans c1'
            go_simp
            try go_bits
            exact hC
          simp only [putS, List.set_cons_succ, List.set_cons_zero]
          refine wpA_value ext_grow ?_ (fun _ _ h => by cases h) rfl rfl ?_ ?_
          rotate_left 1
          · intro w' hw' C hC
            go_simp
            try go_bits
            exact hC
          simp only [putS, List.set_cons_succ, List.set_cons_zero]
          refine wpA_value ext_grow ?_ (fun _ _ h => by cases h) rfl rfl ?_ ?_
          rotate_left 1
          · intro w' hw' C hC
            go_simp
            try go_bits
            exact hC
          simp only [putS, List.set_cons_succ, List.set_cons_zero]
          refine wpA_value ext_grow ?_ (fun _ _ h => by cases h) rfl rfl ?_ ?_
          rotate_left 1
          · intro w' hw' C hC
            go_simp
            try go_bits
            exact hC
          simp only [putS, List.set_cons_succ, List.set_cons_zero]
          refine wpA_value ext_grow ?_ (fun _ _ h => by cases h) rfl rfl ?_ ?_
          rotate_left 1
          · intro w' hw' C hC
            have hcw := (hw'.cell (p := ⟨b2, o2 + k, none⟩) z2).trans c2'
            go_simp
            try go_bits
            exact hC
          simp only [putS, List.set_cons_succ, List.set_cons_zero]
          refine wpA_value ext_grow ?_ (fun _ _ h => by cases h) rfl rfl ?_ ?_
          rotate_left 1
          · intro w' hw' C hC
            go_simp
            try go_bits
            exact hC
          simp only [putS, List.set_cons_succ, List.set_cons_zero]
          intro w' hw'
          simp only [openS]
          go_wp2
          go_ret
          exact ⟨by rw [hne.out]; rfl, hbr.trans ((below_of_drew hw').mono hbr.size)⟩
      · have heq := hide (show (la == lb) = true from beq_iff_eq.2 (by have h1 := hpre.out; have h2 := HL.out; rw [List.take_of_length_le (by omega), List.take_of_length_le (by omega)] at h1; exact h1))
        go_wp2_with fail
        go_ret
        exact ⟨by rw [heq.out]; rfl, hbr⟩
  · have t1 : ((la.length : Int) != (lb.length : Int)) = true := by simp; omega
    have hne := hide (show (la == lb) = false from beq_eq_false_iff_ne.2 fun h => hlen (by rw [h]))
    clear hlen
    go_enter Tryd.func47, Tryd.ntmps47
    go_wp2_with fail
    go_ret
    exact ⟨by rw [hne.out]; rfl, Below.refl _ _⟩
end
end Go.Proofs.YtlccpchlclpnaaaDoor
