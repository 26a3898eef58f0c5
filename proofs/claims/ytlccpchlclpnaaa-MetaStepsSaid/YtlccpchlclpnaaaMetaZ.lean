/- THE WALK of the document's Drop at tables. No statement of the seat is proved here; no condition but sizes. -/
import Derived.Test.YtlccpchlclpnaaaMetaX
import Derived.Test.YtlccpchlclpnaaaMetaRP
namespace Go.Proofs.Ytlccpchlclpnaaa
open Go.RowKit

def DropEnd (w : World) (ss : List Ps) (ns : List Sn) (cur : UInt64) (ids : List UInt64) : Ending → World → Prop :=
  if dropErr ns cur ids = 0 then StepEnd w 0 ss (ns.filter fun s => !isIn ids s.id) cur.toNat else StepEnd w (dropErr ns cur ids) [] [] 0
def RefDropEnd (w : World) (ss : List Ps) (ns : List Sn) (cur : UInt64) (ids : List UInt64) : Ending → World → Prop :=
  if dropErr ns cur ids = 0 then RefEnd w 0 ss (ns.filter fun s => !isIn ids s.id) cur.toNat else RefEnd w (dropErr ns cur ids) [] [] 0
theorem metaDrop (w : World) (sA : Option Addr) (sc : Nat) (ss : List Sl) (nA : Option Addr) (nc : Nat) (ns : List Nl) (cur : UInt64) (hT : TabR w w.heap.size sA sc ss nA nc ns) (h1 : ss.length ≤ 1000000) (h2 : ∀ s ∈ ss, s.fs.length ≤ 1000000) (h3 : ns.length ≤ 1000000) (h4 : ∀ s ∈ ns, s.p.ms.length ≤ 1000000)
    (ids : List UInt64) (iA : Option Addr) (ic : Nat) (hri : Rd w w.heap.size 1 iA ids.length ic (u64sV ids)) (hi : ids.length ≤ 1000000) :
    Calls Try.prog 46 #[.agg #[.slice sA ss.length sc, .slice nA ns.length nc, .int .u64 (cur.toNat : Int)], .slice iA ids.length ic] w (DropEnd w (ss.map plS) (ns.map plN) cur ids) := by
  unfold DropEnd
  by_cases h : dropErr (ns.map plN) cur ids = 0
  · rw [if_pos h]
    exact metaDrop0 w sA sc ss nA nc ns cur hT h1 h2 h3 h4 ids iA ic hri hi h
  · rw [if_neg h]
    exact metaDropBad w sA sc ss nA nc ns cur hT h3 h4 ids iA ic hri hi h
theorem isIn_snoc {ids : List UInt64} {x : UInt64} {k : Nat} (hk : k < ids.length) : isIn (ids.take (k + 1)) x = (isIn (ids.take k) x || ((x.toNat : Int) == ((ids.getD k default).toNat : Int))) := by
  unfold isIn
  rw [List.take_add_one, List.any_append]
  have e : ids[k]?.toList = [ids.getD k default] := by simp [List.getD, hk]
  rw [e]
  simp
theorem beq_sym (a b : Int) : (a == b) = (b == a) := by
  rw [Bool.eq_iff_iff, beq_iff_eq, beq_iff_eq]
  exact eq_comm
def LitX (f : Nl) (v : Value) (w : World) : Prop := ∃ L, v = .slice L 1 1 ∧ Rd w w.heap.size 7 L 1 1 (nlV f)
theorem mono_litX (f : Nl) : (Slot.has (LitX f)).mono Ext := fun _ _ _ he ⟨L, e, h⟩ => ⟨L, e, (h.below he).more he.size⟩
theorem litX_new (w : World) (f : Nl) : (Slot.has (LitX f)).holds (.slice (some ⟨w.heap.size, 0, none⟩) 1 1) (w.alloc (.cells #[.int .u64 (f.p.id.toNat : Int), .int .u64 (f.p.par.toNat : Int), .int .u64 (f.p.seq.toNat : Int), .int .u64 (f.p.off.toNat : Int), .int .u64 (f.p.tim.toNat : Int), .int .u32 (f.p.sch.toNat : Int), .slice f.A f.p.ms.length f.c] 73)) := by
  refine ⟨_, rfl, ?_⟩
  have := Rd.lit w 73 #[.int .u64 (f.p.id.toNat : Int), .int .u64 (f.p.par.toNat : Int), .int .u64 (f.p.seq.toNat : Int), .int .u64 (f.p.off.toNat : Int), .int .u64 (f.p.tim.toNat : Int), .int .u32 (f.p.sch.toNat : Int), .slice f.A f.p.ms.length f.c] (n := 1) (sz := 7) rfl (by decide)
  exact this.more (by simp)
set_option maxRecDepth 100000 in
set_option maxHeartbeats 4000000 in
theorem refDrop (w : World) (sA : Option Addr) (sc : Nat) (ss : List Sl) (nA : Option Addr) (nc : Nat) (ns : List Nl) (cur : UInt64) (hT : TabR w w.heap.size sA sc ss nA nc ns) (h3 : ns.length ≤ 1000000)
    (ids : List UInt64) (iA : Option Addr) (ic : Nat) (hri : Rd w w.heap.size 1 iA ids.length ic (u64sV ids)) (hi : ids.length ≤ 1000000) :
    Calls Try.prog 47 #[.agg #[.slice sA ss.length sc, .slice nA ns.length nc, .int .u64 (cur.toNat : Int)], .slice iA ids.length ic] w (RefDropEnd w (ss.map plS) (ns.map plN) cur ids) := by
  obtain ⟨P', hP'⟩ : ∃ P', P' = RefDropEnd w (ss.map plS) (ns.map plN) cur ids := ⟨_, rfl⟩
  rw [← hP']
  have HP := hide hP'
  clear hP'
  go_enter Try.func47, Try.ntmps47
  go_wp2_with fail
  have hb1 := (Below.refl w.heap.size w).alloc (Nat.le_refl _) (.cells #[.slice sA ss.length sc, .slice nA ns.length nc, .int .u64 (cur.toNat : Int)] 70)
  have x1 := boxN_new w #[.slice sA ss.length sc, .slice nA ns.length nc, .int .u64 (cur.toNat : Int)] 70
  have hz1 : (w.alloc (.cells #[.slice sA ss.length sc, .slice nA ns.length nc, .int .u64 (cur.toNat : Int)] 70)).heap.size = w.heap.size + 1 := by simp
  generalize w.alloc (.cells #[.slice sA ss.length sc, .slice nA ns.length nc, .int .u64 (cur.toNat : Int)] 70) = w1 at *
  have x2 := boxN_new w1 #[.slice none 0 0, .slice none 0 0, .int .u64 0] 70
  have hb2 := (Below.refl w1.heap.size w1).alloc (Nat.le_refl _) (.cells #[.slice none 0 0, .slice none 0 0, .int .u64 0] 70)
  have x1b := x1.keep hb2 x1.z
  have hB2 := below_call hb1 hb1.size hb2
  generalize w1.alloc (.cells #[.slice none 0 0, .slice none 0 0, .int .u64 0] 70) = w2 at *
  rw [← hz1]
  have z12 : w.heap.size < w1.heap.size := by omega
  have z23 : w1.heap.size < w2.heap.size := x2.z
  generalize hb1e : w.heap.size = b1 at *
  generalize w1.heap.size = b2 at *
  have H1 := hide hb1e
  have hT2 := (hT.below hB2).more (show b1 ≤ w2.heap.size by omega)
  have hri2 := (hri.below hB2).more (show b1 ≤ w2.heap.size by omega)
  clear hz1 hb1 hb2 x1 hb1e
  have z13 : b1 < w2.heap.size := by omega
  go_loopw [6, 7] (fun nv iv wr => ∃ k : Nat, iv = .int .i64 (k : Int) ∧ k ≤ ids.length ∧ nv = .bool (isIn (ids.take k) cur) ∧ Hid (∀ j, j < k → hasId (ns.map plN) (ids.getD j default) = true) ∧ Below w2.heap.size w2 wr) (fun _ iv _ => ids.length - (intOf iv).toNat)
  case atStart => exact ⟨0, rfl, Nat.zero_le _, rfl, hide (fun j h => by omega), Below.refl _ _⟩
  case round =>
    obtain ⟨k, rfl, hk, hnv, hall, hbr⟩ := hrel
    obtain ⟨nb, hnb⟩ : ∃ nb, nb = isIn (ids.take k) cur := ⟨_, rfl⟩
    rw [← hnb] at hnv
    subst hnv
    have HNB := hide hnb
    clear hnb
    have X1 := x1b.keep hbr x1b.z
    have X2 := x2.keep hbr x2.z
    have c0 := X1.cell 0 _ rfl
    have c1 := X1.cell 1 _ rfl
    have c2 := X1.cell 2 _ rfl
    have hTr := hT2.later hbr
    have hBr : Below b1 w wr := hB2.trans (hbr.mono (by omega))
    by_cases hlt : k < ids.length
    · obtain ⟨bi, off, rfl, hbi, fi⟩ := ((hri2.below hbr).more hbr.size).u64 hlt
      have hd := hasId_ix ns (ids.getD k default)
      generalize hx : ids.getD k default = x at *
      have HX := hide hx
      obtain ⟨i5, hi5⟩ : ∃ i, i = sIx ns x := ⟨_, rfl⟩
      rw [← hi5] at hd
      have HI5 := hide hi5
      have hneg : decide (i5 < 0) = !hasId (ns.map plN) x := by rw [← hd, Bool.eq_iff_iff]; simp
      obtain ⟨hb, hhb⟩ : ∃ hb, hb = hasId (ns.map plN) x := ⟨_, rfl⟩
      rw [← hhb] at hneg
      have HHB := hide hhb
      have zx : b1 < wr.heap.size := X1.z
      have HX2 := hide (And.intro X1 X2)
      clear hx hi5 hhb hd X1 X2
      go_wp2_with fail
      refine wp_region_abs ext_grow (by kernel_rfl) (by kernel_rfl) ?_
      simp only [List.map_cons, List.map_nil]
      refine wpA_value ext_grow ?_ (fun _ _ h => by cases h) rfl rfl ?_ ?_
      rotate_left 1
      · intro w' hw' C hC
        have v0 := (hw'.cell (p := ⟨b1, 0, none⟩) zx).trans c0
        have v1 := (hw'.cell (p := ⟨b1, 1, none⟩) zx).trans c1
        have v2 := (hw'.cell (p := ⟨b1, 2, none⟩) zx).trans c2
        go_simp
        try go_bits
        exact hC
      simp only [putS, List.set_cons_succ, List.set_cons_zero]
      refine wpA_value ext_grow ?_ (fun _ _ h => by cases h) rfl rfl ?_ ?_
      rotate_left 1
      · intro w' hw' C hC
        go_simp
        try go_bits
        exact hC
      simp only [putS, List.set_cons_succ, List.set_cons_zero]
      refine wpA_value ext_grow ?_ (fun _ _ h => by cases h) rfl rfl ?_ ?_
      rotate_left 1
      · intro w' hw' C hC
        go_simp
        try go_bits
        exact hC
      simp only [putS, List.set_cons_succ, List.set_cons_zero]
      refine wpA_value ext_grow ?_ (fun _ _ h => by cases h) rfl rfl ?_ ?_
      rotate_left 1
      · intro w' hw' C hC
        go_simp
        try go_bits
        exact hC
      simp only [putS, List.set_cons_succ, List.set_cons_zero]
      refine wpA_value ext_grow ?_ (fun _ _ h => by cases h) rfl rfl ?_ ?_
      rotate_left 1
      · intro w' hw' C hC
        have v0 := (hw'.cell (p := ⟨bi, off + k, none⟩) hbi).trans fi
        go_simp
        try go_bits
        exact hC
      simp only [putS, List.set_cons_succ, List.set_cons_zero]
      refine wpA_known (.is (.int .i64 i5)) (fun _ _ h => by cases h) rfl rfl (mono_is _) (fun w' hw' => ?_) ?_
      · go_simp
        exact ⟨Below.refl _ _, (refSnap w' sA sc ss nA nc ns cur.toNat (hTr.drew.later hw') x).mono fun e w'' h => is_ret (show e = .returned (.int .i64 i5) from by rw [HI5.out]; exact h.1) h.2⟩
      simp only [putS, List.set_cons_succ, List.set_cons_zero]
      refine wpA_value ext_grow ?_ (fun _ _ h => by cases h) rfl rfl ?_ ?_
      rotate_left 1
      · intro w' hw' C hC
        go_simp
        try go_bits
        exact hC
      simp only [putS, List.set_cons_succ, List.set_cons_zero]
      intro wd hwd
      simp only [openS]
      have hbd := below_of_drew hwd
      have X1 := HX2.out.1.keep hbd HX2.out.1.z
      have X2 := HX2.out.2.keep hbd HX2.out.2.z
      have hBd : Below b1 w wd := below_call hBr (Nat.le_of_lt zx) hbd
      have hbrd := below_call hbr hbr.size hbd
      have d2 := X1.cell 2 _ rfl
      have fi2 := (hbd.cell (p := ⟨bi, off + k, none⟩) hbi).trans fi
      have HX3 := hide X2
      clear c0 c1 c2 hTr hBr HX2 hbd hwd hbr fi X1
      cases hb with
      | false =>
        have HE := hide (drop_none (cur := cur) hlt (by rw [HX.out]; exact HHB.out.symm))
        have k0 := X2.cell 0 _ rfl
        have k1 := X2.cell 1 _ rfl
        have k2 := X2.cell 2 _ rfl
        have q0 := X2.free 0 (by simp)
        have q1 := X2.free 1 (by simp)
        have q2 := X2.free 2 (by simp)
        clear X2
        go_wp2_with fail
        (try simp only [Exit.inBlock, Exit.then])
        refine bodyPost_ret (ret_tb2 (b := b2) rfl _ _ rfl HX3.out.set3b) rfl ?_
        rw [HP.out]
        unfold RefDropEnd
        rw [HE.out, if_neg (by decide)]
        exact ref_bad w _ 2 (by rw [H1.out]; exact below_set3b hBd (by omega))
      | true =>
        have HOK : Hid (∀ j, j < k + 1 → hasId (ns.map plN) (ids.getD j default) = true) := hide (fun j hj => by
          by_cases e : j = k
          · rw [e, HX.out]; exact HHB.out.symm
          · exact hall.out j (by omega))
        clear X2
        cases nb with
        | true =>
          have HN : Hid (isIn (ids.take (k + 1)) cur = true) := hide (by rw [isIn_snoc hlt, ← HNB.out]; rfl)
          go_wp2_with fail
          go_quiet (fail)
          go_wp2_with fail
          go_roundw
          case rel => exact ⟨k + 1, by go_num, hlt, by rw [HN.out], HOK, below_dN hbrd _⟩
          case measure => simp [intOf]; omega
        | false =>
          obtain ⟨eb, heb⟩ : ∃ eb, ((x.toNat : Int) == (cur.toNat : Int)) = eb := ⟨_, rfl⟩
          have HN : Hid (isIn (ids.take (k + 1)) cur = eb) := hide (by rw [isIn_snoc hlt, ← HNB.out, HX.out, beq_sym, heb]; rfl)
          cases eb with
          | true =>
            go_wp2_with fail
            go_quiet (fail)
            go_wp2_with fail
            go_roundw
            case rel => exact ⟨k + 1, by go_num, hlt, by rw [HN.out], HOK, below_dN hbrd _⟩
            case measure => simp [intOf]; omega
          | false =>
            go_wp2_with fail
            go_quiet (fail)
            go_wp2_with fail
            go_roundw
            case rel => exact ⟨k + 1, by go_num, hlt, by rw [HN.out], HOK, below_dN hbrd _⟩
            case measure => simp [intOf]; omega
    · have hall2 : ids.all (hasId (ns.map plN)) = true := drop_all (fun j hj => hall.out j (by omega))
      have hnb : nb = isIn ids cur := by rw [HNB.out, show k = ids.length by omega, List.take_length]
      have HE : Hid (dropErr (ns.map plN) cur ids = if nb = true then 1 else 0) := hide (by unfold dropErr; rw [if_pos hall2, ← hnb])
      have HX2 := hide X2
      clear hall hall2 hnb
      cases nb with
      | true =>
        have HE1 : Hid (dropErr (ns.map plN) cur ids = 1) := hide (by rw [HE.out]; rfl)
        have k0 := X2.cell 0 _ rfl
        have k1 := X2.cell 1 _ rfl
        have k2 := X2.cell 2 _ rfl
        have q0 := X2.free 0 (by simp)
        have q1 := X2.free 1 (by simp)
        have q2 := X2.free 2 (by simp)
        clear X2 X1
        go_wp2_with fail
        (try simp only [Exit.inBlock, Exit.then])
        refine bodyPost_ret (ret_tb2 (b := b2) rfl _ _ rfl HX2.out.set3b) rfl ?_
        rw [HP.out]
        unfold RefDropEnd
        rw [HE1.out, if_neg (by decide)]
        exact ref_bad w _ 1 (by rw [H1.out]; exact below_set3b hBr (by omega))
      | false =>
        have HE0 : Hid (dropErr (ns.map plN) cur ids = 0) := hide (by rw [HE.out]; rfl)
        have hb5 := (Below.refl wr.heap.size wr).alloc (Nat.le_refl _) (.cells #[.slice sA ss.length sc, .slice none 0 0, .int .u64 (cur.toNat : Int)] 70)
        have x5 := boxN_new wr #[.slice sA ss.length sc, .slice none 0 0, .int .u64 (cur.toNat : Int)] 70
        have X15 := X1.keep hb5 X1.z
        have X25 := X2.keep hb5 X2.z
        have hT5 := hTr.later hb5
        have hri5 := (((hri2.below hbr).more hbr.size).below hb5).more hb5.size
        have hB5 : Below b1 w _ := below_call hBr (show b1 ≤ wr.heap.size by have := hbr.size; omega) hb5
        have z5 : b2 < wr.heap.size := X2.z
        go_wp2_with fail
        generalize wr.alloc (.cells #[.slice sA ss.length sc, .slice none 0 0, .int .u64 (cur.toNat : Int)] 70) = w5 at *
        generalize wr.heap.size = b5 at *
        have z55 : b5 < w5.heap.size := x5.z
        clear c0 c1 c2 X1 X2 hTr hBr hbr hb5 hT2 hri2 hlt hk HX2 HNB
        have hcn : ns.length ≤ 9223372036854775807 := by omega
        go_loopw [9] (fun iv wr => ∃ (i : Nat) (uA : Option Addr) (uc : Nat) (dn : List Nl), iv = .int .i64 (i : Int) ∧ i ≤ ns.length ∧ BoxN wr b5 [.slice sA ss.length sc, .slice uA dn.length uc, .int .u64 (cur.toNat : Int)] ∧ wr.ownsRow w5.heap.size 73 7 (.slice uA dn.length uc) dn.length (nlsV dn) ∧ Hid (dn = (ns.take i).filter (fun f => !isIn ids f.p.id)) ∧ Below b5 w5 wr) (fun iv _ => ns.length - (intOf iv).toNat)
        case atStart => exact ⟨0, none, 0, [], rfl, Nat.zero_le _, x5, World.ownsRow_nil _ _ _ _, hide rfl, Below.refl _ _⟩
        case round =>
          obtain ⟨m, uA, uc, dn, rfl, hm, X, O, hdn, hbr⟩ := hrel
          have X1 := X15.keep hbr (show b1 < b5 by omega)
          have X2 := X25.keep hbr z5
          have c1 := X1.cell 1 _ rfl
          have hBr : Below b1 w wr := hB5.trans (hbr.mono (by omega))
          have hTr := (hT.below hBr).more (show b1 ≤ wr.heap.size by have := hbr.size; omega)
          have hrr := (hri.below hBr).more (show b1 ≤ wr.heap.size by have := hbr.size; omega)
          by_cases hltm : m < ns.length
          · obtain ⟨bn, on, rfl, hbn, f0, f1, f2, f3, f4, f5, f6⟩ := hTr.nrow.nl hltm
            have hdl : dn.length ≤ 1000000 := by
              have := List.length_filter_le (fun f : Nl => !isIn ids f.p.id) (ns.take m)
              rw [← hdn.out, List.length_take] at this
              omega
            have hfs := filt_step (p := fun f : Nl => isIn ids f.p.id) hltm
            generalize hf : ns.getD m default = f at *
            have HF := hide hf
            have HFS := hide hfs
            have HHF := hide (And.intro f1 (And.intro f2 (And.intro f3 (And.intro f4 (And.intro f5 f6)))))
            clear hf hfs f1 f2 f3 f4 f5 f6
            have zb1 := X1.z
            go_wp2_with fail
            go_loopw [10, 11] (fun gv kv wq => ∃ q : Nat, kv = .int .i64 (q : Int) ∧ q ≤ ids.length ∧ gv = .bool (isIn (ids.take q) f.p.id) ∧ Below wr.heap.size wr wq) (fun _ kv _ => ids.length - (intOf kv).toNat)
            case atStart => exact ⟨0, rfl, Nat.zero_le _, rfl, Below.refl _ _⟩
            case round =>
              obtain ⟨q, rfl, hq, hgv, hbq⟩ := hrel
              obtain ⟨gb, hgb⟩ : ∃ gb, gb = isIn (ids.take q) f.p.id := ⟨_, rfl⟩
              rw [← hgb] at hgv
              subst hgv
              have HGB := hide hgb
              clear hgb
              by_cases hltq : q < ids.length
              · obtain ⟨bi, off, rfl, hbi, fi⟩ := (hrr.below hbq).u64 hltq
                have e1 := (hbq.cell (p := ⟨b1, 1, none⟩) zb1).trans c1
                have e0 := (hbq.cell (p := ⟨bn, on + m * 7, none⟩) hbn).trans f0
                generalize hx : ids.getD q default = x at *
                have HX := hide hx
                clear hx c1 f0
                cases gb with
                | true =>
                  have HN : Hid (isIn (ids.take (q + 1)) f.p.id = true) := hide (by rw [isIn_snoc hltq, ← HGB.out]; rfl)
                  go_wp2_with fail
                  go_quiet (fail)
                  go_wp2_with fail
                  go_roundw
                  case rel => exact ⟨q + 1, by go_num, hltq, by rw [HN.out], below_dN hbq _⟩
                  case measure => simp [intOf]; omega
                | false =>
                  obtain ⟨eb, heb⟩ : ∃ eb, ((x.toNat : Int) == (f.p.id.toNat : Int)) = eb := ⟨_, rfl⟩
                  have HN : Hid (isIn (ids.take (q + 1)) f.p.id = eb) := hide (by rw [isIn_snoc hltq, ← HGB.out, HX.out, beq_sym, heb]; rfl)
                  cases eb with
                  | true =>
                    go_wp2_with fail
                    go_quiet (fail)
                    go_wp2_with fail
                    go_roundw
                    case rel => exact ⟨q + 1, by go_num, hltq, by rw [HN.out], below_dN hbq _⟩
                    case measure => simp [intOf]; omega
                  | false =>
                    go_wp2_with fail
                    go_quiet (fail)
                    go_wp2_with fail
                    go_roundw
                    case rel => exact ⟨q + 1, by go_num, hltq, by rw [HN.out], below_dN hbq _⟩
                    case measure => simp [intOf]; omega
              · have HGF : Hid (gb = isIn ids f.p.id) := hide (by rw [HGB.out, show q = ids.length by omega, List.take_length])
                have hbrq := hbr.trans (hbq.mono (Nat.le_of_lt X.z))
                have XQ := X.keep hbq X.z
                have OQ := own_below O hbq
                cases gb with
                | true =>
                  go_wp2_with fail
                  go_roundw
                  case rel => exact ⟨m + 1, uA, uc, dn, by go_num, hltm, XQ, OQ, hide (by rw [HFS.out, ← HGF.out, hdn.out]; simp), hbrq⟩
                  case measure => simp [intOf]; omega
                | false =>
                  have e1 := (hbq.cell (p := ⟨b1, 1, none⟩) zb1).trans c1
                  have i0 := (hbq.cell (p := ⟨bn, on + m * 7, none⟩) hbn).trans f0
                  have i1 := (hbq.cell (p := ⟨bn, on + m * 7 + 1, none⟩) hbn).trans HHF.out.1
                  have i2 := (hbq.cell (p := ⟨bn, on + m * 7 + 2, none⟩) hbn).trans HHF.out.2.1
                  have i3 := (hbq.cell (p := ⟨bn, on + m * 7 + 3, none⟩) hbn).trans HHF.out.2.2.1
                  have i4 := (hbq.cell (p := ⟨bn, on + m * 7 + 4, none⟩) hbn).trans HHF.out.2.2.2.1
                  have i5 := (hbq.cell (p := ⟨bn, on + m * 7 + 5, none⟩) hbn).trans HHF.out.2.2.2.2.1
                  have i6 := (hbq.cell (p := ⟨bn, on + m * 7 + 6, none⟩) hbn).trans HHF.out.2.2.2.2.2
                  have u1 := XQ.cell 1 _ rfl
                  have zu := XQ.z
                  have zq1 : b1 < wr.heap.size := Nat.lt_of_lt_of_le zb1 hbq.size
                  have zqn : bn < wr.heap.size := Nat.lt_of_lt_of_le hbn hbq.size
                  have HXO := hide (And.intro XQ OQ)
                  have hsz5 : w5.heap.size ≤ wr.heap.size := hbrq.size
                  clear c1 f0 O X XQ OQ
                  go_wp2_with fail
                  refine wp_region_abs_tail 8 ext_grow (by kernel_rfl) (by kernel_rfl) ?_
                  simp only [List.map_cons, List.map_nil, List.take_succ_cons, List.take_zero, List.drop_succ_cons, List.drop_zero]
                  refine wpA_value ext_grow ?_ (fun _ _ h => by cases h) rfl rfl ?_ ?_
                  rotate_left 1
                  · intro w' hw' C hC
                    go_simp
                    try go_bits
                    exact hC
                  simp only [putS, List.set_cons_succ, List.set_cons_zero]
                  refine wpA_value ext_grow ?_ (fun _ _ h => by cases h) rfl rfl ?_ ?_
                  rotate_left 1
                  · intro w' hw' C hC
                    have v0 := (hw'.cell (p := ⟨b5, 1, none⟩) zu).trans u1
                    go_simp
                    try go_bits
                    exact hC
                  simp only [putS, List.set_cons_succ, List.set_cons_zero]
                  refine wpA_value ext_grow ?_ (fun _ _ h => by cases h) rfl rfl ?_ ?_
                  rotate_left 1
                  · intro w' hw' C hC
                    go_simp
                    try go_bits
                    exact hC
                  simp only [putS, List.set_cons_succ, List.set_cons_zero]
                  refine wpA_value ext_grow ?_ (fun _ _ h => by cases h) rfl rfl ?_ ?_
                  rotate_left 1
                  · intro w' hw' C hC
                    have v0 := (hw'.cell (p := ⟨b1, 1, none⟩) zq1).trans e1
                    go_simp
                    try go_bits
                    exact hC
                  simp only [putS, List.set_cons_succ, List.set_cons_zero]
                  refine wpA_value ext_grow ?_ (fun _ _ h => by cases h) rfl rfl ?_ ?_
                  rotate_left 1
                  · intro w' hw' C hC
                    go_simp
                    try go_bits
                    exact hC
                  simp only [putS, List.set_cons_succ, List.set_cons_zero]
                  refine wpA_value ext_grow ?_ (fun _ _ h => by cases h) rfl rfl ?_ ?_
                  rotate_left 1
                  · intro w' hw' C hC
                    go_simp
                    try go_bits
                    exact hC
                  simp only [putS, List.set_cons_succ, List.set_cons_zero]
                  refine wpA_value ext_grow ?_ (fun _ _ h => by cases h) rfl rfl ?_ ?_
                  rotate_left 1
                  · intro w' hw' C hC
                    have v0 := (hw'.cell (p := ⟨bn, on + m * 7, none⟩) zqn).trans i0
                    have v1 := (hw'.cell (p := ⟨bn, on + m * 7 + 1, none⟩) zqn).trans i1
                    have v2 := (hw'.cell (p := ⟨bn, on + m * 7 + 2, none⟩) zqn).trans i2
                    have v3 := (hw'.cell (p := ⟨bn, on + m * 7 + 3, none⟩) zqn).trans i3
                    have v4 := (hw'.cell (p := ⟨bn, on + m * 7 + 4, none⟩) zqn).trans i4
                    have v5 := (hw'.cell (p := ⟨bn, on + m * 7 + 5, none⟩) zqn).trans i5
                    have v6 := (hw'.cell (p := ⟨bn, on + m * 7 + 6, none⟩) zqn).trans i6
                    go_simp
                    try go_bits
                    exact hC
                  simp only [putS, List.set_cons_succ, List.set_cons_zero]
                  refine wpA_known (.has (LitX f)) (fun _ _ h => by cases h) rfl rfl (mono_litX _) (fun w' hw' => ?_) ?_
                  · go_simp
                    exact ⟨(Below.refl _ _).alloc (Nat.le_refl _) _, litX_new w' f⟩
                  simp only [putS, List.set_cons_succ, List.set_cons_zero]
                  intro wA hwA
                  simp only [openS]
                  rintro v79 ⟨L9, rfl, hlit⟩
                  have hbA := below_of_drew hwA
                  have XA := HXO.out.1.keep hbA HXO.out.1.z
                  have OA := own_below HXO.out.2 hbA
                  have hBA : Below b5 w5 wA := below_call hbrq (Nat.le_of_lt zu) hbA
                  have hszA : w5.heap.size ≤ wA.heap.size := hBA.size
                  clear hwA hbA e1 i0 i1 i2 i3 i4 i5 i6 u1 hbrq
                  go_wp2_with (at_builtin; refine wpList_app _ tySnaps rfl (.tmp 73) (.tmp 79) rfl w5.heap.size _ _ _ rfl OA wA.heap.size L9 1 1 _ rfl hlit (nlV_one _) (by omega) hszA ?_; intro v3 w8 hown8 hg8 _; obtain ⟨rA, rc, rfl⟩ := own_slice hown8; have hb8 : Below w5.heap.size wA w8 := (below_app (Below.refl _ _) (Nat.le_refl _) OA hg8 hszA); have X8 := XA.keep hb8 z55; have s8 := X8.cell 1 _ rfl; have f8 := X8.free 1 (by simp); have hB8 : Below b5 w5 w8 := hBA.trans (hb8.mono (Nat.le_of_lt z55)); have HO := hide (And.intro hown8 X8); clear hown8 hg8 hb8 X8)
                  go_roundw
                  case rel =>
                    have el : (dn ++ [f]).length = dn.length + 1 := by simp
                    have er : nlsV (dn ++ [f]) = nlsV dn ++ nlV f := by rw [nlsV_append]; simp [nlsV]
                    refine ⟨m + 1, rA, rc, dn ++ [f], by go_num, hltm, ?_, ?_, hide (by rw [HFS.out, ← HGF.out, hdn.out]; rfl), hB8.setCell (p := ⟨b5, 1, none⟩) (Nat.le_refl _) _⟩
                    · rw [el]; exact HO.out.2.set (j := 1) _ rfl
                    · rw [el, er]; exact ownsRow_setCell_below HO.out.1 (a := ⟨b5, 1, none⟩) z55 _
                  case measure => simp [intOf]; omega
          · have HDN : Hid (dn.map plN = (ns.map plN).filter (fun s => !isIn ids s.id)) := hide (by rw [hdn.out, show m = ns.length by omega, List.take_length, List.filter_map]; rfl)
            have HMEM : Hid (∀ s ∈ dn, s ∈ ns) := hide (fun s hs => by rw [hdn.out] at hs; exact List.mem_of_mem_take (List.mem_filter.1 hs).1)
            have u0 := X.cell 0 _ rfl
            have u1 := X.cell 1 _ rfl
            have u2 := X.cell 2 _ rfl
            have k0 := X2.cell 0 _ rfl
            have k1 := X2.cell 1 _ rfl
            have k2 := X2.cell 2 _ rfl
            have q0 := X2.free 0 (by simp)
            have q1 := X2.free 1 (by simp)
            have q2 := X2.free 2 (by simp)
            have HX2 := hide X2
            have HO := hide O
            clear X X1 X2 O hTr hrr hdn
            go_wp2_with fail
            (try simp only [Exit.inBlock, Exit.then])
            refine bodyPost_ret (ret_tb2 (b := b2) rfl _ _ rfl HX2.out.set3b) rfl ?_
            rw [HP.out]
            unfold RefDropEnd
            rw [HE0.out, if_pos rfl]
            have hz : b2 < w5.heap.size := by omega
            have hzb : w5.heap.size ≤ wr.heap.size := hbr.size
            have hBx := below_set3b (b := b2) (v0 := .slice sA ss.length sc) (v1 := .slice uA dn.length uc) (v2 := .int .u64 (cur.toNat : Int)) hBr (by omega)
            have O6 := ownsRow_setCell_below (ownsRow_setCell_below (ownsRow_setCell_below HO.out (a := ⟨b2, 0, none⟩) hz (.slice sA ss.length sc)) (a := ⟨b2, 1, none⟩) hz (.slice uA dn.length uc)) (a := ⟨b2, 2, none⟩) hz (.int .u64 (cur.toNat : Int))
            have zf : wr.heap.size ≤ (set3b wr b2 (.slice sA ss.length sc) (.slice uA dn.length uc) (.int .u64 (cur.toNat : Int))).heap.size := by simp [set3b]
            have ht : TabR (set3b wr b2 (.slice sA ss.length sc) (.slice uA dn.length uc) (.int .u64 (cur.toNat : Int))) (set3b wr b2 (.slice sA ss.length sc) (.slice uA dn.length uc) (.int .u64 (cur.toNat : Int))).heap.size sA sc ss uA uc dn :=
              ⟨(hT.srow.below hBx).more (by omega), fun s hs => ((hT.sin s hs).below hBx).more (by omega), rd_own O6, fun s hs => ((hT.nin s (HMEM.out s hs)).below hBx).more (by omega)⟩
            exact ⟨sA, sc, ss, uA, uc, dn, rfl, ht, rfl, HDN.out, by rw [H1.out]; exact hBx⟩
end Go.Proofs.Ytlccpchlclpnaaa
