/- THE WALK of the document's Right at tables. No statement of the seat is proved here; no condition but the texts' size. -/
import Derived.Test.YtlccpchlclpnaaaMetaRW
import Derived.Test.YtlccpchlclpnaaaGreat
import Derived.Deep.CutRange
namespace Go.Proofs.Ytlccpchlclpnaaa
open Go.RowKit

theorem sOk_zero {ss : List Ps} (h : check (ss.getD 0 ps0).1 (ss.getD 0 ps0).2 = 0) : sOk ss 0 = true := by
  have h1 := (check_len h).1
  unfold sOk wasP
  rw [if_pos rfl, decide_eq_true h]
  have e : fdsEq (List.take ps0.2.length (ss.getD 0 ps0).2) ps0.2 = true := by simp [ps0, fdsEq]
  rw [e, decide_eq_true (show ps0.1.toNat < (ss.getD 0 ps0).1.toNat from h1), decide_eq_true (show ps0.2.length ≤ (ss.getD 0 ps0).2.length from Nat.zero_le _)]
  rfl
theorem take_getD {a : List Fd} {n j : Nat} (hj : j < n) : (a.take n).getD j default = a.getD j default := by
  simp [List.getD, List.getElem?_take, hj]
theorem fds_pre {a b : List Fd} (hl : b.length ≤ a.length) (h : ∀ j, j < b.length → fdEq (a.getD j default) (b.getD j default) = true) : fdsEq (a.take b.length) b = true := by
  have e : (a.take b.length).length = b.length := by rw [List.length_take]; omega
  unfold fdsEq
  rw [decide_eq_true e, Bool.true_and, e]
  exact range_good (fun j hj => by rw [take_getD hj]; exact h j hj)
theorem fds_bad {a b : List Fd} {j : Nat} (hl : b.length ≤ a.length) (hj : j < b.length) (h : fdEq (a.getD j default) (b.getD j default) = false) : fdsEq (a.take b.length) b = false := by
  have e : (a.take b.length).length = b.length := by rw [List.length_take]; omega
  unfold fdsEq
  rw [e, range_bad hj (by rw [take_getD hj]; exact h), Bool.and_false]
theorem names_len {l : List ByteArray} (h : namesOk l = true) : l.length ≤ 8 := by
  unfold namesOk at h
  simp only [Bool.and_eq_true, decide_eq_true_eq] at h
  exact h.1
theorem names_bad1 {l : List ByteArray} {q : Nat} (hq : q < l.length) (h : pathOk (l.getD q default) = false) : namesOk l = false := by
  unfold namesOk
  rw [range_bad hq (by rw [h]; rfl), Bool.and_false]
theorem names_bad2 {l : List ByteArray} {q j : Nat} (hq : q < l.length) (hj : j < q) (h : ((l.getD j default).toList == (l.getD q default).toList) = true) : namesOk l = false := by
  unfold namesOk
  rw [range_bad hq, Bool.and_false]
  have : ((l.take q).any fun y => (l.getD q default).toList == y.toList) = true := by
    rw [List.any_eq_true]
    refine ⟨l.getD j default, ?_, ?_⟩
    · have : l.getD j default = (l.take q).getD j default := by simp [List.getD, List.getElem?_take, hj]
      rw [this]
      exact getD_mem (by rw [List.length_take]; omega)
    · rw [beq_iff_eq] at h ⊢
      exact h.symm
  rw [this]
  simp
theorem names_good {l : List ByteArray} (h8 : l.length ≤ 8) (h : ∀ q, q < l.length → pathOk (l.getD q default) = true ∧ ∀ j, j < q → ((l.getD j default).toList == (l.getD q default).toList) = false) : namesOk l = true := by
  unfold namesOk
  rw [decide_eq_true h8, Bool.true_and]
  refine range_good fun q hq => ?_
  rw [(h q hq).1, Bool.true_and]
  have : ((l.take q).any fun y => (l.getD q default).toList == y.toList) = false := by
    rw [List.any_eq_false]
    intro y hy
    obtain ⟨j, hj, rfl⟩ := List.getElem_of_mem hy
    rw [List.length_take] at hj
    have h1 := (h q hq).2 j (by omega)
    rw [beq_eq_false_iff_ne] at h1
    simp only [List.getElem_take, beq_iff_eq]
    intro e
    apply h1
    rw [e]
    simp [List.getD, show j < l.length by omega]
  rw [this]
  rfl
theorem r25_bad {a b : Bool} {l : List ByteArray} (h : (a && (b && decide (l.length ≤ 8))) = false) : (a && (namesOk l && b)) = false := by
  cases a with
  | false => rfl
  | true =>
    cases b with
    | false => simp
    | true =>
      cases hn : namesOk l with
      | false => rfl
      | true =>
        have := names_len hn
        simp [this] at h
set_option maxRecDepth 100000 in
set_option maxHeartbeats 8000000 in
theorem refRight (w : World) (sA : Option Addr) (sc : Nat) (ss : List Sl) (nA : Option Addr) (nc : Nat) (ns : List Nl) (cur : Nat) (hT : TabR w w.heap.size sA sc ss nA nc ns) (hms : ∀ s ∈ ns, ∀ m ∈ s.p.ms, m.size ≤ 9223372036854775807) :
    Calls Try.prog 78 #[.agg #[.slice sA ss.length sc, .slice nA ns.length nc, .int .u64 (cur : Int)]] w fun e w' => e = .returned (.bool (rightP (ss.map plS) (ns.map plN) cur)) ∧ Below w.heap.size w w' := by
  obtain ⟨R, hR⟩ : ∃ R, R = rightP (ss.map plS) (ns.map plN) cur := ⟨_, rfl⟩
  rw [← hR]
  have HR := hide hR
  have HMS := hide hms
  clear hR hms
  have hcap1 : ss.length ≤ 9223372036854775807 := by have h1 := hT.srow.le; have h2 := hT.srow.cap; unfold maxLen at h2; omega
  have hcap2 : ns.length ≤ 9223372036854775807 := by have h1 := hT.nrow.le; have h2 := hT.nrow.cap; unfold maxLen at h2; omega
  by_cases g : ss.length = 0
  · have HF : Hid (R = false) := hide (by rw [HR.out]; exact right_len (by simp only [List.length_map]; omega))
    have y1 : ((ss.length : Int) == 0) = true := by rw [beq_iff_eq]; omega
    clear g
    go_enter Try.func78, Try.ntmps78
    go_wp2_with fail
    go_ret
    exact ⟨by rw [HF.out]; rfl, (Below.refl _ _).alloc (Nat.le_refl _) _⟩
  have y1 : ((ss.length : Int) == 0) = false := by rw [beq_eq_false_iff_ne]; omega
  have H1 := hide g
  clear g
  by_cases g : 16 < ss.length
  · have HF : Hid (R = false) := hide (by rw [HR.out]; exact right_len (by simp only [List.length_map]; omega))
    have y2 : decide ((16 : Int) < (ss.length : Int)) = true := decide_eq_true (by omega)
    clear g
    go_enter Try.func78, Try.ntmps78
    go_wp2_with fail
    go_ret
    exact ⟨by rw [HF.out]; rfl, (Below.refl _ _).alloc (Nat.le_refl _) _⟩
  have y2 : decide ((16 : Int) < (ss.length : Int)) = false := decide_eq_false (by omega)
  have H2 := hide g
  clear g
  by_cases g : 32 < ns.length
  · have HF : Hid (R = false) := hide (by rw [HR.out]; exact right_len (by simp only [List.length_map]; omega))
    have y3 : decide ((32 : Int) < (ns.length : Int)) = true := decide_eq_true (by omega)
    clear g
    go_enter Try.func78, Try.ntmps78
    go_wp2_with fail
    go_ret
    exact ⟨by rw [HF.out]; rfl, (Below.refl _ _).alloc (Nat.le_refl _) _⟩
  have y3 : decide ((32 : Int) < (ns.length : Int)) = false := decide_eq_false (by omega)
  have H3 := hide g
  clear g
  have HL : Hid (1 ≤ ss.length ∧ ss.length ≤ 16 ∧ ns.length ≤ 32) := hide (by have := H1.out; have := H2.out; have := H3.out; omega)
  clear H1 H2 H3
  go_enter Try.func78, Try.ntmps78
  go_wp2_with fail
  have x1 := boxN_new w #[.slice sA ss.length sc, .slice nA ns.length nc, .int .u64 (cur : Int)] 70
  have hb1 := (Below.refl w.heap.size w).alloc (Nat.le_refl _) (.cells #[.slice sA ss.length sc, .slice nA ns.length nc, .int .u64 (cur : Int)] 70)
  generalize w.alloc (.cells #[.slice sA ss.length sc, .slice nA ns.length nc, .int .u64 (cur : Int)] 70) = w1 at *
  have hT1 := hT.later hb1
  have z11 : w.heap.size < w1.heap.size := x1.z
  generalize hb1e : w.heap.size = b1 at *
  have HB1 := hide hb1e
  clear y1 y2 y3 hb1e
  go_loopw [3] (fun iv wr => ∃ k : Nat, iv = .int .i64 (k : Int) ∧ k ≤ ss.length ∧ Hid (∀ j, j < k → sOk (ss.map plS) j = true) ∧ Below w1.heap.size w1 wr) (fun iv _ => ss.length - (intOf iv).toNat)
  case atStart => exact ⟨0, rfl, Nat.zero_le _, hide (fun j h => by omega), Below.refl _ _⟩
  case round =>
    obtain ⟨k, rfl, hk, hall, hbr⟩ := hrel
    have X := x1.keep hbr x1.z
    have c0 := X.cell 0 _ rfl
    have c1 := X.cell 1 _ rfl
    have hTr := hT1.later hbr
    by_cases hlt : k < ss.length
    · obtain ⟨b, off, rfl, hb, f0, f1⟩ := hTr.srow.sl hlt
      have hrd := hTr.s_at hlt
      have hge := plS_get ss k
      generalize hf : ss.getD k default = f at *
      have HGE := hide hge
      have hlm : k < (ss.map plS).length := by rw [List.length_map]; exact hlt
      have HLM := hide hlm
      have y := boxN_new wr #[.int .u32 (f.id.toNat : Int), .slice f.A f.fs.length f.c] 25
      have hbA := (Below.refl wr.heap.size wr).alloc (Nat.le_refl _) (.cells #[.int .u32 (f.id.toNat : Int), .slice f.A f.fs.length f.c] 25)
      have X5 := X.keep hbA X.z
      have hT5 := hTr.later hbA
      have hrd5 := (hrd.below hbA).more hbA.size
      have hB5 : Below w1.heap.size w1 _ := below_call hbr hbr.size hbA
      have u0 := y.cell 0 _ rfl
      have u1 := y.cell 1 _ rfl
      clear hf hge hlm
      go_wp2_with fail
      generalize wr.alloc (.cells #[.int .u32 (f.id.toNat : Int), .slice f.A f.fs.length f.c] 25) = w5 at *
      generalize wr.heap.size = b5 at *
      refine (refCheck w5 f.id _ f.c f.A f.fs hrd5).mono ?_
      rintro e w6 ⟨rfl, hb6⟩
      have X6 := X5.keep hb6 X5.z
      have Y6 := y.keep hb6 y.z
      have hT6 := hT5.later hb6
      have hrd6 := (hrd5.below hb6).more hb6.size
      have hB6 : Below w1.heap.size w1 w6 := below_call hB5 hB5.size hb6
      clear u0 u1 f0 f1 c0 c1 X X5 y hTr hT5 hrd hrd5 hbr hB5 hbA hb6
      by_cases g : check f.id f.fs = 0
      · rw [show ((check f.id f.fs : Nat) : Int) = 0 by rw [g]; rfl]
        have HCK := hide g
        clear g
        cases k with
        | zero =>
          have HOK := hide (sOk_zero (ss := ss.map plS) (by rw [HGE.out]; exact HCK.out))
          go_wp2_with fail
          go_roundw
          case rel =>
            refine ⟨1, rfl, by omega, hide (fun j hj => ?_), hB6⟩
            obtain rfl : j = 0 := by omega
            exact HOK.out
          case measure => simp [intOf]; omega
        | succ k =>
          obtain ⟨b', off', ee, _, f0, f1⟩ := hT6.srow.sl (i := k) (by omega)
          obtain ⟨rfl, rfl⟩ : b = b' ∧ off = off' := by injection ee with ee; injection ee with e1 e2; exact ⟨e1, e2⟩
          have hrdg := hT6.s_at (i := k) (by omega)
          have hge2 := plS_get ss k
          generalize hg : ss.getD k default = g at *
          have HGE2 := hide hge2
          have hso : sOk (ss.map plS) (k + 1) = (decide (check f.id f.fs = 0) && (decide (g.id.toNat < f.id.toNat) && (decide (g.fs.length ≤ f.fs.length) && fdsEq (f.fs.take g.fs.length) g.fs))) := sOk_eq (s := plS f) (was := plS g) HGE.out (by rw [wasP_succ]; exact hge2)
          have HSO := hide hso
          clear ee hg hge2 hso
          have hkm : k + 1 ≤ 9223372036854775807 := by omega
          have c0 := X6.cell 0 _ rfl
          have c1 := X6.cell 1 _ rfl
          have hbA := (Below.refl w6.heap.size w6).alloc (Nat.le_refl _) (.cells #[.int .u32 (g.id.toNat : Int), .slice g.A g.fs.length g.c] 25)
          have yg := boxN_new w6 #[.int .u32 (g.id.toNat : Int), .slice g.A g.fs.length g.c] 25
          have Y7 := Y6.keep hbA Y6.z
          have hrd7 := (hrd6.below hbA).more hbA.size
          have hrdg7 := (hrdg.below hbA).more hbA.size
          have hB7 : Below w1.heap.size w1 _ := below_call hB6 hB6.size hbA
          have u0 := Y7.cell 0 _ rfl
          have u1 := Y7.cell 1 _ rfl
          have v0 := yg.cell 0 _ rfl
          have v1 := yg.cell 1 _ rfl
          go_upto_region 11 with fail
          generalize w6.alloc (.cells #[.int .u32 (g.id.toNat : Int), .slice g.A g.fs.length g.c] 25) = w7 at *
          generalize w6.heap.size = b7 at *
          by_cases g1 : f.id.toNat ≤ g.id.toNat
          · have HF : Hid (R = false) := hide (by rw [HR.out]; exact right_s HLM.out (by rw [HSO.out, decide_eq_false (show ¬ g.id.toNat < f.id.toNat by omega)]; simp))
            go_wp2_with fail
            go_ret
            exact ⟨by rw [HF.out]; rfl, by rw [HB1.out]; exact hb1.trans (hB7.mono (Nat.le_of_lt z11))⟩
          by_cases g2 : f.fs.length < g.fs.length
          · have HF : Hid (R = false) := hide (by rw [HR.out]; exact right_s HLM.out (by rw [HSO.out, decide_eq_false (show ¬ g.fs.length ≤ f.fs.length by omega)]; simp))
            go_wp2_with fail
            go_ret
            exact ⟨by rw [HF.out]; rfl, by rw [HB1.out]; exact hb1.trans (hB7.mono (Nat.le_of_lt z11))⟩
          have zy := Y7.z
          have zg := yg.z
          have hgc : g.fs.length ≤ 9223372036854775807 := by have h1 := hrdg7.le; have h2 := hrdg7.cap; unfold maxLen at h2; omega
          clear f0 f1 c0 c1 X6 Y6 hT6 hrd6 hrdg hB6 hbA
          go_wp2_with fail
          go_loopw [6] (fun iv wr => ∃ m : Nat, iv = .int .i64 (m : Int) ∧ m ≤ g.fs.length ∧ Hid (∀ j, j < m → fdEq (f.fs.getD j default) (g.fs.getD j default) = true) ∧ Below w7.heap.size w7 wr) (fun iv _ => g.fs.length - (intOf iv).toNat)
          case atStart => exact ⟨0, rfl, Nat.zero_le _, hide (fun j h => by omega), Below.refl _ _⟩
          case round =>
            obtain ⟨m, rfl, hm, hfd, hbq⟩ := hrel
            have q1 := (hbq.cell (p := ⟨b5, 1, none⟩) zy).trans u1
            have q2 := (hbq.cell (p := ⟨b7, 1, none⟩) zg).trans v1
            have hBq : Below w1.heap.size w1 wr := below_call hB7 hB7.size hbq
            by_cases hltm : m < g.fs.length
            · obtain ⟨d1, o1, hA1, _, p0, p1, p2, p3⟩ := (hrd7.below hbq).fd (k := m) (by omega)
              obtain ⟨d2, o2, hA2, _, r0, r1, r2, r3⟩ := (hrdg7.below hbq).fd hltm
              rw [hA1] at q1
              rw [hA2] at q2
              have hlt3 : m < f.fs.length := by omega
              generalize hff : f.fs.getD m default = ff at *
              generalize hgg : g.fs.getD m default = gf at *
              have HFG := hide (And.intro hff hgg)
              clear hff hgg hA1 hA2
              have hne := neq_fd ff gf
              cases hq : fdEq ff gf with
              | true =>
                rw [hq, Bool.not_true] at hne
                have HQ := hide hq
                clear hq
                go_wp2_with fail
                go_quiet (fail)
                go_wp2_with fail
                go_roundw
                case rel =>
                  refine ⟨m + 1, by go_num, hltm, hide (fun j hj => ?_), below_dN hbq _⟩
                  by_cases e : j = m
                  · rw [e, HFG.out.1, HFG.out.2]; exact HQ.out
                  · exact hfd.out j (by omega)
                case measure => simp [intOf]; omega
              | false =>
                rw [hq, Bool.not_false] at hne
                have HF : Hid (R = false) := hide (by rw [HR.out]; exact right_s HLM.out (by rw [HSO.out, fds_bad (by omega) hltm (by rw [HFG.out.1, HFG.out.2]; exact hq)]; simp))
                clear hq
                go_wp2_with fail
                go_quiet (fail)
                go_wp2_with fail
                go_ret
                exact ⟨by rw [HF.out]; rfl, by rw [HB1.out]; exact below_dN (hb1.trans (hBq.mono (Nat.le_of_lt z11))) _⟩
            · have HOK : Hid (sOk (ss.map plS) (k + 1) = true) := hide (by
                rw [HSO.out, decide_eq_true HCK.out, decide_eq_true (show g.id.toNat < f.id.toNat by omega), decide_eq_true (show g.fs.length ≤ f.fs.length by omega), fds_pre (by omega) (fun j hj => hfd.out j (by omega))]
                rfl)
              go_wp2_with fail
              go_roundw
              case rel =>
                refine ⟨k + 2, by go_num, by omega, hide (fun j hj => ?_), hBq⟩
                by_cases e : j = k + 1
                · rw [e]; exact HOK.out
                · exact hall.out j (by omega)
              case measure => simp [intOf]; omega
      · have t1 : ((check f.id f.fs : Int) != 0) = true := by rw [bne_iff_ne]; omega
        have HF : Hid (R = false) := hide (by rw [HR.out]; exact right_s HLM.out (by rw [sOk_eq HGE.out rfl]; show (decide (check f.id f.fs = 0) && _) = false; rw [decide_eq_false g]; rfl))
        clear g
        go_wp2_with fail
        go_ret
        exact ⟨by rw [HF.out]; rfl, by rw [HB1.out]; exact hb1.trans (hB6.mono (Nat.le_of_lt z11))⟩
    · have hallS : Hid (∀ j, j < (ss.map plS).length → sOk (ss.map plS) j = true) := hide (fun j hj => hall.out j (by rw [List.length_map] at hj; omega))
      have hB0 : Below b1 w wr := hb1.trans (hbr.mono (Nat.le_of_lt z11))
      have z1r : b1 < wr.heap.size := Nat.lt_of_lt_of_le z11 hbr.size
      have hb6 := (Below.refl wr.heap.size wr).alloc (Nat.le_refl _) (.cells #[.int .u64 0, .int .u64 0, .int .u64 0, .int .u64 0, .int .u64 0, .int .u32 0, .slice none 0 0] 73)
      have x6 := boxN_new wr #[.int .u64 0, .int .u64 0, .int .u64 0, .int .u64 0, .int .u64 0, .int .u32 0, .slice none 0 0] 73
      have XT6 := X.keep hb6 X.z
      have hT6 := hTr.later hb6
      have hB6 : Below b1 w _ := hB0.trans (hb6.mono (Nat.le_of_lt z1r))
      have d0 := XT6.cell 0 _ rfl
      have d1 := XT6.cell 1 _ rfl
      have d2 := XT6.cell 2 _ rfl
      clear hall hbr hT1 x1
      go_wp2_with fail
      generalize wr.alloc (.cells #[.int .u64 0, .int .u64 0, .int .u64 0, .int .u64 0, .int .u64 0, .int .u32 0, .slice none 0 0] 73) = w6 at *
      generalize wr.heap.size = b6 at *
      have z66 : b6 < w6.heap.size := x6.z
      clear hTr hB0 hb6 hlt hk X d0 d1 d2 c0 c1
      go_loopw [8] (fun iv wr => ∃ (k : Nat) (p : Sn) (A : Option Addr) (c : Nat), iv = .int .i64 (k : Int) ∧ k ≤ ns.length ∧ BoxN wr b6 #[.int .u64 (p.id.toNat : Int), .int .u64 (p.par.toNat : Int), .int .u64 (p.seq.toNat : Int), .int .u64 (p.off.toNat : Int), .int .u64 (p.tim.toNat : Int), .int .u32 (p.sch.toNat : Int), .slice A p.ms.length c].toList ∧ Hid (wasN (ns.map plN) k = p) ∧ Hid (∀ j, j < k → nOk (ss.map plS) (ns.map plN) j = true) ∧ Below b6 w6 wr) (fun iv _ => ns.length - (intOf iv).toNat)
      case atStart => exact ⟨0, default, none, 0, rfl, Nat.zero_le _, x6, hide rfl, hide (fun j h => by omega), Below.refl _ _⟩
      case round =>
        obtain ⟨m, p, pA, pc, rfl, hm, X, hwas, hall, hbr⟩ := hrel
        have XT := XT6.keep hbr z1r
        have e0 := XT.cell 0 _ rfl
        have e1 := XT.cell 1 _ rfl
        have e2 := XT.cell 2 _ rfl
        have hBr : Below b1 w wr := hB6.trans (hbr.mono (Nat.le_of_lt z1r))
        have hTr := (hT.below hBr).more (show b1 ≤ wr.heap.size by have := hbr.size; omega)
        by_cases hlt : m < ns.length
        · obtain ⟨b, off, rfl, hb, f0, f1, f2, f3, f4, f5, f6⟩ := hTr.nrow.nl hlt
          have hrd := hTr.n_at hlt
          have hfm := HMS.out _ (getD_mem hlt)
          have hge := plN_get ns m
          generalize hf : ns.getD m default = f at *
          have hno := nOk_eq (ss := ss.map plS) (s := f.p) (was := p) hge hwas.out
          have HNO := hide hno
          have HGE := hide hge
          have HFM := hide hfm
          have hlm : m < (ns.map plN).length := by rw [List.length_map]; exact hlt
          have HLM := hide hlm
          clear hf hge hno hlm hfm
          have y := boxN_new wr #[.int .u64 (f.p.id.toNat : Int), .int .u64 (f.p.par.toNat : Int), .int .u64 (f.p.seq.toNat : Int), .int .u64 (f.p.off.toNat : Int), .int .u64 (f.p.tim.toNat : Int), .int .u32 (f.p.sch.toNat : Int), .slice f.A f.p.ms.length f.c] 73
          have hbA := (Below.refl wr.heap.size wr).alloc (Nat.le_refl _) (.cells #[.int .u64 (f.p.id.toNat : Int), .int .u64 (f.p.par.toNat : Int), .int .u64 (f.p.seq.toNat : Int), .int .u64 (f.p.off.toNat : Int), .int .u64 (f.p.tim.toNat : Int), .int .u32 (f.p.sch.toNat : Int), .slice f.A f.p.ms.length f.c] 73)
          have X5 := X.keep hbA X.z
          have XT5 := XT.keep hbA XT.z
          have hz6 : b6 < wr.heap.size := X.z
          have hT5 := hTr.later hbA
          have hrd5 := (hrd.below hbA).more hbA.size
          have hB5 : Below b6 w6 _ := below_call hbr (Nat.le_of_lt hz6) hbA
          have hBr5 : Below b1 w _ := below_call hBr (show b1 ≤ wr.heap.size by omega) hbA
          have g0 := y.cell 0 _ rfl
          have v0 := X5.cell 0 _ rfl
          have g1 := y.cell 1 _ rfl
          have v1 := X5.cell 1 _ rfl
          have g2 := y.cell 2 _ rfl
          have v2 := X5.cell 2 _ rfl
          have g3 := y.cell 3 _ rfl
          have v3 := X5.cell 3 _ rfl
          have g4 := y.cell 4 _ rfl
          have v4 := X5.cell 4 _ rfl
          have g5 := y.cell 5 _ rfl
          have v5 := X5.cell 5 _ rfl
          have g6 := y.cell 6 _ rfl
          have v6 := X5.cell 6 _ rfl
          have HX5 := hide X5
          have HY := hide y
          have HXT := hide XT5
          clear y X5 XT5
          go_upto_region 23 with fail
          go_cut [127] from 84 to 197 (fun v wx => v = .bool (!(n15 p f.p)) ∧ wx = wr.alloc (.cells #[.int .u64 (f.p.id.toNat : Int), .int .u64 (f.p.par.toNat : Int), .int .u64 (f.p.seq.toNat : Int), .int .u64 (f.p.off.toNat : Int), .int .u64 (f.p.tim.toNat : Int), .int .u32 (f.p.sch.toNat : Int), .slice f.A f.p.ms.length f.c] 73))
          case first =>
            by_cases h1 : f.p.id.toNat ≤ p.id.toNat
            · have HN : Hid (n15 p f.p = false) := hide (by unfold n15; rw [decide_eq_false (show ¬ p.id.toNat < f.p.id.toNat by omega)]; rfl)
              go_wp2_with fail
              go_meet
              exact ⟨by rw [HN.out]; rfl, rfl⟩
            by_cases h3 : f.p.id.toNat ≤ f.p.par.toNat
            · have HN : Hid (n15 p f.p = false) := hide (by unfold n15; rw [decide_eq_false (show ¬ f.p.par.toNat < f.p.id.toNat by omega)]; simp)
              go_wp2_with fail
              go_meet
              exact ⟨by rw [HN.out]; rfl, rfl⟩
            by_cases h2 : 1073741824 < f.p.id.toNat
            · have t2 : decide ((1073741824 : Int) < (f.p.id.toNat : Int)) = true := decide_eq_true (by omega)
              have HN : Hid (n15 p f.p = false) := hide (by unfold n15; rw [decide_eq_false (show ¬ f.p.id.toNat ≤ 1073741824 by omega)]; simp)
              clear h2
              go_wp2_with fail
              go_meet
              exact ⟨by rw [HN.out]; rfl, rfl⟩
            have t2 : decide ((1073741824 : Int) < (f.p.id.toNat : Int)) = false := decide_eq_false (by omega)
            have HN : Hid (n15 p f.p = decide (f.p.seq.toNat ≤ 1073741824 ∧ f.p.off.toNat ≤ 1073741824 ∧ f.p.tim.toNat ≤ 1073741824)) := hide (by
              unfold n15
              rw [decide_eq_true (show p.id.toNat < f.p.id.toNat by omega), decide_eq_true (show f.p.id.toNat ≤ 1073741824 by omega), decide_eq_true (show f.p.par.toNat < f.p.id.toNat by omega)]
              rfl)
            generalize f.p.seq.toNat = q1 at *
            generalize f.p.off.toNat = q2 at *
            generalize f.p.tim.toNat = q3 at *
            clear h2
            by_cases s1 : 1073741824 < q1
            · have t3 : decide ((1073741824 : Int) < (q1 : Int)) = true := decide_eq_true (by omega)
              have HN2 : Hid (n15 p f.p = false) := hide (by rw [HN.out]; exact decide_eq_false (by omega))
              clear s1
              go_wp2_with fail
              go_meet
              exact ⟨by rw [HN2.out]; rfl, rfl⟩
            have t3 : decide ((1073741824 : Int) < (q1 : Int)) = false := decide_eq_false (by omega)
            by_cases s2 : 1073741824 < q2
            · have t4 : decide ((1073741824 : Int) < (q2 : Int)) = true := decide_eq_true (by omega)
              have HN2 : Hid (n15 p f.p = false) := hide (by rw [HN.out]; exact decide_eq_false (by omega))
              clear s1 s2
              go_wp2_with fail
              go_meet
              exact ⟨by rw [HN2.out]; rfl, rfl⟩
            have t4 : decide ((1073741824 : Int) < (q2 : Int)) = false := decide_eq_false (by omega)
            by_cases s3 : 1073741824 < q3
            · have t5 : decide ((1073741824 : Int) < (q3 : Int)) = true := decide_eq_true (by omega)
              have HN2 : Hid (n15 p f.p = false) := hide (by rw [HN.out]; exact decide_eq_false (by omega))
              clear s1 s2 s3
              go_wp2_with fail
              go_meet
              exact ⟨by rw [HN2.out]; rfl, rfl⟩
            have t5 : decide ((1073741824 : Int) < (q3 : Int)) = false := decide_eq_false (by omega)
            have HN2 : Hid (n15 p f.p = true) := hide (by rw [HN.out]; exact decide_eq_true (by omega))
            clear s1 s2 s3
            go_wp2_with fail
            go_meet
            exact ⟨by rw [HN2.out]; rfl, rfl⟩
          case rest =>
            obtain ⟨rfl, rfl⟩ := hcut
            generalize wr.alloc (.cells #[.int .u64 (f.p.id.toNat : Int), .int .u64 (f.p.par.toNat : Int), .int .u64 (f.p.seq.toNat : Int), .int .u64 (f.p.off.toNat : Int), .int .u64 (f.p.tim.toNat : Int), .int .u32 (f.p.sch.toNat : Int), .slice f.A f.p.ms.length f.c] 73) = w7 at *
            generalize wr.heap.size = b8 at *
            clear f0 f1 f2 f3 f4 f5 f6 e0 e1 e2 hBr hTr hrd X XT hbr hbA
            cases hn15 : n15 p f.p with
            | false =>
              have HF : Hid (R = false) := hide (by rw [HR.out]; exact right_n HLM.out (by rw [HNO.out, nOk_split, hn15]; rfl))
              clear hn15
              go_wp2_with fail
              go_ret
              exact ⟨by rw [HF.out]; rfl, by rw [HB1.out]; exact hBr5⟩
            | true =>
              have HN15 := hide hn15
              clear hn15
              go_upto_region 25 with fail
              go_cut [166] from 84 to 197 (fun v wx => v = .bool (!(n17 p f.p && (hasSch (ss.map plS) f.p.sch && decide (f.p.ms.length ≤ 8)))) ∧ Below w7.heap.size w7 wx)
              case first =>
                by_cases h0 : f.p.seq.toNat < p.seq.toNat
                · have HN : Hid (n17 p f.p = false) := hide (by unfold n17; rw [decide_eq_false (show ¬ p.seq.toNat ≤ f.p.seq.toNat by omega)]; simp)
                  go_wp2_with fail
                  go_meet
                  exact ⟨by rw [HN.out]; rfl, Below.refl _ _⟩
                by_cases h1 : f.p.off.toNat < p.off.toNat
                · have HN : Hid (n17 p f.p = false) := hide (by unfold n17; rw [decide_eq_false (show ¬ p.off.toNat ≤ f.p.off.toNat by omega)]; simp)
                  go_wp2_with fail
                  go_meet
                  exact ⟨by rw [HN.out]; rfl, Below.refl _ _⟩
                by_cases h2 : f.p.tim.toNat < p.tim.toNat
                · have HN : Hid (n17 p f.p = false) := hide (by unfold n17; rw [decide_eq_false (show ¬ p.tim.toNat ≤ f.p.tim.toNat by omega)]; simp)
                  go_wp2_with fail
                  go_meet
                  exact ⟨by rw [HN.out]; rfl, Below.refl _ _⟩
                by_cases h3 : f.p.sch.toNat < p.sch.toNat
                · have HN : Hid (n17 p f.p = false) := hide (by unfold n17; rw [decide_eq_false (show ¬ p.sch.toNat ≤ f.p.sch.toNat by omega)]; simp)
                  go_wp2_with fail
                  go_meet
                  exact ⟨by rw [HN.out]; rfl, Below.refl _ _⟩
                have HN : Hid (n17 p f.p = true) := hide (by unfold n17; rw [decide_eq_true (show p.seq.toNat ≤ f.p.seq.toNat by omega), decide_eq_true (show p.off.toNat ≤ f.p.off.toNat by omega), decide_eq_true (show p.tim.toNat ≤ f.p.tim.toNat by omega), decide_eq_true (show p.sch.toNat ≤ f.p.sch.toNat by omega)]; rfl)
                have HAS := has_any ss f.p.sch
                have HH := hide HAS
                have o0 := HXT.out.cell 0 _ rfl
                have o1 := HXT.out.cell 1 _ rfl
                have o2 := HXT.out.cell 2 _ rfl
                clear HAS
                go_wp2_with fail
                refine (refShape w7 sA sc ss _ nc ns cur hT5 f.p.sch).mono ?_
                rintro e w8 ⟨rfl, hb8⟩
                obtain ⟨i, hi⟩ : ∃ i, i = cIx ss f.p.sch := ⟨_, rfl⟩
                have hi' : ixA (fun f_1 : Sl => (f_1.id.toNat : Int) == (f.p.sch.toNat : Int)) ss = i := hi.symm
                rw [hi']
                rw [← hi] at HH
                have Y8 := HY.out.keep hb8 HY.out.z
                have l6 := Y8.cell 6 _ rfl
                clear hi hi' g0 g1 g2 g3 g4 g5 g6 v0 v1 v2 v3 v4 v5 v6 o0 o1 o2 Y8
                by_cases hneg : i < 0
                · have t6 : decide (i < 0) = true := decide_eq_true hneg
                  have HB : Hid ((n17 p f.p && (hasSch (ss.map plS) f.p.sch && decide (f.p.ms.length ≤ 8))) = false) := hide (by rw [HH.out, decide_eq_false (by omega)]; simp)
                  clear hneg
                  go_wp2_with fail
                  go_meet
                  exact ⟨by rw [HB.out]; rfl, hb8⟩
                have t6 : decide (i < 0) = false := decide_eq_false hneg
                by_cases h8 : 8 < f.p.ms.length
                · have t7 : decide ((8 : Int) < (f.p.ms.length : Int)) = true := decide_eq_true (by omega)
                  have HB : Hid ((n17 p f.p && (hasSch (ss.map plS) f.p.sch && decide (f.p.ms.length ≤ 8))) = false) := hide (by rw [decide_eq_false (show ¬ f.p.ms.length ≤ 8 by omega)]; simp)
                  clear hneg h8
                  go_wp2_with fail
                  go_meet
                  exact ⟨by rw [HB.out]; rfl, hb8⟩
                have t7 : decide ((8 : Int) < (f.p.ms.length : Int)) = false := decide_eq_false (by omega)
                have HB : Hid ((n17 p f.p && (hasSch (ss.map plS) f.p.sch && decide (f.p.ms.length ≤ 8))) = true) := hide (by rw [HN.out, HH.out, decide_eq_true (show (0 : Int) ≤ i by omega), decide_eq_true (show f.p.ms.length ≤ 8 by omega)]; rfl)
                clear hneg h8
                go_wp2_with fail
                go_meet
                exact ⟨by rw [HB.out]; rfl, hb8⟩
              case rest =>
                obtain ⟨rfl, hb8⟩ := hcut
                have X8 := HX5.out.keep hb8 HX5.out.z
                have Y8 := HY.out.keep hb8 HY.out.z
                have z8 : b6 < w7.heap.size := HX5.out.z
                have hrd8 := (hrd5.below hb8).more hb8.size
                have hBr8 : Below b1 w wc := below_call hBr5 (show b1 ≤ w7.heap.size by omega) hb8
                have hB8 : Below b6 w6 wc := below_call hB5 (Nat.le_of_lt z8) hb8
                have zc : b6 < wc.heap.size := Nat.lt_of_lt_of_le z8 hb8.size
                have n86 : b8 ≠ b6 := by omega
                clear g0 v0 g1 v1 g2 v2 g3 v3 g4 v4 g5 v5 g6 v6 hT5 hB5 hBr5 hrd5 hb8
                cases hn17 : n17 p f.p && (hasSch (ss.map plS) f.p.sch && decide (f.p.ms.length ≤ 8)) with
                | false =>
                  have HF : Hid (R = false) := hide (by rw [HR.out]; exact right_n HLM.out (by rw [HNO.out, nOk_split, HN15.out, r25_bad hn17]; rfl))
                  clear hn17
                  go_wp2_with fail
                  go_ret
                  exact ⟨by rw [HF.out]; rfl, by rw [HB1.out]; exact hBr8⟩
                | true =>
                  have hn := hn17
                  simp only [Bool.and_eq_true, decide_eq_true_eq] at hn
                  have h8 : f.p.ms.length ≤ 8 := hn.2.2
                  have HNN := hide (And.intro hn.1 hn.2.1)
                  clear hn17 hn
                  have HXY := hide (And.intro X8 Y8)
                  have l6 := Y8.cell 6 _ rfl
                  clear X8
                  go_wp2_with fail
                  go_loopw [10] (fun iv wr => ∃ q : Nat, iv = .int .i64 (q : Int) ∧ q ≤ f.p.ms.length ∧ Hid (∀ i, i < q → pathOk (f.p.ms.getD i default) = true ∧ ∀ j, j < i → ((f.p.ms.getD j default).toList == (f.p.ms.getD i default).toList) = false) ∧ Below wc.heap.size wc wr) (fun iv _ => f.p.ms.length - (intOf iv).toNat)
                  case atStart => exact ⟨0, rfl, Nat.zero_le _, hide (fun j h => by omega), Below.refl _ _⟩
                  case round =>
                    obtain ⟨q, rfl, hq, hnm, hbq⟩ := hrel
                    have zyc := Y8.z
                    have m6 := (hbq.cell (p := ⟨b8, 6, none⟩) zyc).trans l6
                    have hBq : Below b1 w wr := below_call hBr8 (show b1 ≤ wc.heap.size by omega) hbq
                    clear l6
                    by_cases hltq : q < f.p.ms.length
                    · have hrq := (hrd8.below hbq).more hbq.size
                      obtain ⟨d1, o1, hA1, hd1, p0⟩ := hrq.st hltq
                      have hsz := HFM.out _ (getD_mem hltq)
                      rw [hA1] at m6
                      obtain ⟨x, hx⟩ : ∃ x, x = f.p.ms.getD q default := ⟨_, rfl⟩
                      rw [← hx] at p0 hsz
                      have HX := hide hx
                      clear hx
                      go_wp2_with fail
                      refine (refNamed12 wr x hsz).mono ?_
                      rintro e w9 ⟨rfl, rfl⟩
                      cases hpx : pathOk x with
                      | false =>
                        have HF : Hid (R = false) := hide (by rw [HR.out]; exact right_n HLM.out (by rw [HNO.out, nOk_split, names_bad1 hltq (by rw [← HX.out]; exact hpx)]; simp))
                        clear hpx
                        go_wp2_with fail
                        go_ret
                        exact ⟨by rw [HF.out]; rfl, by rw [HB1.out]; exact hBq⟩
                      | true =>
                        have HPX := hide hpx
                        have HRQ := hide hrq
                        have HA1 := hide hA1
                        clear hpx hrq hA1
                        go_wp2_with fail
                        have zq : b1 ≤ wr.heap.size := by have := hbq.size; omega
                        have zyq : b8 < wr.heap.size := Nat.lt_of_lt_of_le zyc hbq.size
                        have hqc : q ≤ 9223372036854775807 := by omega
                        go_loopw [11] (fun iv wr2 => ∃ j : Nat, iv = .int .i64 (j : Int) ∧ j ≤ q ∧ Hid (∀ i, i < j → ((f.p.ms.getD i default).toList == x.toList) = false) ∧ Below wr.heap.size wr wr2) (fun iv _ => q - (intOf iv).toNat)
                        case atStart => exact ⟨0, rfl, Nat.zero_le _, hide (fun j h => by omega), Below.refl _ _⟩
                        case round =>
                          obtain ⟨j, rfl, hj, hne, hb2⟩ := hrel
                          have m7 := (hb2.cell (p := ⟨b8, 6, none⟩) zyq).trans m6
                          have hB2 : Below b1 w wr := below_call hBq zq hb2
                          clear m6
                          by_cases hltj : j < q
                          · obtain ⟨d2, o2, hA2, _, r0⟩ := (HRQ.out.below hb2).st (k := j) (by omega)
                            obtain ⟨rfl, rfl⟩ : d1 = d2 ∧ o1 = o2 := by rw [HA1.out] at hA2; injection hA2 with ee; injection ee with e1 e2; exact ⟨e1, e2⟩
                            have p7 := (hb2.cell (p := ⟨d1, o1 + q, none⟩) hd1).trans p0
                            obtain ⟨x2, hx2⟩ : ∃ x2, x2 = f.p.ms.getD j default := ⟨_, rfl⟩
                            rw [← hx2] at r0
                            have HX2 := hide hx2
                            clear hx2 hA2 p0
                            cases he : x2.toList == x.toList with
                            | true =>
                              have HF : Hid (R = false) := hide (by rw [HR.out]; exact right_n HLM.out (by rw [HNO.out, nOk_split, names_bad2 hltq hltj (by rw [← HX.out, ← HX2.out]; exact he)]; simp))
                              go_wp2_with fail
                              go_quiet (fail)
                              go_wp2_with fail
                              go_ret
                              exact ⟨by rw [HF.out]; rfl, by rw [HB1.out]; exact below_dN hB2 _⟩
                            | false =>
                              have HE := hide he
                              go_wp2_with fail
                              go_quiet (fail)
                              go_wp2_with fail
                              go_roundw
                              case rel =>
                                refine ⟨j + 1, by go_num, hltj, hide (fun i hi => ?_), below_dN hb2 _⟩
                                by_cases e : i = j
                                · rw [e, ← HX2.out]; exact HE.out
                                · exact hne.out i (by omega)
                              case measure => simp [intOf]; omega
                          · clear p0
                            go_wp2_with fail
                            go_roundw
                            case rel =>
                              refine ⟨q + 1, by go_num, hltq, hide (fun i hi => ?_), below_call hbq hbq.size hb2⟩
                              by_cases e : i = q
                              · rw [e, ← HX.out]; exact ⟨HPX.out, fun i hi => hne.out i (by omega)⟩
                              · exact hnm.out i (by omega)
                            case measure => simp [intOf]; omega
                    · have HOK : Hid (nOk (ss.map plS) (ns.map plN) m = true) := hide (by rw [HNO.out, nOk_split, HN15.out, HNN.out.1, HNN.out.2, names_good h8 (fun i hi => hnm.out i (by omega))]; rfl)
                      have XA := HXY.out.1.keep hbq HXY.out.1.z
                      have YA := HXY.out.2.keep hbq HXY.out.2.z
                      have hBA : Below b6 w6 wr := below_call hB8 (Nat.le_of_lt zc) hbq
                      have g0 := YA.cell 0 _ rfl
                      have v0 := XA.cell 0 _ rfl
                      have k0 := XA.free 0 (by simp)
                      have g1 := YA.cell 1 _ rfl
                      have v1 := XA.cell 1 _ rfl
                      have k1 := XA.free 1 (by simp)
                      have g2 := YA.cell 2 _ rfl
                      have v2 := XA.cell 2 _ rfl
                      have k2 := XA.free 2 (by simp)
                      have g3 := YA.cell 3 _ rfl
                      have v3 := XA.cell 3 _ rfl
                      have k3 := XA.free 3 (by simp)
                      have g4 := YA.cell 4 _ rfl
                      have v4 := XA.cell 4 _ rfl
                      have k4 := XA.free 4 (by simp)
                      have g5 := YA.cell 5 _ rfl
                      have v5 := XA.cell 5 _ rfl
                      have k5 := XA.free 5 (by simp)
                      have g6 := YA.cell 6 _ rfl
                      have v6 := XA.cell 6 _ rfl
                      have k6 := XA.free 6 (by simp)
                      have HXA := hide XA
                      clear m6 XA YA
                      go_wp2_with fail
                      go_roundw
                      case rel =>
                        refine ⟨m + 1, f.p, f.A, f.c, by go_num, by omega, HXA.out.set7, hide (by rw [wasN_succ, HGE.out]; rfl), hide (fun j hj => ?_), below_set7 hBA (Nat.le_refl _)⟩
                        by_cases e : j = m
                        · rw [e]; exact HOK.out
                        · exact hall.out j (by omega)
                      case measure => simp [intOf]; omega
        · have HF : Hid (R = decide (cur = p.id.toNat)) := hide (by
            rw [HR.out, right_all (by simp only [List.length_map]; exact HL.out) hallS.out (fun j hj => hall.out j (by rw [List.length_map] at hj; omega))]
            rw [List.length_map, show ns.length = m by omega, hwas.out])
          have v0 := X.cell 0 _ rfl
          obtain ⟨eqb, heqb⟩ : ∃ eqb, eqb = decide (cur = p.id.toNat) := ⟨_, rfl⟩
          have hq : ((cur : Int) == (p.id.toNat : Int)) = eqb := by rw [heqb, Bool.eq_iff_iff]; simp; omega
          have HE := hide heqb
          clear heqb
          go_wp2_with fail
          go_ret
          exact ⟨by rw [HF.out, ← HE.out]; first | rfl | (rw [hq]; rfl), by rw [HB1.out]; exact hBr⟩
end Go.Proofs.Ytlccpchlclpnaaa
