/- THE WALK of meta's copied. No statement of the seat is proved here; no condition but the table's size. -/
import Derived.Test.YtlccpchlclpnaaaMetaT
namespace Go.Proofs.Ytlccpchlclpnaaa
open Go.RowKit

theorem map_snoc {α β : Type} {f : α → β} {a b : List α} {k : Nat} [Inhabited α] {x : α} (h : a.map f = (b.take k).map f) (hk : k < b.length) (hx : f x = f (b.getD k default)) : (a ++ [x]).map f = (b.take (k + 1)).map f := by
  rw [List.map_append, h, List.take_add_one, List.map_append]
  simp [hk, List.getD] at hx ⊢
  exact hx
set_option maxRecDepth 100000 in
set_option maxHeartbeats 4000000 in
theorem metaCopied (w : World) (sA : Option Addr) (sc : Nat) (ss : List Sl) (nA : Option Addr) (nc : Nat) (ns : List Nl) (cur : Nat) (hT : TabR w w.heap.size sA sc ss nA nc ns) (h1 : ss.length ≤ 1000000) (h2 : ∀ s ∈ ss, s.fs.length ≤ 1000000) (h3 : ns.length ≤ 1000000) (h4 : ∀ s ∈ ns, s.p.ms.length ≤ 1000000) :
    Calls Try.prog 77 #[.agg #[.slice sA ss.length sc, .slice nA ns.length nc, .int .u64 (cur : Int)]] w (CopyEnd w ss ns cur) := by
  go_enter Try.func77, Try.ntmps77
  go_wp2_with fail
  have x1 := boxN_new w #[.slice sA ss.length sc, .slice nA ns.length nc, .int .u64 (cur : Int)] 70
  have hb1 := (Below.refl w.heap.size w).alloc (Nat.le_refl _) (.cells #[.slice sA ss.length sc, .slice nA ns.length nc, .int .u64 (cur : Int)] 70)
  have hz1 : (w.alloc (.cells #[.slice sA ss.length sc, .slice nA ns.length nc, .int .u64 (cur : Int)] 70)).heap.size = w.heap.size + 1 := by simp
  generalize w.alloc (.cells #[.slice sA ss.length sc, .slice nA ns.length nc, .int .u64 (cur : Int)] 70) = w1 at *
  have x2 := boxN_new w1 #[.slice none 0 0, .slice none 0 0, .int .u64 0] 70
  have hb2 := (Below.refl w1.heap.size w1).alloc (Nat.le_refl _) (.cells #[.slice none 0 0, .slice none 0 0, .int .u64 0] 70)
  have hz2 : (w1.alloc (.cells #[.slice none 0 0, .slice none 0 0, .int .u64 0] 70)).heap.size = w1.heap.size + 1 := by simp
  have x1b := x1.keep hb2 x1.z
  have hB2 := below_call hb1 hb1.size hb2
  generalize w1.alloc (.cells #[.slice none 0 0, .slice none 0 0, .int .u64 0] 70) = w2 at *
  have x3 := boxN_new w2 #[.slice none 0 0, .slice none 0 0, .int .u64 (cur : Int)] 70
  have hb3 := (Below.refl w2.heap.size w2).alloc (Nat.le_refl _) (.cells #[.slice none 0 0, .slice none 0 0, .int .u64 (cur : Int)] 70)
  have x1c := x1b.keep hb3 x1b.z
  have x2c := x2.keep hb3 x2.z
  have hB3 := below_call hB2 hB2.size hb3
  generalize w2.alloc (.cells #[.slice none 0 0, .slice none 0 0, .int .u64 (cur : Int)] 70) = w3 at *
  have hT3 := hT.below hB3
  rw [← hz1, ← hz2]
  have z12 : w.heap.size < w1.heap.size := by omega
  have z23 : w1.heap.size < w2.heap.size := by omega
  have z34 : w2.heap.size < w3.heap.size := x3.z
  generalize hb1e : w.heap.size = b1 at *
  generalize w1.heap.size = b2 at *
  generalize w2.heap.size = b3 at *
  have H1 := hide hb1e
  clear hz1 hz2 hb1 hb2 hb3 x1 x1b x2 hB2 hT hb1e
  have C0 : CI w3 b3 cur none 0 [] none 0 [] w3 := ⟨x3, OwnT.nil _ _, Below.refl _ _, z34⟩
  have c0 := x1c.cell 0 _ rfl
  have c1 := x1c.cell 1 _ rfl
  have zb1 : b1 < w3.heap.size := by omega
  clear x3
  go_loopw [14] (fun iv wr => ∃ (k : Nat) (oA : Option Addr) (oc : Nat) (sd : List Sl), iv = .int .i64 (k : Int) ∧ k ≤ ss.length ∧ sd.length = k ∧ Hid (sd.map plS = (ss.take k).map plS) ∧ CI w3 b3 cur oA oc sd none 0 [] wr) (fun iv _ => ss.length - (intOf iv).toNat)
  case atStart => exact ⟨0, none, 0, [], rfl, Nat.zero_le _, rfl, hide rfl, C0⟩
  case round =>
    clear C0
    obtain ⟨k, oA, oc, sd, rfl, hk, hsd, hpl, CC⟩ := hrel
    have HSD := hide hsd
    clear hsd
    by_cases hlt : k < ss.length
    · have hTr := (hT3.below (CC.below.mono (show b1 ≤ b3 by omega))).more (show b1 ≤ wr.heap.size by have := CC.below.size; omega)
      obtain ⟨b, off, rfl, hb, f0, f1⟩ := hTr.srow.sl hlt
      have hrd := hTr.s_at hlt
      have hml := h2 _ (getD_mem hlt)
      generalize hf : ss.getD k default = f at *
      have HF := hide hf
      clear hf hTr
      go_wp2_with fail
      have y := boxN_new wr #[.int .u32 (f.id.toNat : Int), .slice f.A f.fs.length f.c] 25
      have hbA := (Below.refl wr.heap.size wr).alloc (Nat.le_refl _) (.cells #[.int .u32 (f.id.toNat : Int), .slice f.A f.fs.length f.c] 25)
      have hrd5 := (hrd.below hbA).more hbA.size
      have X5 := CC.bx.keep hbA CC.bx.z
      have O5 := CC.own.keep hbA
      have hB5 : Below b3 w3 _ := below_call CC.below (by have := CC.below.size; omega) hbA
      generalize wr.alloc (.cells #[.int .u32 (f.id.toNat : Int), .slice f.A f.fs.length f.c] 25) = w5 at *
      generalize wr.heap.size = b5 at *
      have zy := y.z
      have zo : b3 < w5.heap.size := X5.z
      have u0 := y.cell 0 _ rfl
      have u1 := y.cell 1 _ rfl
      have o0 := X5.cell 0 _ rfl
      have hw5 : w3.heap.size ≤ w5.heap.size := hB5.size
      clear f0 f1 hrd hbA y
      refine wp_region_abs_tail 9 ext_grow (by kernel_rfl) (by kernel_rfl) ?_
      simp only [List.map_cons, List.map_nil, List.take_succ_cons, List.take_zero, List.drop_succ_cons, List.drop_zero]
      refine wpA_value ext_grow ?_ (fun _ _ h => by cases h) rfl rfl ?_ ?_
      rotate_left 1
      · intro w' hw' C hC
        go_simp
        try go_bits
        exact hC
      simp only [putS, List.set_cons_succ, List.set_cons_zero]
      refine wpA_value ext_grow ?_ (fun _ _ h => by cases h) rfl rfl ?_ ?_
      rotate_left 1
      · intro w' hw' C hC
        have q := (hw'.cell (p := ⟨b3, 0, none⟩) zo).trans o0
        go_simp
        try go_bits
        exact hC
      simp only [putS, List.set_cons_succ, List.set_cons_zero]
      refine wpA_value ext_grow ?_ (fun _ _ h => by cases h) rfl rfl ?_ ?_
      rotate_left 1
      · intro w' hw' C hC
        go_simp
        try go_bits
        exact hC
      simp only [putS, List.set_cons_succ, List.set_cons_zero]
      refine wpA_value ext_grow ?_ (fun _ _ h => by cases h) rfl rfl ?_ ?_
      rotate_left 1
      · intro w' hw' C hC
        have q := (hw'.cell (p := ⟨b5, 0, none⟩) zy).trans u0
        go_simp
        try go_bits
        exact hC
      simp only [putS, List.set_cons_succ, List.set_cons_zero]
      refine wpA_value ext_grow ?_ (fun _ _ h => by cases h) rfl rfl ?_ ?_
      rotate_left 1
      · intro w' hw' C hC
        go_simp
        try go_bits
        exact hC
      simp only [putS, List.set_cons_succ, List.set_cons_zero]
      refine wpA_value ext_grow ?_ (fun _ _ h => by cases h) rfl rfl ?_ ?_
      rotate_left 1
      · intro w' hw' C hC
        have q := (hw'.cell (p := ⟨b5, 1, none⟩) zy).trans u1
        go_simp
        try go_bits
        exact hC
      simp only [putS, List.set_cons_succ, List.set_cons_zero]
      refine wpA_known (.has (OwnF w3.heap.size (fdsV f.fs))) (fun _ _ h => by cases h) rfl rfl (mono_ownF _ _) (fun w' hw' => ?_) ?_
      · go_simp
        exact ⟨Below.refl _ _, (cloneF w' w5.heap.size f.fs.length f.c f.A _ (hrd5.keep fun p hp => hw'.cell hp) (fdsV_one _) (by omega) hw'.size).mono fun e w'' h => ownF_ret h (Nat.le_trans hw5 hw'.size)⟩
      simp only [putS, List.set_cons_succ, List.set_cons_zero]
      refine wpA_one 24 _ (.has (SchO w3.heap.size f.id f.fs)) rfl (by simp) (fun _ _ h => by cases h) rfl rfl (fun _ => rfl) (mono_schO _ _ _) (fun u w' hw' hu => ?_) ?_
      · obtain ⟨n, e, ho⟩ := hu
        obtain rfl : n = f.fs.length := by rw [fdsV_length] at e; omega
        obtain ⟨A', c', rfl, _⟩ := Rd.of_own ho
        go_simp
        exact ⟨Below.refl _ _, A', c', rfl, ho⟩
      simp only [putS, List.set_cons_succ, List.set_cons_zero]
      refine wpA_one 25 _ (.has (LitS w3.heap.size f.id f.fs)) rfl (by simp) (fun _ _ h => by cases h) rfl rfl (fun _ => rfl) (mono_litS _ _ _) (fun u w' hw' hu => ?_) ?_
      · obtain ⟨A', c', rfl, ho⟩ := hu
        go_simp
        exact ⟨(Below.refl _ _).alloc (Nat.le_refl _) _, litS_new w' ho⟩
      simp only [putS, List.set_cons_succ, List.set_cons_zero]
      intro wA hwA
      simp only [openS]
      rintro v24 - v25 - v26 ⟨A9, c9, L9, rfl, hlit, hoin⟩
      have hbA : Below w5.heap.size w5 wA := below_of_drew hwA
      have XA := X5.keep hbA X5.z
      have OA := O5.keep hbA
      have hBA : Below b3 w3 wA := below_call hB5 (by omega) hbA
      have hsz : w3.heap.size ≤ wA.heap.size := hBA.size
      have hlen : sd.length ≤ 1000000 := by have := HSD.out; omega
      have HPL := hide (map_snoc (x := (⟨f.id, f.fs, A9, c9⟩ : Sl)) hpl.out hlt (by rw [HF.out]; rfl))
      clear hpl hwA hbA hB5 u0 u1 o0 X5 O5 zy zo hrd5
      go_wp2_with (at_builtin; refine wpList_app _ tySchs rfl (.tmp 19) (.tmp 26) rfl w3.heap.size _ _ _ rfl OA.sown wA.heap.size L9 1 1 _ rfl hlit (slV_one _) (by omega) hsz ?_; intro v3 w8 hown8 hg8 _; obtain ⟨g, cap, rfl, O8⟩ := OA.snocS (s := ⟨f.id, f.fs, A9, c9⟩) hoin hown8 hg8; have hb8 : Below w3.heap.size wA w8 := below_app (Below.refl _ _) (Nat.le_refl _) OA.sown hg8 hsz; have X8 := XA.keep hb8 z34; have s8 := X8.cell 0 _ rfl; have f8 := X8.free 0 (by simp); have hB8 : Below b3 w3 w8 := hBA.trans (hb8.mono (Nat.le_of_lt z34)); have HO := hide (And.intro O8 X8); clear hown8 hg8 hb8 O8 X8)
      go_roundw
      case rel =>
        refine ⟨k + 1, some ⟨g, 0, none⟩, cap, sd ++ [⟨f.id, f.fs, A9, c9⟩], by go_num, by omega, by rw [List.length_append, HSD.out]; rfl, HPL, ?_, HO.out.1.set z34 _, hB8.setCell (p := ⟨b3, 0, none⟩) (Nat.le_refl _) _, z34⟩
        rw [List.length_append]
        exact HO.out.2.set (j := 0) _ rfl
      case measure => simp [intOf]; omega
    · have HPS : Hid (sd.map plS = ss.map plS) := hide (by have := hpl.out; rw [show k = ss.length by omega, List.take_length] at this; exact this)
      have C1 := CC
      have c1r := (CC.below.cell (p := ⟨b1, 1, none⟩) (show b1 < b3 by omega)).trans c1
      clear hpl CC c0 c1
      go_wp2_with fail
      go_loopw [33] (fun iv wr => ∃ (m : Nat) (pA : Option Addr) (pc : Nat) (nd : List Nl), iv = .int .i64 (m : Int) ∧ m ≤ ns.length ∧ nd.length = m ∧ Hid (nd.map plN = (ns.take m).map plN) ∧ CI w3 b3 cur oA oc sd pA pc nd wr) (fun iv _ => ns.length - (intOf iv).toNat)
      case atStart => exact ⟨0, none, 0, [], rfl, Nat.zero_le _, rfl, hide rfl, C1⟩
      case round =>
        clear C1 c1r
        obtain ⟨m, pA, pc, nd, rfl, hm, hnd, hpn, CC⟩ := hrel
        have HND := hide hnd
        clear hnd
        by_cases hlm : m < ns.length
        · have hTr := (hT3.below (CC.below.mono (show b1 ≤ b3 by omega))).more (show b1 ≤ wr.heap.size by have := CC.below.size; omega)
          obtain ⟨b, off, rfl, hb, f0, f1, f2, f3, f4, f5, f6⟩ := hTr.nrow.nl hlm
          have hrd := hTr.n_at hlm
          have hml := h4 _ (getD_mem hlm)
          generalize hf : ns.getD m default = f at *
          have HF := hide hf
          clear hf hTr
          go_wp2_with fail
          have y := boxN_new wr #[.int .u64 (f.p.id.toNat : Int), .int .u64 (f.p.par.toNat : Int), .int .u64 (f.p.seq.toNat : Int), .int .u64 (f.p.off.toNat : Int), .int .u64 (f.p.tim.toNat : Int), .int .u32 (f.p.sch.toNat : Int), .slice f.A f.p.ms.length f.c] 73
          have hbA := (Below.refl wr.heap.size wr).alloc (Nat.le_refl _) (.cells #[.int .u64 (f.p.id.toNat : Int), .int .u64 (f.p.par.toNat : Int), .int .u64 (f.p.seq.toNat : Int), .int .u64 (f.p.off.toNat : Int), .int .u64 (f.p.tim.toNat : Int), .int .u32 (f.p.sch.toNat : Int), .slice f.A f.p.ms.length f.c] 73)
          have hrd5 := (hrd.below hbA).more hbA.size
          have X5 := CC.bx.keep hbA CC.bx.z
          have O5 := CC.own.keep hbA
          have hB5 : Below b3 w3 _ := below_call CC.below (by have := CC.below.size; omega) hbA
          generalize wr.alloc (.cells #[.int .u64 (f.p.id.toNat : Int), .int .u64 (f.p.par.toNat : Int), .int .u64 (f.p.seq.toNat : Int), .int .u64 (f.p.off.toNat : Int), .int .u64 (f.p.tim.toNat : Int), .int .u32 (f.p.sch.toNat : Int), .slice f.A f.p.ms.length f.c] 73) = w5 at *
          generalize wr.heap.size = b5 at *
          have zy := y.z
          have zo : b3 < w5.heap.size := X5.z
          have u0 := y.cell 0 _ rfl
          have u1 := y.cell 1 _ rfl
          have u2 := y.cell 2 _ rfl
          have u3' := y.cell 3 _ rfl
          have u4' := y.cell 4 _ rfl
          have u5' := y.cell 5 _ rfl
          have u6' := y.cell 6 _ rfl
          have o1 := X5.cell 1 _ rfl
          have hw5 : w3.heap.size ≤ w5.heap.size := hB5.size
          clear f0 f1 f2 f3 f4 f5 f6 hrd hbA y
          refine wp_region_abs_tail 5 ext_grow (by kernel_rfl) (by kernel_rfl) ?_
          simp only [List.map_cons, List.map_nil, List.take_succ_cons, List.take_zero, List.drop_succ_cons, List.drop_zero]
          refine wpA_value ext_grow ?_ (fun _ _ h => by cases h) rfl rfl ?_ ?_
          rotate_left 1
          · intro w' hw' C hC
            go_simp
            try go_bits
            exact hC
          simp only [putS, List.set_cons_succ, List.set_cons_zero]
          refine wpA_value ext_grow ?_ (fun _ _ h => by cases h) rfl rfl ?_ ?_
          rotate_left 1
          · intro w' hw' C hC
            have q := (hw'.cell (p := ⟨b3, 1, none⟩) zo).trans o1
            go_simp
            try go_bits
            exact hC
          simp only [putS, List.set_cons_succ, List.set_cons_zero]
          refine wpA_value ext_grow ?_ (fun _ _ h => by cases h) rfl rfl ?_ ?_
          rotate_left 1
          · intro w' hw' C hC
            have q0 := (hw'.cell (p := ⟨b5, 0, none⟩) zy).trans u0
            have q1 := (hw'.cell (p := ⟨b5, 1, none⟩) zy).trans u1
            have q2 := (hw'.cell (p := ⟨b5, 2, none⟩) zy).trans u2
            have q3 := (hw'.cell (p := ⟨b5, 3, none⟩) zy).trans u3'
            have q4 := (hw'.cell (p := ⟨b5, 4, none⟩) zy).trans u4'
            have q5 := (hw'.cell (p := ⟨b5, 5, none⟩) zy).trans u5'
            have q6 := (hw'.cell (p := ⟨b5, 6, none⟩) zy).trans u6'
            go_simp
            try go_bits
            exact hC
          simp only [putS, List.set_cons_succ, List.set_cons_zero]
          refine wpA_known (.has (SnO w3.heap.size f.p)) (fun _ _ h => by cases h) rfl rfl (mono_snO _ _) (fun w' hw' => ?_) ?_
          · go_simp
            exact ⟨Below.refl _ _, (metaOwn w' f.p f.A f.c ((hrd5.keep fun p hp => hw'.cell hp).more hw'.size) hml).mono fun e w'' h => snO_ret h (Nat.le_trans hw5 hw'.size)⟩
          simp only [putS, List.set_cons_succ, List.set_cons_zero]
          refine wpA_one 40 _ (.has (LitN w3.heap.size f.p)) rfl (by simp) (fun _ _ h => by cases h) rfl rfl (fun _ => rfl) (mono_litN _ _) (fun u w' hw' hu => ?_) ?_
          · obtain ⟨A', c', rfl, ho⟩ := hu
            go_simp
            exact ⟨(Below.refl _ _).alloc (Nat.le_refl _) _, litN_new w' ho⟩
          simp only [putS, List.set_cons_succ, List.set_cons_zero]
          intro wA hwA
          simp only [openS]
          rintro v24 - v26 ⟨A9, c9, L9, rfl, hlit, hoin⟩
          have hbA : Below w5.heap.size w5 wA := below_of_drew hwA
          have XA := X5.keep hbA X5.z
          have OA := O5.keep hbA
          have hBA : Below b3 w3 wA := below_call hB5 (by omega) hbA
          have hsz : w3.heap.size ≤ wA.heap.size := hBA.size
          have hlen : nd.length ≤ 1000000 := by have := HND.out; omega
          have HPL := hide (map_snoc (x := (⟨f.p, A9, c9⟩ : Nl)) hpn.out hlm (by rw [HF.out]; rfl))
          clear hpn hwA hbA hB5 u0 u1 u2 u3' u4' u5' u6' o1 X5 O5 zy zo hrd5
          go_wp2_with (at_builtin; refine wpList_app _ tySnaps rfl (.tmp 38) (.tmp 41) rfl w3.heap.size _ _ _ rfl OA.nown wA.heap.size L9 1 1 _ rfl hlit (nlV_one _) (by omega) hsz ?_; intro v3 w8 hown8 hg8 _; obtain ⟨g, cap, rfl, O8⟩ := OA.snocN (s := ⟨f.p, A9, c9⟩) hoin hown8 hg8; have hb8 : Below w3.heap.size wA w8 := below_app (Below.refl _ _) (Nat.le_refl _) OA.nown hg8 hsz; have X8 := XA.keep hb8 z34; have s8 := X8.cell 1 _ rfl; have f8 := X8.free 1 (by simp); have hB8 : Below b3 w3 w8 := hBA.trans (hb8.mono (Nat.le_of_lt z34)); have HO := hide (And.intro O8 X8); clear hown8 hg8 hb8 O8 X8)
          go_roundw
          case rel =>
            refine ⟨m + 1, some ⟨g, 0, none⟩, cap, nd ++ [⟨f.p, A9, c9⟩], by go_num, by omega, by rw [List.length_append, HND.out]; rfl, HPL, ?_, HO.out.1.set z34 _, hB8.setCell (p := ⟨b3, 1, none⟩) (Nat.le_refl _) _, z34⟩
            rw [List.length_append]
            exact HO.out.2.set (j := 1) _ rfl
          case measure => simp [intOf]; omega
        · have HPN : Hid (nd.map plN = ns.map plN) := hide (by have := hpn.out; rw [show m = ns.length by omega, List.take_length] at this; exact this)
          have g0 := CC.bx.cell 0 _ rfl
          have g1 := CC.bx.cell 1 _ rfl
          have g2 := CC.bx.cell 2 _ rfl
          have Y2 := x2c.keep CC.below (show b2 < b3 by omega)
          have k0 := Y2.cell 0 _ rfl
          have k1 := Y2.cell 1 _ rfl
          have k2 := Y2.cell 2 _ rfl
          have e0 := Y2.free 0 (by simp)
          have e1 := Y2.free 1 (by simp)
          have e2 := Y2.free 2 (by simp)
          have n32 : b3 ≠ b2 := by omega
          have n23 : b2 ≠ b3 := by omega
          have HC := hide (And.intro CC Y2)
          clear hpn CC Y2
          go_wp2_with fail
          (try simp only [Exit.inBlock, Exit.then])
          refine bodyPost_ret (ret_tb1 (b := b2) rfl _ _ rfl HC.out.2.set3b) rfl ?_
          refine ⟨oA, oc, sd, pA, pc, nd, rfl, ?_, HPS.out, HPN.out, ?_⟩
          · exact (HC.out.1.own.set3b (by omega)).base (by rw [H1.out]; omega)
          · rw [H1.out]
            exact below_set3b (hB3.trans (HC.out.1.below.mono (by omega))) (by omega)
end Go.Proofs.Ytlccpchlclpnaaa
