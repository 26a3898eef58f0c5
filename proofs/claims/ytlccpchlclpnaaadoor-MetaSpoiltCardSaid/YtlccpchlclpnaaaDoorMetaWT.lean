/- THE WALKS of meta's text and Write. No statement of the seat is proved here; no condition but the table of sums. -/
import Derived.Test.YtlccpchlclpnaaaDoorMetaWP
namespace Go.Proofs.YtlccpchlclpnaaaDoor
open Go.RowKit

set_option maxRecDepth 100000 in
set_option maxHeartbeats 1000000 in
theorem metaText (w : World) (B : Nat) (l : List UInt8) (v : Value) (s : ByteArray) (hb : Buf B l v w) (hB : B ≤ w.heap.size) (hl : l.length + s.size ≤ 900000) :
    Calls Tryd.prog 28 #[v, .string s] w fun e w' => ∃ v', e = .returned v' ∧ Buf B (l ++ tx s) v' w' ∧ Bz B w w' := by
  have e33 : IntKind.u64.wrap (s.size : Int) = (s.size : Int) := by rw [IntKind.wrap_u64]; omega
  have e34 : (s.size : Int) % 18446744073709551616 = (s.size : Int) := by omega
  have hp := put_le10' s.size (by omega)
  go_enter Tryd.func28, Tryd.ntmps28
  go_wp2_with fail
  refine (varPut (s.size : Int) w (by omega) (by omega)).mono ?_
  rintro e w1 ⟨v1, rfl, hown1, hb1⟩
  rw [Int.toNat_natCast] at hown1
  obtain ⟨A1, c1, rfl⟩ := own_slice hown1
  have hbuf1 : Buf B l v w1 := own_below hb hb1
  have hr1 := rd_own hown1
  have hB1 : B ≤ w1.heap.size := Nat.le_trans hB hb1.size
  clear e33 e34
  go_wp2_with (first
    | (at_builtin; refine wpList_buf rfl (.tmp 5) (.tmp 9) rfl rfl hbuf1 A1 _ c1 _ rfl hr1 (by omega) hB1 ?_; intro v2 w2 hbuf2 hz2; have hB2 := Nat.le_trans hB1 hz2.size; have hl2 : (l ++ Var.put s.size).length = l.length + (Var.put s.size).length := List.length_append)
    | (at_builtin; refine wpList_bufS rfl (.tmp 10) (.tmp 11) rfl rfl hbuf2 s rfl (by omega) hB2 ?_; intro v3 w3 hbuf3 hz3))
  go_ret
  refine ⟨v3, rfl, ?_, (Bz.of hb1).trans (hz2.trans hz3)⟩
  unfold tx
  rw [← List.append_assoc]
  exact hbuf3
set_option maxRecDepth 100000 in
set_option maxHeartbeats 4000000 in
theorem metaWrite (w : World) (sA : Option Addr) (sc : Nat) (ss : List Sl) (nA : Option Addr) (nc : Nat) (ns : List Nl) (cur : Nat) (hT : TabR w w.heap.size sA sc ss nA nc ns) (ht : Table w) :
    Calls Tryd.prog 11 #[.agg #[.slice sA ss.length sc, .slice nA ns.length nc, .int .u64 (cur : Int)]] w (WrEnd w (ss.map plS) (ns.map plN) cur) := by
  have HT := hide ht
  have hpos := ht.pos
  clear ht
  go_enter Tryd.func11, Tryd.ntmps11
  go_wp2_with fail
  have x1 := boxT_new w #[.slice sA ss.length sc, .slice nA ns.length nc, .int .u64 (cur : Int)] 26
  have hb1 := (Below.refl w.heap.size w).alloc (Nat.le_refl _) (.cells #[.slice sA ss.length sc, .slice nA ns.length nc, .int .u64 (cur : Int)] 26)
  generalize w.alloc (.cells #[.slice sA ss.length sc, .slice nA ns.length nc, .int .u64 (cur : Int)] 26) = w1 at *
  have hT1 := hT.later hb1
  obtain ⟨bx, hbx⟩ : ∃ b, b = w.heap.size := ⟨_, rfl⟩
  rw [← hbx] at x1 ⊢
  have HBX := hide hbx
  clear hbx hT
  refine (metaRight w1 sA sc ss nA nc ns cur hT1).mono ?_
  rintro e w2 ⟨rfl, hb2⟩
  have hB2 := below_call hb1 hb1.size hb2
  have X2 := x1.keep hb2
  have hT2 := hT1.later hb2
  clear x1 hT1 hb1 hb2
  cases hr : rightP (ss.map plS) (ns.map plN) cur with
  | false =>
    have HR := hide hr
    clear hr
    go_wp2_with fail
    go_ret2
    exact .inr ⟨HR.out, rfl, hB2⟩
  | true =>
    have HR := hide hr
    have HH := hide (right_has hr)
    have hls : ss.length ≤ 16 := by have := HH.out.1.2.1; simpa using this
    have hln : ns.length ≤ 32 := by have := HH.out.1.2.2; simpa using this
    clear hr
    have kc := Lib.run_convert_bytes_const (P := Tryd.prog) w2 34 5 #[.int .u8 84, .int .u8 70, .int .u8 49] 3 3 Tryd.underlying34 Tryd.underlying5
    have hb3 := (Below.refl w2.heap.size w2).alloc (Nat.le_refl _) (.cells #[.int .u8 84, .int .u8 70, .int .u8 49] 5 (3, 4))
    have hl3 : ∀ j u, (bytesV tf1)[j]? = some u → (w2.alloc (.cells #[.int .u8 84, .int .u8 70, .int .u8 49] 5 (3, 4))).cell? ⟨w2.heap.size, j, none⟩ = some u := fun j u hj => by
      have e : (#[Value.int .u8 84, .int .u8 70, .int .u8 49] : Array Value).toList = bytesV tf1 := rfl
      rw [World.cell?_alloc_mark, ← Array.getElem?_toList, e]
      exact hj
    have X3 := X2.keep hb3
    have zz3 : w2.heap.size < (w2.alloc (.cells #[.int .u8 84, .int .u8 70, .int .u8 49] 5 (3, 4))).heap.size := by simp
    have c0 := X3.bx.cell 0 _ rfl
    have e33 : IntKind.u64.wrap (ss.length : Int) = (ss.length : Int) := by rw [IntKind.wrap_u64]; omega
    have e34 : (ss.length : Int) % 18446744073709551616 = (ss.length : Int) := by omega
    have hp := put_le10' ss.length (by omega)
    have hp1 := put_pos ss.length
    go_wp2_with fail
    generalize w2.alloc (.cells #[.int .u8 84, .int .u8 70, .int .u8 49] 5 (3, 4)) = w3 at *
    have hB3 : w2.heap.size ≤ w3.heap.size := hb3.size
    refine (varPut (ss.length : Int) w3 (by omega) (by omega)).mono ?_
    rintro e w4 ⟨v4, rfl, hown4, hb4⟩
    rw [Int.toNat_natCast] at hown4
    have hl4 : ∀ j u, (bytesV tf1)[j]? = some u → w4.cell? ⟨w2.heap.size, j, none⟩ = some u := fun j u hj => (hb4.cell (p := ⟨w2.heap.size, j, none⟩) zz3).trans (hl3 j u hj)
    have X4 := X3.keep hb4
    have hB4 : w2.heap.size ≤ w4.heap.size := Nat.le_trans hB3 hb4.size
    have htf : tf1.length = 3 := rfl
    have X3b := hide X3
    clear kc e33 e34 c0 X2 X3 hl3
    go_wp2_with (at_builtin; refine wpList_bufNew (l := tf1) rfl (.tmp 17) (.tmp 22) rfl rfl hl4 rfl hown4 hp1 (by omega) ?_; intro v5 w5 o5' hb5; have o5 : Buf w2.heap.size (tf1 ++ Var.put ss.length) v5 w5 := (own_base o5' hB4); have X5 := X4.keep hb5; have c0 := X5.bx.cell 0 _ rfl; have Z5 := (Bz.of (B := w2.heap.size) hb4).trans (Bz.of hb5); clear o5' hown4 X4 hb4 hb5 hl4)
    go_loopw [4, 27] (fun bv0 iv wr => ∃ (bv : Value) (k : Nat) (q : List UInt8), bv0 = bv ∧ iv = .int .i64 (k : Int) ∧ k ≤ ss.length ∧ Buf w2.heap.size q bv wr ∧ Hid (q = wr0 (ss.map plS) ++ packs ((ss.map plS).take k)) ∧ Bz w2.heap.size w3 wr) (fun _ iv _ => ss.length - (intOf iv).toNat)
    case atStart => exact ⟨_, 0, tf1 ++ Var.put ss.length, rfl, rfl, Nat.zero_le _, o5, hide (by unfold wr0 packs; rw [List.length_map]; simp), Z5⟩
    case round =>
      clear o5 Z5 c0 X5
      obtain ⟨bv, k, q, rfl, rfl, hk, ob, hq, hz⟩ := hrel
      have XR := X3b.out.bz hz (by decide)
      have hBr : w2.heap.size ≤ wr.heap.size := Nat.le_trans hB3 hz.size
      have hTr := (hT2.below (hb3.trans (hz.below hB3))).more hBr
      have hlq : q.length ≤ 7000 := by
        have e : (packs ((ss.map plS).take k)).length ≤ ((ss.map plS).take k).length * 400 := packs_le fun s hs => HH.out.2.1 s (List.mem_of_mem_take hs)
        have e2 : ((ss.map plS).take k).length ≤ 16 := by rw [List.length_take, List.length_map]; omega
        have e3 : (wr0 (ss.map plS)).length ≤ 13 := by unfold wr0; rw [List.length_append, List.length_map]; omega
        have e4 : ((ss.map plS).take k).length * 400 ≤ 16 * 400 := Nat.mul_le_mul_right _ e2
        rw [hq.out, List.length_append]
        omega
      by_cases hlt : k < ss.length
      · obtain ⟨b, off, rfl, hb, f0, f1⟩ := hTr.srow.sl hlt
        have hrd := hTr.s_at hlt
        have hck := HH.out.2.1 _ (getD_mem (l := ss.map plS) (i := k) (by rw [List.length_map]; exact hlt))
        have hnx := flat_next (f := fun s : Ps => pack s.1 s.2) (l := ss.map plS) (k := k) (by rw [List.length_map]; exact hlt)
        have hge : (ss.map plS).getD k default = plS (ss.getD k default) := plS_get ss k
        rw [hge] at hck hnx
        generalize hf : ss.getD k default = f at *
        have HNX := hide hnx
        have HCK := hide hck
        have hpl : (pack f.id f.fs).length ≤ 400 := pack_le hck
        clear hf hge hck hnx hTr
        have hbA := (Below.refl wr.heap.size wr).alloc (Nat.le_refl _) (.cells #[.int .u32 (f.id.toNat : Int), .slice f.A f.fs.length f.c] 47)
        have y := boxN_new wr #[.int .u32 (f.id.toNat : Int), .slice f.A f.fs.length f.c] 47
        have oA := ob.keep hbA
        have hrdA := (hrd.below hbA).more hbA.size
        have u0 := y.cell 0 _ rfl
        have u1 := y.cell 1 _ rfl
        have zA : Bz w2.heap.size w3 _ := hz.trans (Bz.of hbA)
        have hBA : w2.heap.size ≤ (wr.alloc (.cells #[.int .u32 (f.id.toNat : Int), .slice f.A f.fs.length f.c] 47)).heap.size := Nat.le_trans hBr hbA.size
        go_wp2_with fail
        generalize wr.alloc (.cells #[.int .u32 (f.id.toNat : Int), .slice f.A f.fs.length f.c] 47) = wA at *
        refine (schPack wA f.id _ f.c f.A f.fs hrdA (sized_of HCK.out)).mono ?_
        rintro e w6 ⟨v6, rfl, hown6, hb6⟩
        obtain ⟨A6, c6, rfl⟩ := own_slice hown6
        have o6 := oA.keep hb6
        have hr6 := rd_own hown6
        have hB6 : w2.heap.size ≤ w6.heap.size := Nat.le_trans hBA hb6.size
        clear u0 u1 f0 f1 hrd hrdA ob oA hown6 hbA y hz
        go_wp2_with (at_builtin; refine wpList_buf rfl (.tmp 31) (.tmp 33) rfl rfl o6 A6 _ c6 _ rfl hr6 (by omega) hB6 ?_; intro v7 w7 o7 hz7; have Z7 := zA.trans ((Bz.of hb6).trans hz7); clear o6 hr6 hb6 zA hz7)
        go_roundw
        case rel => exact ⟨_, k + 1, q ++ pack f.id f.fs, rfl, by go_num, hlt, o7, hide (by rw [hq.out]; unfold packs; rw [HNX.out, List.append_assoc]; rfl), Z7⟩
        case measure => simp [intOf]; omega
      · have HQ : Hid (q = wr0 (ss.map plS) ++ packs (ss.map plS)) := hide (by rw [hq.out, List.take_of_length_le (by rw [List.length_map]; omega)])
        have c0 := XR.bx.cell 0 _ rfl
        have c1 := XR.bx.cell 1 _ rfl
        have e33 : IntKind.u64.wrap (ns.length : Int) = (ns.length : Int) := by rw [IntKind.wrap_u64]; omega
        have e34 : (ns.length : Int) % 18446744073709551616 = (ns.length : Int) := by omega
        have hpn := put_le10' ns.length (by omega)
        clear hq hTr hk
        go_wp2_with fail
        refine (varPut (ns.length : Int) wr (by omega) (by omega)).mono ?_
        rintro e w6 ⟨v6, rfl, hown6, hb6⟩
        rw [Int.toNat_natCast] at hown6
        obtain ⟨A6, c6, rfl⟩ := own_slice hown6
        have o6 := ob.keep hb6
        have hr6 := rd_own hown6
        have hB6 : w2.heap.size ≤ w6.heap.size := Nat.le_trans hBr hb6.size
        have X6 := XR.keep hb6
        have z6 := hz.trans (Bz.of hb6)
        clear e33 e34 c0 c1 ob hown6 hb6 XR hz hlt
        go_wp2_with (at_builtin; refine wpList_buf rfl (.tmp 36) (.tmp 41) rfl rfl o6 A6 _ c6 _ rfl hr6 (by omega) hB6 ?_; intro v7 w7 o7 hz7; have X7 := X6.bz hz7 (by decide); have c1 := X7.bx.cell 1 _ rfl; have Z7 := z6.trans hz7; clear o6 hr6 z6 hz7 X6)
        have hl7 : (q ++ Var.put ns.length).length ≤ 7010 := by rw [List.length_append]; omega
        go_loopw [4, 46] (fun bv0 iv wr => ∃ (bv : Value) (k : Nat) (q : List UInt8), bv0 = bv ∧ iv = .int .i64 (k : Int) ∧ k ≤ ns.length ∧ Buf w2.heap.size q bv wr ∧ Hid (q = wr1 (ss.map plS) (ns.map plN) ++ snBs ((ns.map plN).take k)) ∧ Bz w2.heap.size w3 wr) (fun _ iv _ => ns.length - (intOf iv).toNat)
        case atStart => exact ⟨_, 0, _, rfl, rfl, Nat.zero_le _, o7, hide (by unfold wr1 snBs; rw [HQ.out, List.length_map]; simp), Z7⟩
        case round =>
          clear o7 Z7 c1 X7 hl7 hlq hBr HQ
          obtain ⟨bv, m, p, rfl, rfl, hm, ob, hqm, hz⟩ := hrel
          have XR := X3b.out.bz hz (by decide)
          have hBr : w2.heap.size ≤ wr.heap.size := Nat.le_trans hB3 hz.size
          have hTr := (hT2.below (hb3.trans (hz.below hB3))).more hBr
          have hlp : p.length ≤ 20000 := by
            have e : (snBs ((ns.map plN).take m)).length ≤ ((ns.map plN).take m).length * 342 := snBs_le fun s hs => HH.out.2.2 s (List.mem_of_mem_take hs)
            have e2 : ((ns.map plN).take m).length ≤ 32 := by rw [List.length_take, List.length_map]; omega
            have e4 : ((ns.map plN).take m).length * 342 ≤ 32 * 342 := Nat.mul_le_mul_right _ e2
            have e5 : (packs (ss.map plS)).length ≤ (ss.map plS).length * 400 := packs_le HH.out.2.1
            have e6 : (ss.map plS).length * 400 ≤ 16 * 400 := Nat.mul_le_mul_right _ (by rw [List.length_map]; exact hls)
            have e3 : (wr1 (ss.map plS) (ns.map plN)).length ≤ 6423 := by unfold wr1 wr0; simp only [List.length_append]; rw [List.length_map, List.length_map]; omega
            rw [hqm.out, List.length_append]
            omega
          by_cases hltm : m < ns.length
          · obtain ⟨b, off, rfl, hb, f0, f1, f2, f3, f4, f5, f6⟩ := hTr.nrow.nl hltm
            have hin := hT2.n_at hltm
            have hnm := HH.out.2.2 _ (getD_mem (l := ns.map plN) (i := m) (by rw [List.length_map]; exact hltm))
            have hnx := flat_next (f := snB) (l := ns.map plN) (k := m) (by rw [List.length_map]; exact hltm)
            have hge : (ns.map plN).getD m default = plN (ns.getD m default) := plN_get ns m
            rw [hge] at hnm hnx
            generalize hf : ns.getD m default = f at *
            have HNX := hide hnx
            have HNM := hide (names_at hnm)
            have h8 : f.p.ms.length ≤ 8 := HNM.out.1
            clear hf hge hnm hnx hTr
            have hbA := (Below.refl wr.heap.size wr).alloc (Nat.le_refl _) (.cells #[.int .u64 (f.p.id.toNat : Int), .int .u64 (f.p.par.toNat : Int), .int .u64 (f.p.seq.toNat : Int), .int .u64 (f.p.off.toNat : Int), .int .u64 (f.p.tim.toNat : Int), .int .u32 (f.p.sch.toNat : Int), .slice f.A f.p.ms.length f.c] 30)
            have y := boxT_new wr #[.int .u64 (f.p.id.toNat : Int), .int .u64 (f.p.par.toNat : Int), .int .u64 (f.p.seq.toNat : Int), .int .u64 (f.p.off.toNat : Int), .int .u64 (f.p.tim.toNat : Int), .int .u32 (f.p.sch.toNat : Int), .slice f.A f.p.ms.length f.c] 30
            have oA := ob.keep hbA
            have zA : Bz w2.heap.size w3 _ := hz.trans (Bz.of hbA)
            have hBA : w2.heap.size ≤ (wr.alloc (.cells #[.int .u64 (f.p.id.toNat : Int), .int .u64 (f.p.par.toNat : Int), .int .u64 (f.p.seq.toNat : Int), .int .u64 (f.p.off.toNat : Int), .int .u64 (f.p.tim.toNat : Int), .int .u32 (f.p.sch.toNat : Int), .slice f.A f.p.ms.length f.c] 30)).heap.size := Nat.le_trans hBr hbA.size
            have u0 := y.bx.cell 0 _ rfl
            have u1 := y.bx.cell 1 _ rfl
            have u2 := y.bx.cell 2 _ rfl
            have u3 := y.bx.cell 3 _ rfl
            have u4 := y.bx.cell 4 _ rfl
            have u5 := y.bx.cell 5 _ rfl
            have u6 := y.bx.cell 6 _ rfl
            go_upto_region 13 with fail
            generalize wr.alloc (.cells #[.int .u64 (f.p.id.toNat : Int), .int .u64 (f.p.par.toNat : Int), .int .u64 (f.p.seq.toNat : Int), .int .u64 (f.p.off.toNat : Int), .int .u64 (f.p.tim.toNat : Int), .int .u32 (f.p.sch.toNat : Int), .slice f.A f.p.ms.length f.c] 30) = wA at *
            generalize wr.heap.size = b8 at *
            have hs32 := f.p.sch.toNat_lt
            have e31 : IntKind.u64.wrap (f.p.sch.toNat : Int) = (f.p.sch.toNat : Int) := by rw [IntKind.wrap_u64]; omega
            have e32 : (f.p.sch.toNat : Int) % 18446744073709551616 = (f.p.sch.toNat : Int) := by omega
            have e33 : IntKind.u64.wrap (f.p.ms.length : Int) = (f.p.ms.length : Int) := by rw [IntKind.wrap_u64]; omega
            have e34 : (f.p.ms.length : Int) % 18446744073709551616 = (f.p.ms.length : Int) := by omega
            have hbL := (Below.refl wA.heap.size wA).alloc (Nat.le_refl _) (.cells #[.int .u64 (f.p.id.toNat : Int), .int .u64 (f.p.par.toNat : Int), .int .u64 (f.p.seq.toNat : Int), .int .u64 (f.p.off.toNat : Int), .int .u64 (f.p.tim.toNat : Int), .int .u64 (f.p.sch.toNat : Int), .int .u64 (f.p.ms.length : Int)] 24)
            have L := boxT_new wA #[.int .u64 (f.p.id.toNat : Int), .int .u64 (f.p.par.toNat : Int), .int .u64 (f.p.seq.toNat : Int), .int .u64 (f.p.off.toNat : Int), .int .u64 (f.p.tim.toNat : Int), .int .u64 (f.p.sch.toNat : Int), .int .u64 (f.p.ms.length : Int)] 24
            have yL := y.keep hbL
            have oL := oA.keep hbL
            have zL : Bz w2.heap.size w3 _ := zA.trans (Bz.of hbL)
            have hBL : w2.heap.size ≤ (wA.alloc (.cells #[.int .u64 (f.p.id.toNat : Int), .int .u64 (f.p.par.toNat : Int), .int .u64 (f.p.seq.toNat : Int), .int .u64 (f.p.off.toNat : Int), .int .u64 (f.p.tim.toNat : Int), .int .u64 (f.p.sch.toNat : Int), .int .u64 (f.p.ms.length : Int)] 24)).heap.size := Nat.le_trans hBA hbL.size
            clear f0 f1 f2 f3 f4 f5 f6 ob oA zA hbA hz
            go_wp2_with fail
            generalize wA.alloc (.cells #[.int .u64 (f.p.id.toNat : Int), .int .u64 (f.p.par.toNat : Int), .int .u64 (f.p.seq.toNat : Int), .int .u64 (f.p.off.toNat : Int), .int .u64 (f.p.tim.toNat : Int), .int .u64 (f.p.sch.toNat : Int), .int .u64 (f.p.ms.length : Int)] 24) = wL at *
            generalize wA.heap.size = bl at *
            clear e31 e32 e33 e34 u0 u1 u2 u3 u4 u5 u6 hs32
            have hnl := nums_le (p := f.p) h8
            have HNL := hide hnl
            have HL : Hid (BoxT wL bl ((nums f.p).map fun n : Nat => Value.int .u64 (n : Int)) 24) := hide L
            clear hnl L y
            have HY := hide yL
            clear yL
            go_loopw [4, 69] (fun bv0 iv wq => ∃ (bv : Value) (k : Nat) (q : List UInt8), bv0 = bv ∧ iv = .int .i64 (k : Int) ∧ k ≤ 7 ∧ Buf w2.heap.size q bv wq ∧ Hid (q = p ++ putAll ((nums f.p).take k)) ∧ Bz w2.heap.size wL wq) (fun _ iv _ => 7 - (intOf iv).toNat)
            case atStart => exact ⟨_, 0, p, rfl, rfl, by omega, oL, hide (by unfold putAll; simp), Bz.refl _ _⟩
            case round =>
              obtain ⟨bv, k, q, rfl, rfl, hk, ob, hq, hz⟩ := hrel
              have hBq : w2.heap.size ≤ wr.heap.size := Nat.le_trans hBL hz.size
              have LR := HL.out.bz hz (by decide)
              by_cases hk7 : k < 7
              · have hkn : k < (nums f.p).length := hk7
                have hcell := LR.bx.cell k (.int .u64 ((nums f.p).getD k 0 : Int)) (by rw [List.getElem?_map, List.getElem?_eq_getElem hkn, getD_at _ _ hkn]; rfl)
                have hn64 := HNL.out ((nums f.p).getD k 0) (by rw [getD_at _ _ hkn]; exact List.getElem_mem hkn)
                have hnx : (nums f.p).take (k + 1) = (nums f.p).take k ++ [(nums f.p).getD k 0] := by rw [List.take_add_one, List.getElem?_eq_getElem hkn, getD_at _ _ hkn]; rfl
                have hlq : q.length ≤ p.length + 70 := by
                  have e : (putAll ((nums f.p).take k)).length ≤ ((nums f.p).take k).length * 10 := putAll_le fun n hn => HNL.out n (List.mem_of_mem_take hn)
                  have e2 : ((nums f.p).take k).length ≤ 7 := by rw [List.length_take]; omega
                  rw [hq.out, List.length_append]
                  omega
                generalize (nums f.p).getD k 0 = n at *
                have HNX := hide hnx
                have hpn := put_le10' n hn64
                clear hnx
                go_wp2_with fail
                refine (varPut (n : Int) wr (by omega) (by omega)).mono ?_
                rintro e w6 ⟨v6, rfl, hown6, hb6⟩
                rw [Int.toNat_natCast] at hown6
                obtain ⟨A6, c6, rfl⟩ := own_slice hown6
                have o6 := ob.keep hb6
                have hr6 := rd_own hown6
                have hB6 : w2.heap.size ≤ w6.heap.size := Nat.le_trans hBq hb6.size
                clear hcell ob hown6 LR
                go_wp2_with (at_builtin; refine wpList_buf rfl (.tmp 73) (.tmp 75) rfl rfl o6 A6 _ c6 _ rfl hr6 (by omega) hB6 ?_; intro v7 w7 o7 hz7; have Z7 := hz.trans ((Bz.of hb6).trans hz7); clear o6 hr6 hb6 hz7)
                go_roundw
                case rel => exact ⟨_, k + 1, q ++ Var.put n, rfl, by go_num, hk7, o7, hide (by rw [hq.out, HNX.out]; unfold putAll; rw [List.flatMap_append, List.append_assoc]; simp), Z7⟩
                case measure => simp [intOf]; omega
              · have HQ : Hid (q = p ++ putAll (nums f.p)) := hide (by rw [hq.out, List.take_of_length_le (show (nums f.p).length ≤ k by have : (nums f.p).length = 7 := rfl; omega)])
                have hlq : q.length ≤ p.length + 70 := by
                  have e : (putAll (nums f.p)).length ≤ (nums f.p).length * 10 := putAll_le HNL.out
                  have e2 : (nums f.p).length = 7 := rfl
                  rw [HQ.out, List.length_append]
                  omega
                have YR := HY.out.bz hz (by decide)
                have u6 := YR.bx.cell 6 _ rfl
                have zR := zL.trans hz
                have hinR := (hin.below (hb3.trans (zR.below hB3))).more hBq
                clear hq
                go_wp2_with fail
                generalize f.A = fA at *
                go_loopw [4, 81] (fun bv0 iv wq => ∃ (bv : Value) (k : Nat) (r : List UInt8), bv0 = bv ∧ iv = .int .i64 (k : Int) ∧ k ≤ f.p.ms.length ∧ Buf w2.heap.size r bv wq ∧ Hid (r = q ++ txs (f.p.ms.take k)) ∧ Bz w2.heap.size wr wq) (fun _ iv _ => f.p.ms.length - (intOf iv).toNat)
                case atStart => exact ⟨_, 0, q, rfl, rfl, Nat.zero_le _, ob, hide (by unfold txs; simp), Bz.refl _ _⟩
                case round =>
                  clear u6 hk7 hk ob
                  obtain ⟨bv, k, r, rfl, rfl, hk, ob, hr, hz4⟩ := hrel
                  have hB4 : w2.heap.size ≤ wr.heap.size := Nat.le_trans hBq hz4.size
                  have hlr : r.length ≤ q.length + 272 := by
                    have e : (txs (f.p.ms.take k)).length ≤ (f.p.ms.take k).length * 34 := flat_le fun s hs => tx_le (HNM.out.2 s (List.mem_of_mem_take hs))
                    have e2 : (f.p.ms.take k).length ≤ 8 := by rw [List.length_take]; omega
                    rw [hr.out, List.length_append]
                    omega
                  by_cases hk4 : k < f.p.ms.length
                  · obtain ⟨b1, o1, rfl, hd1, p0⟩ := ((hin.below (hb3.trans ((zR.trans hz4).below hB3))).more hB4).st hk4
                    have hx24 := HNM.out.2 (f.p.ms.getD k default) (getD_mem hk4)
                    have hnx := flat_next (f := tx) hk4
                    generalize f.p.ms.getD k default = x at *
                    have HNX := hide hnx
                    clear hnx
                    go_wp2_with fail
                    refine (metaText wr w2.heap.size r _ x ob hB4 (by omega)).mono ?_
                    rintro e w6 ⟨v6, rfl, o6, z6⟩
                    have Z6 := hz4.trans z6
                    clear ob p0
                    go_wp2_with fail
                    go_roundw
                    case rel => exact ⟨_, k + 1, r ++ tx x, rfl, by go_num, hk4, o6, hide (by rw [hr.out]; unfold txs; rw [HNX.out, List.append_assoc]), Z6⟩
                    case measure => simp [intOf]; omega
                  · have HR4 : Hid (r = wr1 (ss.map plS) (ns.map plN) ++ snBs ((ns.map plN).take (m + 1))) := hide (by
                      rw [hr.out, List.take_of_length_le (show f.p.ms.length ≤ k by omega), HQ.out, hqm.out]
                      unfold snBs
                      rw [HNX.out]
                      unfold snB
                      simp only [List.append_assoc]
                      rfl)
                    have Z4 := zR.trans hz4
                    go_wp2_with fail
                    go_roundw
                    case rel => exact ⟨_, m + 1, r, rfl, by go_num, hltm, ob, HR4, Z4⟩
                    case measure => simp [intOf]; omega
          · have HP : Hid (p = wrT (ss.map plS) (ns.map plN)) := hide (by rw [hqm.out, List.take_of_length_le (by rw [List.length_map]; omega)]; rfl)
            obtain ⟨bA, bc, rfl⟩ := own_slice ob
            have hBw : Below w.heap.size w wr := hB2.trans ((hb3.trans (hz.below hB3)).mono hB2.size)
            have hrb := rd_own ob
            clear hqm hTr XR
            go_wp2_with fail
            refine (crcSeal wr p.length bc bA p hrb (HT.out.below hBw hpos) (by omega)).mono ?_
            rintro e w9 ⟨v9, rfl, hown9, hb9⟩
            go_wp2_with fail
            go_ret2
            refine .inl ⟨HR.out, v9, rfl, ?_, below_call hBw hBw.size hb9⟩
            unfold wrS
            rw [← HP.out]
            exact own_base hown9 hBw.size
end Go.Proofs.YtlccpchlclpnaaaDoor
