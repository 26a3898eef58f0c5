/- THE WALK of the document's Write at entries. No statement of the seat is proved here; no condition but sizes. -/
import Derived.Test.YtbcnekaagkdmeaaDoorEnX
import Derived.BigQuiet
namespace Go.Proofs.YtbcnekaagkdmeaaDoor
open Go.RowKit

theorem below_dN {B : Nat} {a w : World} (h : Below B a w) (n : Nat) : Below B a (w.drewN n) := ⟨h.os, h.tape, h.output, h.size, h.block⟩

set_option maxRecDepth 100000 in
set_option maxHeartbeats 8000000 in
theorem refWrite13L (w : World) (A : Option Addr) (c : Nat) (l : List El) (ls : List En) (hls : ls = l.map El.p) (hr : EnR w w.heap.size A c l) (hms : ∀ x ∈ l, x.p.name.size ≤ 9223372036854775807) : Calls Tryd.prog 11 #[.slice A l.length c] w (WrEndE w ls) := by
  by_cases h64 : 64 < l.length
  · have t1 : decide ((64 : Int) < (l.length : Int)) = true := decide_eq_true (by omega)
    have he := errE_long (l := ls) (by simpa [hls] using h64)
    clear h64
    go_enter Tryd.func11, Tryd.ntmps11
    go_wp2_with fail
    go_ret2
    exact ⟨Below.refl _ _, .inr ⟨by rw [he]; decide, by rw [he]; rfl⟩⟩
  have t1 : decide ((64 : Int) < (l.length : Int)) = false := decide_eq_false (by omega)
  have hl64 : l.length ≤ 64 := by omega
  have H64 := hide h64
  clear h64
  have kc := Lib.run_convert_bytes_const (P := Tryd.prog) w 25 5 #[.int .u8 77, .int .u8 70, .int .u8 49] 3 3 Tryd.underlying25 Tryd.underlying5
  have e33 : IntKind.u64.wrap (l.length : Int) = (l.length : Int) := by rw [IntKind.wrap_u64]; omega
  have e34 : (l.length : Int) % 18446744073709551616 = (l.length : Int) := by omega
  have hb1 := (Below.refl w.heap.size w).alloc (Nat.le_refl _) (.cells #[.int .u8 77, .int .u8 70, .int .u8 49] 5 (3, 4))
  have hl1 : ∀ j u, (bytesV mf1)[j]? = some u → (w.alloc (.cells #[.int .u8 77, .int .u8 70, .int .u8 49] 5 (3, 4))).cell? ⟨w.heap.size, j, none⟩ = some u := fun j u hj => by
    have e : (#[Value.int .u8 77, .int .u8 70, .int .u8 49] : Array Value).toList = bytesV mf1 := rfl
    rw [World.cell?_alloc_mark, ← Array.getElem?_toList, e]
    exact hj
  have zz1 : w.heap.size < (w.alloc (.cells #[.int .u8 77, .int .u8 70, .int .u8 49] 5 (3, 4))).heap.size := by simp
  go_enter Tryd.func11, Tryd.ntmps11
  go_wp2_with fail
  generalize w.alloc (.cells #[.int .u8 77, .int .u8 70, .int .u8 49] 5 (3, 4)) = w1 at *
  refine (refNum13F w1 w.heap.size l.length mf1 (by omega) hl1 zz1 (by decide)).mono ?_
  rintro e w2 ⟨v2, rfl, o2', hb2⟩
  have o2 : Buf w.heap.size (mf1 ++ Var.put l.length) v2 w2 := own_base o2' (Nat.le_of_lt zz1)
  have hB2 : Below w.heap.size w w2 := below_call hb1 (Nat.le_of_lt zz1) hb2
  obtain ⟨p0, hp0⟩ : ∃ p0, mf1 ++ Var.put l.length = p0 := ⟨_, rfl⟩
  have hp0l : p0.length ≤ 13 := by
    have := Var.put_le10 (n := l.length) (by omega)
    have e3 : mf1.length = 3 := rfl
    rw [← hp0, List.length_append]
    omega
  rw [hp0] at o2
  have HP0 := hide hp0
  obtain ⟨B, hB⟩ : ∃ B, B = w.heap.size := ⟨_, rfl⟩
  rw [← hB] at o2 hB2 hr ⊢
  have HB := hide hB
  clear hp0 o2' hb1 hb2 hl1 zz1 kc hB
  clear w1
  have hlen : ls.length = l.length := by rw [hls, List.length_map]
  have hget : ∀ k, ls.getD k default = (l.getD k default).p := fun k => by rw [hls]; exact map_get l k
  clear hls
  go_wp2_with fail
  go_loopw [4, 5] (fun bv0 iv wr => ∃ (bv : Value) (k : Nat) (q : List UInt8), bv0 = bv ∧ iv = .int .i64 (k : Int) ∧ k ≤ l.length ∧ Hid (∀ j, j < k → rightE (ls.getD j default) = true ∧ (ls.getD j default).name ∉ (ls.take j).map En.name) ∧ Buf B q bv wr ∧ Hid (q = p0 ++ entsB (ls.take k)) ∧ Below B w wr) (fun _ iv _ => l.length - (intOf iv).toNat)
  case atStart => exact ⟨_, 0, p0, rfl, rfl, Nat.zero_le _, hide (fun j hj => by omega), o2, hide (by simp [entsB]), hB2⟩
  case round =>
    clear o2 hB2 e33 e34
    obtain ⟨bv, k, q, rfl, rfl, hk, hgood, ob, hq, hbr⟩ := hrel
    have hBr : B ≤ wr.heap.size := by have := hbr.size; have := HB.out; omega
    have hqk : q.length ≤ 300000 := by
      have h1 : (entsB (ls.take k)).length ≤ (ls.take k).length * 1550 := flat_le fun z hz => by
        obtain ⟨j, hj, rfl⟩ := List.getElem_of_mem hz
        rw [List.length_take] at hj
        have := hgood.out j (by omega)
        rw [List.getElem_take, ← getD_at _ _ (by omega)]
        exact entB_le this.1
      have h2 : (ls.take k).length * 1550 ≤ 64 * 1550 := Nat.mul_le_mul_right _ (by rw [List.length_take]; omega)
      rw [hq.out, List.length_append]
      omega
    by_cases hlt : k < l.length
    · obtain ⟨gb, off, rfl, hgb, hcells⟩ := (hr.below hbr).row.elA hlt
      have hin := (hr.below hbr).ins (l.getD k default) (getD_mem hlt)
      have hxs := hms (l.getD k default) (getD_mem hlt)
      have hgk := hget k
      obtain ⟨x, hx⟩ : ∃ x, l.getD k default = x := ⟨_, rfl⟩
      obtain ⟨f0, f1, f2, f3, f4, f5⟩ := hcells x hx
      rw [hx] at hin hgk hxs
      have hnx : entsB (ls.take (k + 1)) = entsB (ls.take k) ++ entB x.p := by rw [← hgk]; exact flat_next (by omega)
      have HGK := hide hgk
      have HNX := hide hnx
      have y := boxT_new wr #[.string x.p.name, .bool x.p.keys, .int .u64 (x.p.seq.toNat : Int), .int .i64 x.p.rows.toInt, .int .u32 (x.p.sch.toNat : Int), .slice x.A x.p.stats.length x.c] 36
      have hbA := (Below.refl wr.heap.size wr).alloc (Nat.le_refl _) (.cells #[.string x.p.name, .bool x.p.keys, .int .u64 (x.p.seq.toNat : Int), .int .i64 x.p.rows.toInt, .int .u32 (x.p.sch.toNat : Int), .slice x.A x.p.stats.length x.c] 36)
      have hleA : B ≤ (wr.alloc (.cells #[.string x.p.name, .bool x.p.keys, .int .u64 (x.p.seq.toNat : Int), .int .i64 x.p.rows.toInt, .int .u32 (x.p.sch.toNat : Int), .slice x.A x.p.stats.length x.c] 36)).heap.size := Nat.le_trans hBr hbA.size
      have oA := ob.keep hbA
      have hbrA := hbr.trans (hbA.mono hBr)
      have hinA := hin.below (hbA.mono hBr)
      clear hcells hx hgk hnx hin ob hbr
      go_upto_region 8 with fail
      generalize wr.alloc (.cells #[.string x.p.name, .bool x.p.keys, .int .u64 (x.p.seq.toNat : Int), .int .i64 x.p.rows.toInt, .int .u32 (x.p.sch.toNat : Int), .slice x.A x.p.stats.length x.c] 36) = wA at *
      generalize wr.heap.size = xb at *
      have u0 := y.bx.cell 0 _ rfl
      have u1 := y.bx.cell 1 _ rfl
      have u2 := y.bx.cell 2 _ rfl
      have u3 := y.bx.cell 3 _ rfl
      have u4 := y.bx.cell 4 _ rfl
      have u5 := y.bx.cell 5 _ rfl
      clear f0 f1 f2 f3 f4 f5
      go_wp2_with fail
      refine (refRight13 wA x.p x.A x.c (hinA.more hleA) hxs).mono ?_
      rintro e w5 ⟨rfl, hb5⟩
      have o5 := oA.keep hb5
      have y5 := y.keep hb5
      have hbr5 := below_call hbrA hleA hb5
      have hin5 := hinA.below (hb5.mono hleA)
      have hle5 := Nat.le_trans hleA hb5.size
      clear oA y hbrA hinA hb5 hbA u0 u1 u2 u3 u4 u5 hleA
      cases hrt : rightE x.p with
      | false =>
        have hbad := allE_bad (met := []) (l := ls) (k := k) (by omega) (.inl (by rw [HGK.out]; exact hrt))
        have HBAD := hide hbad
        clear hrt hbad
        go_wp2_with fail
        go_ret2
        rw [HB.out] at hbr5
        have h9 := errE_bad (l := ls) (by omega) HBAD.out
        exact ⟨hbr5, .inr ⟨by rw [h9]; decide, by rw [h9]; rfl⟩⟩
      | true =>
        have HRT := hide hrt
        clear hrt
        go_wp2_with fail
        go_loopw [7] (fun iv wq => ∃ m : Nat, iv = .int .i64 (m : Int) ∧ m ≤ k ∧ Hid (∀ j, j < m → (ls.getD j default).name ≠ x.p.name) ∧ Below w5.heap.size w5 wq) (fun iv _ => k - (intOf iv).toNat)
        case atStart => exact ⟨0, rfl, Nat.zero_le _, hide (fun j hj => by omega), Below.refl _ _⟩
        case round =>
          obtain ⟨m, rfl, hm, hne, hbq⟩ := hrel
          have y6 := y5.keep hbq
          have hbr6 := hbr5.trans (hbq.mono hle5)
          by_cases hmk : m < k
          · obtain ⟨gb2, off2, hA2, hgb2, hc2⟩ := (hr.below hbr6).row.elA (show m < l.length by omega)
            injection hA2 with hA2
            injection hA2 with e1 e2
            subst e1 e2
            obtain ⟨z, hz⟩ : ∃ z, l.getD m default = z := ⟨_, rfl⟩
            obtain ⟨g0, _⟩ := hc2 z hz
            have hzm := hget m
            rw [hz] at hzm
            have HZM := hide hzm
            have u0 := y6.bx.cell 0 _ rfl
            clear hc2 hz hzm
            cases t45 : (z.p.name.toList == x.p.name.toList) with
            | true =>
              have hbad := allE_bad (met := []) (l := ls) (k := k) (by omega) (.inr (by
                rw [HGK.out, List.nil_append, ← bytes_same (beq_iff_eq.1 t45), ← HZM.out]
                refine List.mem_map.2 ⟨ls.getD m default, ?_, rfl⟩
                rw [getD_at _ _ (by omega)]
                exact List.mem_take_iff_getElem.2 ⟨m, by omega, rfl⟩))
              have HBAD := hide hbad
              clear hbad
              go_upto_region 13 with fail
              go_quiet (fail)
              go_wp2_with fail
              go_ret2
              have hbr7 := below_dN hbr6 nq
              rw [HB.out] at hbr7
              have h9 := errE_bad (l := ls) (by omega) HBAD.out
              exact ⟨hbr7, .inr ⟨by rw [h9]; decide, by rw [h9]; rfl⟩⟩
            | false =>
              have HNN : Hid (z.p.name ≠ x.p.name) := hide fun q => by rw [q, beq_self_eq_true] at t45; cases t45
              go_upto_region 13 with fail
              go_quiet (fail)
              go_wp2_with fail
              go_roundw
              case rel =>
                refine ⟨m + 1, by go_num, hmk, hide fun j hj => ?_, below_dN hbq _⟩
                rcases Nat.lt_or_ge j m with hjm | hjm
                · exact hne.out j hjm
                · obtain rfl : j = m := by omega
                  rw [HZM.out]
                  exact HNN.out
              case measure => simp [intOf]; omega
          · have HGOOD : Hid (∀ j, j < k + 1 → rightE (ls.getD j default) = true ∧ (ls.getD j default).name ∉ (ls.take j).map En.name) := hide fun j hj => by
              rcases Nat.lt_or_ge j k with hjk | hjk
              · exact hgood.out j hjk
              · obtain rfl : j = k := by omega
                rw [HGK.out]
                refine ⟨HRT.out, fun q => ?_⟩
                obtain ⟨z, hz, hzn⟩ := List.mem_map.1 q
                obtain ⟨i, hi, rfl⟩ := List.mem_take_iff_getElem.1 hz
                refine hne.out i (by omega) ?_
                rw [getD_at _ _ (by omega)]
                exact hzn
            have o6 := o5.keep hbq
            have hin6 := hin5.below (hbq.mono hle5)
            have hle6 := Nat.le_trans hle5 hbq.size
            have HR6 := hide hbr6
            have u0 := y6.bx.cell 0 _ rfl
            obtain ⟨g1, g2, g3, g4, g5, g6, g7⟩ := right_hasE HRT.out
            have gp := path_le g1
            have p1 := tx_le x.p.name (by omega)
            clear hgood hne hbq o5 y5 hbr5 hin5 hle5 hbr6
            go_upto_region 15 with fail
            clear hm hmk
            go_wp2_with fail
            refine (refText13 wr B q _ x.p.name o6 hle6 (by omega)).mono ?_
            rintro e w7 ⟨v7, rfl, o7, hz⟩
            have z7 := (Bz.refl B wr).trans hz
            have y7 := y6.bz hz (by decide)
            have hlew7 := Nat.le_trans hle6 hz.size
            have hlew6 := hle6
            obtain ⟨l7, hl7e⟩ : ∃ z, q ++ tx x.p.name = z := ⟨_, rfl⟩
            rw [hl7e] at o7
            have hl7 : l7.length ≤ 300100 := by rw [← hl7e, List.length_append]; omega
            have Hl7 := hide hl7e
            clear hl7e o6 hz y6 u0 p1
            obtain ⟨kb, hkb⟩ : ∃ kb, x.p.keys = kb := ⟨_, rfl⟩
            obtain ⟨rn, hrn⟩ : ∃ n : Nat, x.p.rows.toInt = (n : Int) := ⟨x.p.rows.toInt.toNat, by omega⟩
            have hE : entB x.p = tx x.p.name ++ (Var.put (flagN kb) ++ (Var.put x.p.seq.toNat ++ (Var.put rn ++ (Var.put x.p.sch.toNat ++ (Var.put x.p.stats.length ++ statsB x.p.stats))))) := by unfold entB; rw [hrn, Int.toNat_natCast, hkb]
            have HE := hide hE
            rw [hkb, hrn] at y7
            have u1 := y7.bx.cell 1 _ rfl
            have H7 := hide g7
            have H6 := hide g6
            have hs32 := x.p.sch.toNat_lt
            have hrw64 : rn < 18446744073709551616 := by omega
            have hseq : x.p.seq.toNat < 18446744073709551616 := by omega
            have hsch : x.p.sch.toNat < 18446744073709551616 := by omega
            have hln : x.p.stats.length < 18446744073709551616 := by omega
            have p2 := Var.put_le10 (n := flagN kb) (by unfold flagN; split <;> omega)
            have p3 := Var.put_le10 (n := x.p.seq.toNat) hseq
            have p4 := Var.put_le10 (n := rn) hrw64
            have p5 := Var.put_le10 (n := x.p.sch.toNat) hsch
            have p6 := Var.put_le10 (n := x.p.stats.length) hln
            have e33 : IntKind.u64.wrap (rn : Int) = (rn : Int) := by rw [IntKind.wrap_u64]; omega
            have e34 : (rn : Int) % 18446744073709551616 = (rn : Int) := by omega
            have e35 : IntKind.u64.wrap (x.p.sch.toNat : Int) = (x.p.sch.toNat : Int) := by rw [IntKind.wrap_u64]; omega
            have e36 : (x.p.sch.toNat : Int) % 18446744073709551616 = (x.p.sch.toNat : Int) := by omega
            have e37 : IntKind.u64.wrap (x.p.stats.length : Int) = (x.p.stats.length : Int) := by rw [IntKind.wrap_u64]; omega
            have e38 : (x.p.stats.length : Int) % 18446744073709551616 = (x.p.stats.length : Int) := by omega
            clear hE hkb hrn g1 g2 g3 g4 g5 g6 g7 gp hs32
            go_upto_if 51 with fail
            go_cut [8] from 8 to 8 (fun v8 wx => v8 = .int .u64 (flagN kb : Int) ∧ wx = w7)
            case first =>
              cases kb with
              | true =>
                go_wp2_with fail
                go_meet
                exact ⟨rfl, rfl⟩
              | false =>
                go_wp2_with fail
                go_meet
                exact ⟨rfl, rfl⟩
            case rest =>
            obtain ⟨rfl, rfl⟩ := hcut
            have hfl : flagN kb < 18446744073709551616 := by unfold flagN; split <;> omega
            have hdr := (Below.refl wc.heap.size wc).drew
            have yD := y7.keep hdr
            have oD := o7.keep hdr
            have zD := z7.trans (Bz.of hdr)
            have hlewD : B ≤ wc.drew.heap.size := hlew7
            clear u1 y7 o7 z7 hdr
            generalize flagN kb = fl at *
            go_upto_region 19 with fail
            refine wp_region_held_drew (S := fun w' => BoxN w' xb [.string x.p.name, .bool kb, .int .u64 (x.p.seq.toNat : Int), .int .i64 (rn : Int), .int .u32 (x.p.sch.toNat : Int), .slice x.A x.p.stats.length x.c]) (by kernel_rfl) ?_ (fun hHeld => ?_)
            · exact yD.bx
            refine wpAnyH_take (i := 0) (v := ?_) rfl (by kernel_rfl) (by kernel_rfl) (by kernel_rfl) (fun _ _ _ h => h) (Or.inl ⟨by rfl, ?_⟩) hHeld ?_
            rotate_left 1
            · (intro w hSw; have q0 := hSw.cell 0 _ rfl; have q1 := hSw.cell 1 _ rfl; have q2 := hSw.cell 2 _ rfl; have q3 := hSw.cell 3 _ rfl; have q4 := hSw.cell 4 _ rfl; have q5 := hSw.cell 5 _ rfl; go_simp; first | done | with_reducible rfl)
            (try simp only [Act.put, List.setIfInBounds_toArray, List.set_cons_zero, List.set_cons_succ])
            refine wpAnyH_take (i := 1) (v := ?_) rfl (by kernel_rfl) (by kernel_rfl) (by kernel_rfl) (fun _ _ _ h => h) (Or.inl ⟨by rfl, ?_⟩) hHeld ?_
            rotate_left 1
            · (intro w hSw; have q0 := hSw.cell 0 _ rfl; have q1 := hSw.cell 1 _ rfl; have q2 := hSw.cell 2 _ rfl; have q3 := hSw.cell 3 _ rfl; have q4 := hSw.cell 4 _ rfl; have q5 := hSw.cell 5 _ rfl; go_simp; first | done | with_reducible rfl)
            (try simp only [Act.put, List.setIfInBounds_toArray, List.set_cons_zero, List.set_cons_succ])
            refine wpAnyH_take (i := 3) (v := ?_) rfl (by kernel_rfl) (by kernel_rfl) (by kernel_rfl) (fun _ _ _ h => h) (Or.inl ⟨by rfl, ?_⟩) hHeld ?_
            rotate_left 1
            · (intro w hSw; have q0 := hSw.cell 0 _ rfl; have q1 := hSw.cell 1 _ rfl; have q2 := hSw.cell 2 _ rfl; have q3 := hSw.cell 3 _ rfl; have q4 := hSw.cell 4 _ rfl; have q5 := hSw.cell 5 _ rfl; go_simp; first | done | with_reducible rfl)
            (try simp only [Act.put, List.setIfInBounds_toArray, List.set_cons_zero, List.set_cons_succ])
            refine wpAnyH_take (i := 4) (v := ?_) rfl (by kernel_rfl) (by kernel_rfl) (by kernel_rfl) (fun _ _ _ h => h) (Or.inl ⟨by rfl, ?_⟩) hHeld ?_
            rotate_left 1
            · (intro w hSw; have q0 := hSw.cell 0 _ rfl; have q1 := hSw.cell 1 _ rfl; have q2 := hSw.cell 2 _ rfl; have q3 := hSw.cell 3 _ rfl; have q4 := hSw.cell 4 _ rfl; have q5 := hSw.cell 5 _ rfl; go_simp; first | done | with_reducible rfl)
            (try simp only [Act.put, List.setIfInBounds_toArray, List.set_cons_zero, List.set_cons_succ])
            refine wpAnyH_take (i := 6) (v := ?_) rfl (by kernel_rfl) (by kernel_rfl) (by kernel_rfl) (fun _ _ _ h => h) (Or.inl ⟨by rfl, ?_⟩) hHeld ?_
            rotate_left 1
            · (intro w hSw; have q0 := hSw.cell 0 _ rfl; have q1 := hSw.cell 1 _ rfl; have q2 := hSw.cell 2 _ rfl; have q3 := hSw.cell 3 _ rfl; have q4 := hSw.cell 4 _ rfl; have q5 := hSw.cell 5 _ rfl; go_simp; first | done | with_reducible rfl)
            (try simp only [Act.put, List.setIfInBounds_toArray, List.set_cons_zero, List.set_cons_succ])
            refine wpAnyH_take (i := 7) (v := ?_) rfl (by kernel_rfl) (by kernel_rfl) (by kernel_rfl) (fun _ _ _ h => h) (Or.inl ⟨by rfl, ?_⟩) hHeld ?_
            rotate_left 1
            · (intro w hSw; have q0 := hSw.cell 0 _ rfl; have q1 := hSw.cell 1 _ rfl; have q2 := hSw.cell 2 _ rfl; have q3 := hSw.cell 3 _ rfl; have q4 := hSw.cell 4 _ rfl; have q5 := hSw.cell 5 _ rfl; go_simp; first | done | with_reducible rfl)
            (try simp only [Act.put, List.setIfInBounds_toArray, List.set_cons_zero, List.set_cons_succ])
            refine wpAnyH_take (i := 8) (v := ?_) rfl (by kernel_rfl) (by kernel_rfl) (by kernel_rfl) (fun _ _ _ h => h) (Or.inl ⟨by rfl, ?_⟩) hHeld ?_
            rotate_left 1
            · (intro w hSw; have q0 := hSw.cell 0 _ rfl; have q1 := hSw.cell 1 _ rfl; have q2 := hSw.cell 2 _ rfl; have q3 := hSw.cell 3 _ rfl; have q4 := hSw.cell 4 _ rfl; have q5 := hSw.cell 5 _ rfl; go_simp; first | done | with_reducible rfl)
            (try simp only [Act.put, List.setIfInBounds_toArray, List.set_cons_zero, List.set_cons_succ])
            refine wpAnyH_take (i := 10) (v := ?_) rfl (by kernel_rfl) (by kernel_rfl) (by kernel_rfl) (fun _ _ _ h => h) (Or.inl ⟨by rfl, ?_⟩) hHeld ?_
            rotate_left 1
            · (intro w hSw; have q0 := hSw.cell 0 _ rfl; have q1 := hSw.cell 1 _ rfl; have q2 := hSw.cell 2 _ rfl; have q3 := hSw.cell 3 _ rfl; have q4 := hSw.cell 4 _ rfl; have q5 := hSw.cell 5 _ rfl; go_simp; first | done | with_reducible rfl)
            (try simp only [Act.put, List.setIfInBounds_toArray, List.set_cons_zero, List.set_cons_succ])
            refine wpAnyH_take (i := 11) (v := ?_) rfl (by kernel_rfl) (by kernel_rfl) (by kernel_rfl) (fun _ _ _ h => h) (Or.inl ⟨by rfl, ?_⟩) hHeld ?_
            rotate_left 1
            · (intro w hSw; have q0 := hSw.cell 0 _ rfl; have q1 := hSw.cell 1 _ rfl; have q2 := hSw.cell 2 _ rfl; have q3 := hSw.cell 3 _ rfl; have q4 := hSw.cell 4 _ rfl; have q5 := hSw.cell 5 _ rfl; go_simp; first | done | with_reducible rfl)
            (try simp only [Act.put, List.setIfInBounds_toArray, List.set_cons_zero, List.set_cons_succ])
            refine wpAnyH_take (i := 12) (v := ?_) rfl (by kernel_rfl) (by kernel_rfl) (by kernel_rfl) (fun _ _ _ h => h) (Or.inl ⟨by rfl, ?_⟩) hHeld ?_
            rotate_left 1
            · (intro w hSw; have q0 := hSw.cell 0 _ rfl; have q1 := hSw.cell 1 _ rfl; have q2 := hSw.cell 2 _ rfl; have q3 := hSw.cell 3 _ rfl; have q4 := hSw.cell 4 _ rfl; have q5 := hSw.cell 5 _ rfl; go_simp; first | done | with_reducible rfl)
            (try simp only [Act.put, List.setIfInBounds_toArray, List.set_cons_zero, List.set_cons_succ])
            refine wpAnyH_take (i := 14) (v := ?_) rfl (by kernel_rfl) (by kernel_rfl) (by kernel_rfl) (fun _ _ _ h => h) (Or.inl ⟨by rfl, ?_⟩) hHeld ?_
            rotate_left 1
            · (intro w hSw; have q0 := hSw.cell 0 _ rfl; have q1 := hSw.cell 1 _ rfl; have q2 := hSw.cell 2 _ rfl; have q3 := hSw.cell 3 _ rfl; have q4 := hSw.cell 4 _ rfl; have q5 := hSw.cell 5 _ rfl; go_simp; first | done | with_reducible rfl)
            (try simp only [Act.put, List.setIfInBounds_toArray, List.set_cons_zero, List.set_cons_succ])
            refine wpAnyH_take (i := 15) (v := ?_) rfl (by kernel_rfl) (by kernel_rfl) (by kernel_rfl) (fun _ _ _ h => h) (Or.inl ⟨by rfl, ?_⟩) hHeld ?_
            rotate_left 1
            · (intro w hSw; have q0 := hSw.cell 0 _ rfl; have q1 := hSw.cell 1 _ rfl; have q2 := hSw.cell 2 _ rfl; have q3 := hSw.cell 3 _ rfl; have q4 := hSw.cell 4 _ rfl; have q5 := hSw.cell 5 _ rfl; go_simp; first | done | with_reducible rfl)
            (try simp only [Act.put, List.setIfInBounds_toArray, List.set_cons_zero, List.set_cons_succ])
            refine wpAnyH_take (i := 16) (v := ?_) rfl (by kernel_rfl) (by kernel_rfl) (by kernel_rfl) (fun _ _ _ h => h) (Or.inl ⟨by rfl, ?_⟩) hHeld ?_
            rotate_left 1
            · (intro w hSw; have q0 := hSw.cell 0 _ rfl; have q1 := hSw.cell 1 _ rfl; have q2 := hSw.cell 2 _ rfl; have q3 := hSw.cell 3 _ rfl; have q4 := hSw.cell 4 _ rfl; have q5 := hSw.cell 5 _ rfl; go_simp; first | done | with_reducible rfl)
            (try simp only [Act.put, List.setIfInBounds_toArray, List.set_cons_zero, List.set_cons_succ])
            refine wpAnyH_take (i := 17) (v := ?_) rfl (by kernel_rfl) (by kernel_rfl) (by kernel_rfl) (fun _ _ _ h => h) (Or.inl ⟨by rfl, ?_⟩) hHeld ?_
            rotate_left 1
            · (intro w hSw; have q0 := hSw.cell 0 _ rfl; have q1 := hSw.cell 1 _ rfl; have q2 := hSw.cell 2 _ rfl; have q3 := hSw.cell 3 _ rfl; have q4 := hSw.cell 4 _ rfl; have q5 := hSw.cell 5 _ rfl; go_simp; first | done | with_reducible rfl)
            (try simp only [Act.put, List.setIfInBounds_toArray, List.set_cons_zero, List.set_cons_succ])
            refine wpAnyH_ready (rs := [2]) (by kernel_rfl) (by simp) ?_
            refine AllReadyH.cons rfl (fun K hK => ?_) AllReadyH.nil
            go_simp
            go_at_call 24
            refine (refNum13N wc.drew B l7 _ fl hfl oD hlewD (by omega)).mono ?_
            rintro e w8 ⟨v8, rfl, o8, hz⟩
            have z8 := zD.trans hz
            have y8 := yD.bz hz (by decide)
            have hlew8 := Nat.le_trans hlewD hz.size
            obtain ⟨l8, hl8e⟩ : ∃ z, l7 ++ Var.put fl = z := ⟨_, rfl⟩
            rw [hl8e] at o8
            have hl8 : l8.length ≤ 300200 := by rw [← hl8e, List.length_append]; omega
            have Hl8 := hide hl8e
            clear hl8e oD hz yD zD
            refine hK.out _ _ (y8.bx) (fun hHeld => ?_)
            clear hK K
            (try simp only [Act.put, List.setIfInBounds_toArray, List.set_cons_zero, List.set_cons_succ])
            refine wpAnyH_ready (rs := [5]) (by kernel_rfl) (by simp) ?_
            refine AllReadyH.cons rfl (fun K hK => ?_) AllReadyH.nil
            go_simp
            go_at_call 24
            refine (refNum13N w8 B l8 _ x.p.seq.toNat hseq o8 hlew8 (by omega)).mono ?_
            rintro e w9 ⟨v9, rfl, o9, hz⟩
            have z9 := z8.trans hz
            have y9 := y8.bz hz (by decide)
            have hlew9 := Nat.le_trans hlew8 hz.size
            obtain ⟨l9, hl9e⟩ : ∃ z, l8 ++ Var.put x.p.seq.toNat = z := ⟨_, rfl⟩
            rw [hl9e] at o9
            have hl9 : l9.length ≤ 300300 := by rw [← hl9e, List.length_append]; omega
            have Hl9 := hide hl9e
            clear hl9e o8 hz y8 z8
            refine hK.out _ _ (y9.bx) (fun hHeld => ?_)
            clear hK K
            (try simp only [Act.put, List.setIfInBounds_toArray, List.set_cons_zero, List.set_cons_succ])
            refine wpAnyH_ready (rs := [9]) (by kernel_rfl) (by simp) ?_
            refine AllReadyH.cons rfl (fun K hK => ?_) AllReadyH.nil
            go_simp
            go_at_call 24
            refine (refNum13N w9 B l9 _ rn hrw64 o9 hlew9 (by omega)).mono ?_
            rintro e wa ⟨va, rfl, oa, hz⟩
            have za := z9.trans hz
            have ya := y9.bz hz (by decide)
            have hlewa := Nat.le_trans hlew9 hz.size
            obtain ⟨la, hlae⟩ : ∃ z, l9 ++ Var.put rn = z := ⟨_, rfl⟩
            rw [hlae] at oa
            have hla : la.length ≤ 300400 := by rw [← hlae, List.length_append]; omega
            have Hla := hide hlae
            clear hlae o9 hz y9 z9
            refine hK.out _ _ (ya.bx) (fun hHeld => ?_)
            clear hK K
            (try simp only [Act.put, List.setIfInBounds_toArray, List.set_cons_zero, List.set_cons_succ])
            refine wpAnyH_ready (rs := [13]) (by kernel_rfl) (by simp) ?_
            refine AllReadyH.cons rfl (fun K hK => ?_) AllReadyH.nil
            go_simp
            go_at_call 24
            refine (refNum13N wa B la _ x.p.sch.toNat hsch oa hlewa (by omega)).mono ?_
            rintro e wb ⟨vb, rfl, ob, hz⟩
            have zb := za.trans hz
            have yb := ya.bz hz (by decide)
            have hlewb := Nat.le_trans hlewa hz.size
            obtain ⟨lb, hlbe⟩ : ∃ z, la ++ Var.put x.p.sch.toNat = z := ⟨_, rfl⟩
            rw [hlbe] at ob
            have hlb : lb.length ≤ 300500 := by rw [← hlbe, List.length_append]; omega
            have Hlb := hide hlbe
            clear hlbe oa hz ya za
            refine hK.out _ _ (yb.bx) (fun hHeld => ?_)
            clear hK K
            (try simp only [Act.put, List.setIfInBounds_toArray, List.set_cons_zero, List.set_cons_succ])
            refine wpAnyH_ready (rs := [18]) (by kernel_rfl) (by simp) ?_
            refine AllReadyH.cons rfl (fun K hK => ?_) AllReadyH.nil
            go_simp
            go_at_call 24
            refine (refNum13N wb B lb _ x.p.stats.length hln ob hlewb (by omega)).mono ?_
            rintro e we ⟨ve, rfl, oe, hz⟩
            have ze := zb.trans hz
            have ye := yb.bz hz (by decide)
            have hlewe := Nat.le_trans hlewb hz.size
            obtain ⟨le, hlee⟩ : ∃ z, lb ++ Var.put x.p.stats.length = z := ⟨_, rfl⟩
            rw [hlee] at oe
            have hle : le.length ≤ 300600 := by rw [← hlee, List.length_append]; omega
            have Hle := hide hlee
            clear hlee ob hz yb zb
            refine hK.out _ _ (ye.bx) (fun hHeld => ?_)
            clear hK K
            (try simp only [Act.put, List.setIfInBounds_toArray, List.set_cons_zero, List.set_cons_succ])
            refine wpAnyH_take (i := 19) (v := ?_) rfl (by kernel_rfl) (by kernel_rfl) (by kernel_rfl) (fun _ _ _ h => h) (Or.inl ⟨by rfl, ?_⟩) hHeld ?_
            rotate_left 1
            · (intro w hSw; go_simp; first | done | with_reducible rfl)
            (try simp only [Act.put, List.setIfInBounds_toArray, List.set_cons_zero, List.set_cons_succ])
            refine wpAnyH_done (by kernel_rfl) ?_ _
            clear e33 e34 e35 e36 e37 e38 p2 p3 p4 p5 p6 hrw64 hseq hsch hln hfl
            have hinE := fun wq (hz : Bz B we wq) => (hin6.below (ze.below hle6)).below (hz.below hlewe)
            generalize x.A = SA at *
            generalize hsts : x.p.stats = sts at *
            have HSTS := hide hsts
            clear hsts
            go_wp2_with fail
            go_loopw [4, 9] (fun bv0 iv wq => ∃ (bv : Value) (j : Nat) (r : List UInt8), bv0 = bv ∧ iv = .int .i64 (j : Int) ∧ j ≤ sts.length ∧ Buf B r bv wq ∧ Hid (r = le ++ statsB (sts.take j)) ∧ Bz B we wq) (fun _ iv _ => sts.length - (intOf iv).toNat)
            case atStart => exact ⟨_, 0, le, rfl, rfl, Nat.zero_le _, oe, hide (by simp [statsB]), Bz.refl _ _⟩
            case round =>
              clear oe
              obtain ⟨bv, j, r, rfl, rfl, hj, ob, hrq, hz⟩ := hrel
              have yr := ye.bz hz (by decide)
              have hleR := Nat.le_trans hlewe hz.size
              have hlr : r.length ≤ 305000 := by
                have := flat_le (f := statB) (l := sts.take j) (m := 178) (fun s hs => statB_le (H7.out s (List.mem_of_mem_take hs)).2)
                have h9 : (sts.take j).length ≤ 8 := by have := H6.out; rw [List.length_take]; omega
                have h10 : (sts.take j).length * 178 ≤ 8 * 178 := Nat.mul_le_mul_right _ h9
                rw [hrq.out, List.length_append]
                unfold statsB
                omega
              have u5 := yr.bx.cell 5 _ rfl
              have hs8 := H6.out
              by_cases hjl : j < sts.length
              · have hst := (H7.out _ (getD_mem hjl)).2
                have hnxs : statsB (sts.take (j + 1)) = statsB (sts.take j) ++ statB (sts.getD j default) := flat_next hjl
                obtain ⟨sb, so, hSA, hsb, hcells⟩ := (hinE _ hz).stA hjl
                obtain ⟨s, hs⟩ : ∃ s, sts.getD j default = s := ⟨_, rfl⟩
                obtain ⟨f0, f1, f2, f3, f4, f5, f6, f7, f8, f9⟩ := hcells s hs
                rw [hs] at hst hnxs
                rw [hSA] at u5
                obtain ⟨q1, q2, q3, q4⟩ := stat_has hst
                obtain ⟨n, hn⟩ : ∃ n : Nat, s.nulls.toInt = (n : Int) := ⟨s.nulls.toInt.toNat, by omega⟩
                obtain ⟨sm, hsm⟩ : ∃ b, s.som = b := ⟨_, rfl⟩
                obtain ⟨hi, hhi⟩ : ∃ b, s.high = b := ⟨_, rfl⟩
                have hkk := s.mn.kind.toNat_lt
                have hsB : statB s = Var.put n ++ (if sm = false then Var.put 0 else if hi = true then Var.put 3 ++ (Var.put s.mn.kind.toNat ++ (cellB s.mn ++ cellB s.mx)) else Var.put 1 ++ (Var.put s.mn.kind.toNat ++ cellB s.mn)) := by unfold statB; rw [hn, Int.toNat_natCast, hsm, hhi]
                rw [hsB] at hnxs
                rw [hsm, hhi] at q4
                rw [hn] at f1
                rw [hsm] at f2
                rw [hhi] at f3
                have HNXS := hide hnxs
                have hnb : n < 18446744073709551616 := by omega
                have hkb : s.mn.kind.toNat < 18446744073709551616 := by omega
                have e33 : IntKind.u64.wrap (n : Int) = (n : Int) := by rw [IntKind.wrap_u64]; omega
                have e34 : (n : Int) % 18446744073709551616 = (n : Int) := by omega
                have e35 : IntKind.u64.wrap (s.mn.kind.toNat : Int) = (s.mn.kind.toNat : Int) := by rw [IntKind.wrap_u64]; omega
                have e36 : (s.mn.kind.toNat : Int) % 18446744073709551616 = (s.mn.kind.toNat : Int) := by omega
                have pn := Var.put_le10 (n := n) hnb
                have pk := Var.put_le10 (n := s.mn.kind.toNat) hkb
                have pp0 := Var.put_le10 (n := 0) (by omega)
                have pp1 := Var.put_le10 (n := 1) (by omega)
                have pp3 := Var.put_le10 (n := 3) (by omega)
                have y1 := boxT_new wr #[.int .i64 s.rows.toInt, .int .i64 (n : Int), .bool sm, .bool hi, .int .u8 (s.mn.kind.toNat : Int), .int .i64 s.mn.n.toInt, .string s.mn.s, .int .u8 (s.mx.kind.toNat : Int), .int .i64 s.mx.n.toInt, .string s.mx.s] 53
                have hbA := (Below.refl wr.heap.size wr).alloc (Nat.le_refl _) (.cells #[.int .i64 s.rows.toInt, .int .i64 (n : Int), .bool sm, .bool hi, .int .u8 (s.mn.kind.toNat : Int), .int .i64 s.mn.n.toInt, .string s.mn.s, .int .u8 (s.mx.kind.toNat : Int), .int .i64 s.mx.n.toInt, .string s.mx.s] 53)
                have o1 := ob.keep hbA
                have z1 := hz.trans (Bz.of hbA)
                have hlew1 := Nat.le_trans hleR hbA.size
                clear hcells hs hst hnxs hSA hn hsm hhi hsB hkk yr ob hz
                go_upto_region 24 with fail
                generalize wr.alloc (.cells #[.int .i64 s.rows.toInt, .int .i64 (n : Int), .bool sm, .bool hi, .int .u8 (s.mn.kind.toNat : Int), .int .i64 s.mn.n.toInt, .string s.mn.s, .int .u8 (s.mx.kind.toNat : Int), .int .i64 s.mx.n.toInt, .string s.mx.s] 53) = w1 at *
                generalize wr.heap.size = sbx at *
                clear f0 f1 f2 f3 f4 f5 f6 f7 f8 f9 hbA q1 q2 q3 u5
                have u1 := y1.bx.cell 1 _ rfl
                go_wp2_with fail
                refine (refNum13N w1 B r _ n hnb o1 hlew1 (by omega)).mono ?_
                rintro e wn ⟨vn, rfl, on, hz⟩
                have zn := z1.trans hz
                have yn := y1.bz hz (by decide)
                have hlewn := Nat.le_trans hlew1 hz.size
                obtain ⟨ln, hlne⟩ : ∃ z, r ++ Var.put n = z := ⟨_, rfl⟩
                rw [hlne] at on
                have hln : ln.length ≤ 305100 := by rw [← hlne, List.length_append]; omega
                have Hln := hide hlne
                clear hlne o1 hz y1 z1
                go_upto_region 25 with fail
                have u2 := yn.bx.cell 2 _ rfl
                clear u1 e33 e34
                cases sm with
                | false =>
                  go_wp2_with fail
                  refine (refNum13N wn B ln _ 0 (by decide) on hlewn (by omega)).mono ?_
                  rintro e wm ⟨vm, rfl, om, hz⟩
                  have zm := zn.trans hz
                  have ym := yn.bz hz (by decide)
                  have hlewm := Nat.le_trans hlewn hz.size
                  obtain ⟨lm, hlme⟩ : ∃ z, ln ++ Var.put 0 = z := ⟨_, rfl⟩
                  rw [hlme] at om
                  have hlm : lm.length ≤ 305200 := by rw [← hlme, List.length_append]; omega
                  have Hlm := hide hlme
                  clear hlme on hz yn zn
                  go_wp2_with fail
                  go_roundw
                  case rel => exact ⟨_, j + 1, lm, rfl, by go_num, hjl, om, hide (by rw [HNXS.out, if_pos trivial, ← Hlm.out, ← Hln.out, hrq.out]; simp only [List.append_assoc]), zm⟩
                  case measure => simp [intOf]; omega
                | true =>
                  obtain ⟨qa, qb⟩ := q4 rfl
                  have pa := cellB_le qa
                  have u3 := yn.bx.cell 3 _ rfl
                  cases hi with
                  | true =>
                    have qc := (qb rfl).1
                    have pc := cellB_le qc
                    clear q4 qb
                    have hdr := (Below.refl wn.heap.size wn).drew
                    have yD := yn.keep hdr
                    have oD := on.keep hdr
                    have zD := zn.trans (Bz.of hdr)
                    have hlewD : B ≤ wn.drew.heap.size := hlewn
                    clear yn on zn hdr
                    go_upto_region 28 with fail
                    clear u2 u3
                    refine wp_region_held_drew (S := fun w' => BoxN w' sbx [.int .i64 s.rows.toInt, .int .i64 (n : Int), .bool true, .bool true, .int .u8 (s.mn.kind.toNat : Int), .int .i64 s.mn.n.toInt, .string s.mn.s, .int .u8 (s.mx.kind.toNat : Int), .int .i64 s.mx.n.toInt, .string s.mx.s]) (by kernel_rfl) ?_ (fun hHeld => ?_)
                    · exact yD.bx
                    refine wpAnyH_take (i := 0) (v := ?_) rfl (by kernel_rfl) (by kernel_rfl) (by kernel_rfl) (fun _ _ _ h => h) (Or.inl ⟨by rfl, ?_⟩) hHeld ?_
                    rotate_left 1
                    · (intro w hSw; have q0 := hSw.cell 0 _ rfl; have q1 := hSw.cell 1 _ rfl; have q2 := hSw.cell 2 _ rfl; have q3 := hSw.cell 3 _ rfl; have q4 := hSw.cell 4 _ rfl; have q5 := hSw.cell 5 _ rfl; have q6 := hSw.cell 6 _ rfl; have q7 := hSw.cell 7 _ rfl; have q8 := hSw.cell 8 _ rfl; have q9 := hSw.cell 9 _ rfl; go_simp; first | done | with_reducible rfl)
                    (try simp only [Act.put, List.setIfInBounds_toArray, List.set_cons_zero, List.set_cons_succ])
                    refine wpAnyH_take (i := 2) (v := ?_) rfl (by kernel_rfl) (by kernel_rfl) (by kernel_rfl) (fun _ _ _ h => h) (Or.inl ⟨by rfl, ?_⟩) hHeld ?_
                    rotate_left 1
                    · (intro w hSw; have q0 := hSw.cell 0 _ rfl; have q1 := hSw.cell 1 _ rfl; have q2 := hSw.cell 2 _ rfl; have q3 := hSw.cell 3 _ rfl; have q4 := hSw.cell 4 _ rfl; have q5 := hSw.cell 5 _ rfl; have q6 := hSw.cell 6 _ rfl; have q7 := hSw.cell 7 _ rfl; have q8 := hSw.cell 8 _ rfl; have q9 := hSw.cell 9 _ rfl; go_simp; first | done | with_reducible rfl)
                    (try simp only [Act.put, List.setIfInBounds_toArray, List.set_cons_zero, List.set_cons_succ])
                    refine wpAnyH_take (i := 3) (v := ?_) rfl (by kernel_rfl) (by kernel_rfl) (by kernel_rfl) (fun _ _ _ h => h) (Or.inl ⟨by rfl, ?_⟩) hHeld ?_
                    rotate_left 1
                    · (intro w hSw; have q0 := hSw.cell 0 _ rfl; have q1 := hSw.cell 1 _ rfl; have q2 := hSw.cell 2 _ rfl; have q3 := hSw.cell 3 _ rfl; have q4 := hSw.cell 4 _ rfl; have q5 := hSw.cell 5 _ rfl; have q6 := hSw.cell 6 _ rfl; have q7 := hSw.cell 7 _ rfl; have q8 := hSw.cell 8 _ rfl; have q9 := hSw.cell 9 _ rfl; go_simp; first | done | with_reducible rfl)
                    (try simp only [Act.put, List.setIfInBounds_toArray, List.set_cons_zero, List.set_cons_succ])
                    refine wpAnyH_take (i := 4) (v := ?_) rfl (by kernel_rfl) (by kernel_rfl) (by kernel_rfl) (fun _ _ _ h => h) (Or.inl ⟨by rfl, ?_⟩) hHeld ?_
                    rotate_left 1
                    · (intro w hSw; have q0 := hSw.cell 0 _ rfl; have q1 := hSw.cell 1 _ rfl; have q2 := hSw.cell 2 _ rfl; have q3 := hSw.cell 3 _ rfl; have q4 := hSw.cell 4 _ rfl; have q5 := hSw.cell 5 _ rfl; have q6 := hSw.cell 6 _ rfl; have q7 := hSw.cell 7 _ rfl; have q8 := hSw.cell 8 _ rfl; have q9 := hSw.cell 9 _ rfl; go_simp; first | done | with_reducible rfl)
                    (try simp only [Act.put, List.setIfInBounds_toArray, List.set_cons_zero, List.set_cons_succ])
                    refine wpAnyH_take (i := 5) (v := ?_) rfl (by kernel_rfl) (by kernel_rfl) (by kernel_rfl) (fun _ _ _ h => h) (Or.inl ⟨by rfl, ?_⟩) hHeld ?_
                    rotate_left 1
                    · (intro w hSw; have q0 := hSw.cell 0 _ rfl; have q1 := hSw.cell 1 _ rfl; have q2 := hSw.cell 2 _ rfl; have q3 := hSw.cell 3 _ rfl; have q4 := hSw.cell 4 _ rfl; have q5 := hSw.cell 5 _ rfl; have q6 := hSw.cell 6 _ rfl; have q7 := hSw.cell 7 _ rfl; have q8 := hSw.cell 8 _ rfl; have q9 := hSw.cell 9 _ rfl; go_simp; first | done | with_reducible rfl)
                    (try simp only [Act.put, List.setIfInBounds_toArray, List.set_cons_zero, List.set_cons_succ])
                    refine wpAnyH_take (i := 7) (v := ?_) rfl (by kernel_rfl) (by kernel_rfl) (by kernel_rfl) (fun _ _ _ h => h) (Or.inl ⟨by rfl, ?_⟩) hHeld ?_
                    rotate_left 1
                    · (intro w hSw; have q0 := hSw.cell 0 _ rfl; have q1 := hSw.cell 1 _ rfl; have q2 := hSw.cell 2 _ rfl; have q3 := hSw.cell 3 _ rfl; have q4 := hSw.cell 4 _ rfl; have q5 := hSw.cell 5 _ rfl; have q6 := hSw.cell 6 _ rfl; have q7 := hSw.cell 7 _ rfl; have q8 := hSw.cell 8 _ rfl; have q9 := hSw.cell 9 _ rfl; go_simp; first | done | with_reducible rfl)
                    (try simp only [Act.put, List.setIfInBounds_toArray, List.set_cons_zero, List.set_cons_succ])
                    refine wpAnyH_take (i := 8) (v := ?_) rfl (by kernel_rfl) (by kernel_rfl) (by kernel_rfl) (fun _ _ _ h => h) (Or.inl ⟨by rfl, ?_⟩) hHeld ?_
                    rotate_left 1
                    · (intro w hSw; have q0 := hSw.cell 0 _ rfl; have q1 := hSw.cell 1 _ rfl; have q2 := hSw.cell 2 _ rfl; have q3 := hSw.cell 3 _ rfl; have q4 := hSw.cell 4 _ rfl; have q5 := hSw.cell 5 _ rfl; have q6 := hSw.cell 6 _ rfl; have q7 := hSw.cell 7 _ rfl; have q8 := hSw.cell 8 _ rfl; have q9 := hSw.cell 9 _ rfl; go_simp; first | done | with_reducible rfl)
                    (try simp only [Act.put, List.setIfInBounds_toArray, List.set_cons_zero, List.set_cons_succ])
                    refine wpAnyH_take (i := 10) (v := ?_) rfl (by kernel_rfl) (by kernel_rfl) (by kernel_rfl) (fun _ _ _ h => h) (Or.inl ⟨by rfl, ?_⟩) hHeld ?_
                    rotate_left 1
                    · (intro w hSw; have q0 := hSw.cell 0 _ rfl; have q1 := hSw.cell 1 _ rfl; have q2 := hSw.cell 2 _ rfl; have q3 := hSw.cell 3 _ rfl; have q4 := hSw.cell 4 _ rfl; have q5 := hSw.cell 5 _ rfl; have q6 := hSw.cell 6 _ rfl; have q7 := hSw.cell 7 _ rfl; have q8 := hSw.cell 8 _ rfl; have q9 := hSw.cell 9 _ rfl; go_simp; first | done | with_reducible rfl)
                    (try simp only [Act.put, List.setIfInBounds_toArray, List.set_cons_zero, List.set_cons_succ])
                    refine wpAnyH_take (i := 11) (v := ?_) rfl (by kernel_rfl) (by kernel_rfl) (by kernel_rfl) (fun _ _ _ h => h) (Or.inl ⟨by rfl, ?_⟩) hHeld ?_
                    rotate_left 1
                    · (intro w hSw; have q0 := hSw.cell 0 _ rfl; have q1 := hSw.cell 1 _ rfl; have q2 := hSw.cell 2 _ rfl; have q3 := hSw.cell 3 _ rfl; have q4 := hSw.cell 4 _ rfl; have q5 := hSw.cell 5 _ rfl; have q6 := hSw.cell 6 _ rfl; have q7 := hSw.cell 7 _ rfl; have q8 := hSw.cell 8 _ rfl; have q9 := hSw.cell 9 _ rfl; go_simp; first | done | with_reducible rfl)
                    (try simp only [Act.put, List.setIfInBounds_toArray, List.set_cons_zero, List.set_cons_succ])
                    refine wpAnyH_ready (rs := [1]) (by kernel_rfl) (by simp) ?_
                    refine AllReadyH.cons rfl (fun K hK => ?_) AllReadyH.nil
                    go_simp
                    go_at_call 24
                    refine (refNum13N wn.drew B ln _ 3 (by decide) oD hlewD (by omega)).mono ?_
                    rintro e wm ⟨vm, rfl, om, hz⟩
                    have zm := zD.trans hz
                    have ym := yD.bz hz (by decide)
                    have hlewm := Nat.le_trans hlewD hz.size
                    obtain ⟨lm, hlme⟩ : ∃ z, ln ++ Var.put 3 = z := ⟨_, rfl⟩
                    rw [hlme] at om
                    have hlm : lm.length ≤ 305200 := by rw [← hlme, List.length_append]; omega
                    have Hlm := hide hlme
                    clear hlme oD hz yD zD
                    refine hK.out _ _ (ym.bx) (fun hHeld => ?_)
                    clear hK K
                    (try simp only [Act.put, List.setIfInBounds_toArray, List.set_cons_zero, List.set_cons_succ])
                    refine wpAnyH_ready (rs := [6]) (by kernel_rfl) (by simp) ?_
                    refine AllReadyH.cons rfl (fun K hK => ?_) AllReadyH.nil
                    go_simp
                    go_at_call 24
                    refine (refNum13N wm B lm _ s.mn.kind.toNat hkb om hlewm (by omega)).mono ?_
                    rintro e wf ⟨vf, rfl, of, hz⟩
                    have zf := zm.trans hz
                    have yf := ym.bz hz (by decide)
                    have hlewf := Nat.le_trans hlewm hz.size
                    obtain ⟨lf, hlfe⟩ : ∃ z, lm ++ Var.put s.mn.kind.toNat = z := ⟨_, rfl⟩
                    rw [hlfe] at of
                    have hlf : lf.length ≤ 305300 := by rw [← hlfe, List.length_append]; omega
                    have Hlf := hide hlfe
                    clear hlfe om hz ym zm
                    refine hK.out _ _ (yf.bx) (fun hHeld => ?_)
                    clear hK K
                    (try simp only [Act.put, List.setIfInBounds_toArray, List.set_cons_zero, List.set_cons_succ])
                    refine wpAnyH_ready (rs := [9]) (by kernel_rfl) (by simp) ?_
                    refine AllReadyH.cons rfl (fun K hK => ?_) AllReadyH.nil
                    go_simp
                    go_at_call 26
                    refine (refCell13 wf B lf _ s.mn qa of hlewf (by omega)).mono ?_
                    rintro e wg ⟨vg, rfl, og, hz⟩
                    have zg := zf.trans hz
                    have yg := yf.bz hz (by decide)
                    have hlewg := Nat.le_trans hlewf hz.size
                    obtain ⟨lg, hlge⟩ : ∃ z, lf ++ cellB s.mn = z := ⟨_, rfl⟩
                    rw [hlge] at og
                    have hlg : lg.length ≤ 305500 := by rw [← hlge, List.length_append]; omega
                    have Hlg := hide hlge
                    clear hlge of hz yf zf
                    refine hK.out _ _ (yg.bx) (fun hHeld => ?_)
                    clear hK K
                    (try simp only [Act.put, List.setIfInBounds_toArray, List.set_cons_zero, List.set_cons_succ])
                    refine wpAnyH_ready (rs := [12]) (by kernel_rfl) (by simp) ?_
                    refine AllReadyH.cons rfl (fun K hK => ?_) AllReadyH.nil
                    go_simp
                    go_at_call 26
                    refine (refCell13 wg B lg _ s.mx qc og hlewg (by omega)).mono ?_
                    rintro e wh ⟨vh, rfl, oh, hz⟩
                    have zh := zg.trans hz
                    have yh := yg.bz hz (by decide)
                    have hlewh := Nat.le_trans hlewg hz.size
                    obtain ⟨lh, hlhe⟩ : ∃ z, lg ++ cellB s.mx = z := ⟨_, rfl⟩
                    rw [hlhe] at oh
                    have hlh : lh.length ≤ 305700 := by rw [← hlhe, List.length_append]; omega
                    have Hlh := hide hlhe
                    clear hlhe og hz yg zg
                    refine hK.out _ _ (yh.bx) (fun hHeld => ?_)
                    clear hK K
                    (try simp only [Act.put, List.setIfInBounds_toArray, List.set_cons_zero, List.set_cons_succ])
                    refine wpAnyH_take (i := 13) (v := ?_) rfl (by kernel_rfl) (by kernel_rfl) (by kernel_rfl) (fun _ _ _ h => h) (Or.inl ⟨by rfl, ?_⟩) hHeld ?_
                    rotate_left 1
                    · (intro w hSw; go_simp; first | done | with_reducible rfl)
                    (try simp only [Act.put, List.setIfInBounds_toArray, List.set_cons_zero, List.set_cons_succ])
                    refine wpAnyH_done (by kernel_rfl) ?_ _
                    go_wp2_with fail
                    go_roundw
                    case rel => exact ⟨_, j + 1, lh, rfl, by go_num, hjl, oh, hide (by rw [HNXS.out, if_neg (by decide), if_pos rfl, ← Hlh.out, ← Hlg.out, ← Hlf.out, ← Hlm.out, ← Hln.out, hrq.out]; simp only [List.append_assoc]), zh⟩
                    case measure => simp [intOf]; omega
                  | false =>
                    clear q4 qb
                    have hdr := (Below.refl wn.heap.size wn).drew
                    have yD := yn.keep hdr
                    have oD := on.keep hdr
                    have zD := zn.trans (Bz.of hdr)
                    have hlewD : B ≤ wn.drew.heap.size := hlewn
                    clear yn on zn hdr
                    go_upto_region 29 with fail
                    clear u2 u3
                    refine wp_region_held_drew (S := fun w' => BoxN w' sbx [.int .i64 s.rows.toInt, .int .i64 (n : Int), .bool true, .bool false, .int .u8 (s.mn.kind.toNat : Int), .int .i64 s.mn.n.toInt, .string s.mn.s, .int .u8 (s.mx.kind.toNat : Int), .int .i64 s.mx.n.toInt, .string s.mx.s]) (by kernel_rfl) ?_ (fun hHeld => ?_)
                    · exact yD.bx
                    refine wpAnyH_take (i := 0) (v := ?_) rfl (by kernel_rfl) (by kernel_rfl) (by kernel_rfl) (fun _ _ _ h => h) (Or.inl ⟨by rfl, ?_⟩) hHeld ?_
                    rotate_left 1
                    · (intro w hSw; have q0 := hSw.cell 0 _ rfl; have q1 := hSw.cell 1 _ rfl; have q2 := hSw.cell 2 _ rfl; have q3 := hSw.cell 3 _ rfl; have q4 := hSw.cell 4 _ rfl; have q5 := hSw.cell 5 _ rfl; have q6 := hSw.cell 6 _ rfl; have q7 := hSw.cell 7 _ rfl; have q8 := hSw.cell 8 _ rfl; have q9 := hSw.cell 9 _ rfl; go_simp; first | done | with_reducible rfl)
                    (try simp only [Act.put, List.setIfInBounds_toArray, List.set_cons_zero, List.set_cons_succ])
                    refine wpAnyH_take (i := 2) (v := ?_) rfl (by kernel_rfl) (by kernel_rfl) (by kernel_rfl) (fun _ _ _ h => h) (Or.inl ⟨by rfl, ?_⟩) hHeld ?_
                    rotate_left 1
                    · (intro w hSw; have q0 := hSw.cell 0 _ rfl; have q1 := hSw.cell 1 _ rfl; have q2 := hSw.cell 2 _ rfl; have q3 := hSw.cell 3 _ rfl; have q4 := hSw.cell 4 _ rfl; have q5 := hSw.cell 5 _ rfl; have q6 := hSw.cell 6 _ rfl; have q7 := hSw.cell 7 _ rfl; have q8 := hSw.cell 8 _ rfl; have q9 := hSw.cell 9 _ rfl; go_simp; first | done | with_reducible rfl)
                    (try simp only [Act.put, List.setIfInBounds_toArray, List.set_cons_zero, List.set_cons_succ])
                    refine wpAnyH_take (i := 3) (v := ?_) rfl (by kernel_rfl) (by kernel_rfl) (by kernel_rfl) (fun _ _ _ h => h) (Or.inl ⟨by rfl, ?_⟩) hHeld ?_
                    rotate_left 1
                    · (intro w hSw; have q0 := hSw.cell 0 _ rfl; have q1 := hSw.cell 1 _ rfl; have q2 := hSw.cell 2 _ rfl; have q3 := hSw.cell 3 _ rfl; have q4 := hSw.cell 4 _ rfl; have q5 := hSw.cell 5 _ rfl; have q6 := hSw.cell 6 _ rfl; have q7 := hSw.cell 7 _ rfl; have q8 := hSw.cell 8 _ rfl; have q9 := hSw.cell 9 _ rfl; go_simp; first | done | with_reducible rfl)
                    (try simp only [Act.put, List.setIfInBounds_toArray, List.set_cons_zero, List.set_cons_succ])
                    refine wpAnyH_take (i := 4) (v := ?_) rfl (by kernel_rfl) (by kernel_rfl) (by kernel_rfl) (fun _ _ _ h => h) (Or.inl ⟨by rfl, ?_⟩) hHeld ?_
                    rotate_left 1
                    · (intro w hSw; have q0 := hSw.cell 0 _ rfl; have q1 := hSw.cell 1 _ rfl; have q2 := hSw.cell 2 _ rfl; have q3 := hSw.cell 3 _ rfl; have q4 := hSw.cell 4 _ rfl; have q5 := hSw.cell 5 _ rfl; have q6 := hSw.cell 6 _ rfl; have q7 := hSw.cell 7 _ rfl; have q8 := hSw.cell 8 _ rfl; have q9 := hSw.cell 9 _ rfl; go_simp; first | done | with_reducible rfl)
                    (try simp only [Act.put, List.setIfInBounds_toArray, List.set_cons_zero, List.set_cons_succ])
                    refine wpAnyH_take (i := 5) (v := ?_) rfl (by kernel_rfl) (by kernel_rfl) (by kernel_rfl) (fun _ _ _ h => h) (Or.inl ⟨by rfl, ?_⟩) hHeld ?_
                    rotate_left 1
                    · (intro w hSw; have q0 := hSw.cell 0 _ rfl; have q1 := hSw.cell 1 _ rfl; have q2 := hSw.cell 2 _ rfl; have q3 := hSw.cell 3 _ rfl; have q4 := hSw.cell 4 _ rfl; have q5 := hSw.cell 5 _ rfl; have q6 := hSw.cell 6 _ rfl; have q7 := hSw.cell 7 _ rfl; have q8 := hSw.cell 8 _ rfl; have q9 := hSw.cell 9 _ rfl; go_simp; first | done | with_reducible rfl)
                    (try simp only [Act.put, List.setIfInBounds_toArray, List.set_cons_zero, List.set_cons_succ])
                    refine wpAnyH_take (i := 7) (v := ?_) rfl (by kernel_rfl) (by kernel_rfl) (by kernel_rfl) (fun _ _ _ h => h) (Or.inl ⟨by rfl, ?_⟩) hHeld ?_
                    rotate_left 1
                    · (intro w hSw; have q0 := hSw.cell 0 _ rfl; have q1 := hSw.cell 1 _ rfl; have q2 := hSw.cell 2 _ rfl; have q3 := hSw.cell 3 _ rfl; have q4 := hSw.cell 4 _ rfl; have q5 := hSw.cell 5 _ rfl; have q6 := hSw.cell 6 _ rfl; have q7 := hSw.cell 7 _ rfl; have q8 := hSw.cell 8 _ rfl; have q9 := hSw.cell 9 _ rfl; go_simp; first | done | with_reducible rfl)
                    (try simp only [Act.put, List.setIfInBounds_toArray, List.set_cons_zero, List.set_cons_succ])
                    refine wpAnyH_take (i := 8) (v := ?_) rfl (by kernel_rfl) (by kernel_rfl) (by kernel_rfl) (fun _ _ _ h => h) (Or.inl ⟨by rfl, ?_⟩) hHeld ?_
                    rotate_left 1
                    · (intro w hSw; have q0 := hSw.cell 0 _ rfl; have q1 := hSw.cell 1 _ rfl; have q2 := hSw.cell 2 _ rfl; have q3 := hSw.cell 3 _ rfl; have q4 := hSw.cell 4 _ rfl; have q5 := hSw.cell 5 _ rfl; have q6 := hSw.cell 6 _ rfl; have q7 := hSw.cell 7 _ rfl; have q8 := hSw.cell 8 _ rfl; have q9 := hSw.cell 9 _ rfl; go_simp; first | done | with_reducible rfl)
                    (try simp only [Act.put, List.setIfInBounds_toArray, List.set_cons_zero, List.set_cons_succ])
                    refine wpAnyH_ready (rs := [1]) (by kernel_rfl) (by simp) ?_
                    refine AllReadyH.cons rfl (fun K hK => ?_) AllReadyH.nil
                    go_simp
                    go_at_call 24
                    refine (refNum13N wn.drew B ln _ 1 (by decide) oD hlewD (by omega)).mono ?_
                    rintro e wm ⟨vm, rfl, om, hz⟩
                    have zm := zD.trans hz
                    have ym := yD.bz hz (by decide)
                    have hlewm := Nat.le_trans hlewD hz.size
                    obtain ⟨lm, hlme⟩ : ∃ z, ln ++ Var.put 1 = z := ⟨_, rfl⟩
                    rw [hlme] at om
                    have hlm : lm.length ≤ 305200 := by rw [← hlme, List.length_append]; omega
                    have Hlm := hide hlme
                    clear hlme oD hz yD zD
                    refine hK.out _ _ (ym.bx) (fun hHeld => ?_)
                    clear hK K
                    (try simp only [Act.put, List.setIfInBounds_toArray, List.set_cons_zero, List.set_cons_succ])
                    refine wpAnyH_ready (rs := [6]) (by kernel_rfl) (by simp) ?_
                    refine AllReadyH.cons rfl (fun K hK => ?_) AllReadyH.nil
                    go_simp
                    go_at_call 24
                    refine (refNum13N wm B lm _ s.mn.kind.toNat hkb om hlewm (by omega)).mono ?_
                    rintro e wf ⟨vf, rfl, of, hz⟩
                    have zf := zm.trans hz
                    have yf := ym.bz hz (by decide)
                    have hlewf := Nat.le_trans hlewm hz.size
                    obtain ⟨lf, hlfe⟩ : ∃ z, lm ++ Var.put s.mn.kind.toNat = z := ⟨_, rfl⟩
                    rw [hlfe] at of
                    have hlf : lf.length ≤ 305300 := by rw [← hlfe, List.length_append]; omega
                    have Hlf := hide hlfe
                    clear hlfe om hz ym zm
                    refine hK.out _ _ (yf.bx) (fun hHeld => ?_)
                    clear hK K
                    (try simp only [Act.put, List.setIfInBounds_toArray, List.set_cons_zero, List.set_cons_succ])
                    refine wpAnyH_ready (rs := [9]) (by kernel_rfl) (by simp) ?_
                    refine AllReadyH.cons rfl (fun K hK => ?_) AllReadyH.nil
                    go_simp
                    go_at_call 26
                    refine (refCell13 wf B lf _ s.mn qa of hlewf (by omega)).mono ?_
                    rintro e wg ⟨vg, rfl, og, hz⟩
                    have zg := zf.trans hz
                    have yg := yf.bz hz (by decide)
                    have hlewg := Nat.le_trans hlewf hz.size
                    obtain ⟨lg, hlge⟩ : ∃ z, lf ++ cellB s.mn = z := ⟨_, rfl⟩
                    rw [hlge] at og
                    have hlg : lg.length ≤ 305500 := by rw [← hlge, List.length_append]; omega
                    have Hlg := hide hlge
                    clear hlge of hz yf zf
                    refine hK.out _ _ (yg.bx) (fun hHeld => ?_)
                    clear hK K
                    (try simp only [Act.put, List.setIfInBounds_toArray, List.set_cons_zero, List.set_cons_succ])
                    refine wpAnyH_take (i := 10) (v := ?_) rfl (by kernel_rfl) (by kernel_rfl) (by kernel_rfl) (fun _ _ _ h => h) (Or.inl ⟨by rfl, ?_⟩) hHeld ?_
                    rotate_left 1
                    · (intro w hSw; go_simp; first | done | with_reducible rfl)
                    (try simp only [Act.put, List.setIfInBounds_toArray, List.set_cons_zero, List.set_cons_succ])
                    refine wpAnyH_done (by kernel_rfl) ?_ _
                    go_wp2_with fail
                    go_roundw
                    case rel => exact ⟨_, j + 1, lg, rfl, by go_num, hjl, og, hide (by rw [HNXS.out, if_neg (by decide), if_neg (by decide), ← Hlg.out, ← Hlf.out, ← Hlm.out, ← Hln.out, hrq.out]; simp only [List.append_assoc]), zg⟩
                    case measure => simp [intOf]; omega
              · have HR9 : Hid (r = p0 ++ entsB (ls.take (k + 1))) := hide (by
                  have e9 : sts.take j = sts := List.take_of_length_le (by omega)
                  rw [HNX.out, HE.out, hrq.out, e9, ← Hle.out, ← Hlb.out, ← Hla.out, ← Hl9.out, ← Hl8.out, ← Hl7.out, hq.out]
                  simp only [List.append_assoc])
                have hbrE := HR6.out.trans ((ze.trans hz).below hle6)
                clear yr hinE
                go_wp2_with fail
                go_roundw
                case rel => exact ⟨_, k + 1, r, rfl, by go_num, hlt, HGOOD, ob, HR9, hbrE⟩
                case measure => simp [intOf]; omega
    · have hkk : k = ls.length := by omega
      have HALL : Hid (allE [] ls = true) := hide (allE_good fun j hj => by rw [List.nil_append]; exact hgood.out j (by omega))
      have HQ : Hid (q = wrE ls) := hide (by
        rw [hq.out, hkk, List.take_length, ← HP0.out, ← hlen]
        rfl)
      obtain ⟨bA, bc, rfl⟩ := own_slice ob
      have hrb := rd_own ob
      have hwl := wrE_le (allE_has HALL.out) (by omega)
      have hql : q.length ≤ 1000000 := by omega
      clear hkk
      go_wp2_with fail
      rw [HB.out] at hbr
      refine (refSeal wr wr.heap.size q.length bc bA q hrb (Nat.le_refl _) hql).mono ?_
      rintro e w9 ⟨v9, rfl, hown9, hb9⟩
      go_wp2_with fail
      go_ret2
      refine ⟨below_call hbr hbr.size hb9, .inl ⟨errE_ok (by omega) HALL.out, v9, rfl, ?_⟩⟩
      unfold wrES
      rw [← HQ.out]
      exact own_base hown9 hbr.size
theorem refWrite13 (w : World) (A : Option Addr) (c : Nat) (l : List El) (hr : EnR w w.heap.size A c l) (hms : ∀ x ∈ l, x.p.name.size ≤ 9223372036854775807) : Calls Tryd.prog 11 #[.slice A l.length c] w (WrEndE w (l.map El.p)) := refWrite13L w A c l _ rfl hr hms
end Go.Proofs.YtbcnekaagkdmeaaDoor
