/- THE WALK of entry.Write. No statement of the seat is proved here; no condition but the table of sums. -/
import Derived.Test.YtbcnekaagkdmeaaDoorEnWF
import Derived.Lib.SlBytesConst
import Derived.Maps.Own
namespace Go.Proofs.YtbcnekaagkdmeaaDoor
open Go.RowKit

/-- what writing ends with -/
def WrEndE (w : World) (l : List En) (e : Ending) (w' : World) : Prop :=
  Below w.heap.size w w' ∧ ((errE l = 0 ∧ ∃ v, e = .returned (.tuple #[v, .int .i64 0]) ∧ w'.ownsRow w.heap.size 5 1 v (wrES l).length (bytesV (wrES l))) ∨
    (errE l ≠ 0 ∧ e = .returned (.tuple #[.slice none 0 0, .int .i64 (errE l : Int)])))
theorem errE_long {l : List En} (h : 64 < l.length) : errE l = 4 := by unfold errE; rw [if_pos h]
theorem errE_bad {l : List En} (h : ¬ 64 < l.length) (h2 : allE [] l = false) : errE l = 1 := by unfold errE; rw [if_neg h, if_neg (by rw [h2]; decide)]
theorem errE_ok {l : List En} (h : ¬ 64 < l.length) (h2 : allE [] l = true) : errE l = 0 := by unfold errE; rw [if_neg h, if_pos h2]
theorem map_get (l : List El) (k : Nat) : (l.map El.p).getD k default = (l.getD k default).p := by
  rw [List.getD_eq_getElem?_getD, List.getD_eq_getElem?_getD, List.getElem?_map]
  cases l[k]? <;> rfl
set_option maxRecDepth 100000 in
set_option maxHeartbeats 4000000 in
theorem entWriteL (w : World) (A : Option Addr) (c : Nat) (l : List El) (ls : List En) (hls : ls = l.map El.p) (hr : EnR w w.heap.size A c l) (ht : Table w) : Calls Tryd.prog 10 #[.slice A l.length c] w (WrEndE w ls) := by
  have HT := hide ht
  have hpos := ht.pos
  clear ht
  by_cases h64 : 64 < l.length
  · have t1 : decide ((64 : Int) < (l.length : Int)) = true := decide_eq_true (by omega)
    have he := errE_long (l := ls) (by simpa [hls] using h64)
    clear h64
    go_enter Tryd.func10, Tryd.ntmps10
    go_wp2_with fail
    go_ret2
    exact ⟨Below.refl _ _, .inr ⟨by rw [he]; decide, by rw [he]; rfl⟩⟩
  have t1 : decide ((64 : Int) < (l.length : Int)) = false := decide_eq_false (by omega)
  have hl64 : l.length ≤ 64 := by omega
  have H64 := hide h64
  clear h64
  have hmm := @run_makeMap Tryd.prog
  have kc := Lib.run_convert_bytes_const (P := Tryd.prog) w 25 5 #[.int .u8 77, .int .u8 70, .int .u8 49] 3 3 Tryd.underlying25 Tryd.underlying5
  have e33 : IntKind.u64.wrap (l.length : Int) = (l.length : Int) := by rw [IntKind.wrap_u64]; omega
  have e34 : (l.length : Int) % 18446744073709551616 = (l.length : Int) := by omega
  have hb1 := (Below.refl w.heap.size w).alloc (Nat.le_refl _) (.cells #[.int .u8 77, .int .u8 70, .int .u8 49] 5 (3, 4))
  have hl1 : ∀ j u, (bytesV mf1)[j]? = some u → (w.alloc (.cells #[.int .u8 77, .int .u8 70, .int .u8 49] 5 (3, 4))).cell? ⟨w.heap.size, j, none⟩ = some u := fun j u hj => by
    have e : (#[Value.int .u8 77, .int .u8 70, .int .u8 49] : Array Value).toList = bytesV mf1 := rfl
    rw [World.cell?_alloc_mark, ← Array.getElem?_toList, e]
    exact hj
  have zz1 : w.heap.size < (w.alloc (.cells #[.int .u8 77, .int .u8 70, .int .u8 49] 5 (3, 4))).heap.size := by simp
  go_enter Tryd.func10, Tryd.ntmps10
  go_wp2_with fail
  have eb : (w.alloc (.cells #[.int .u8 77, .int .u8 70, .int .u8 49] 5 (3, 4))).heap.size = w.heap.size + 1 := by simp
  generalize w.alloc (.cells #[.int .u8 77, .int .u8 70, .int .u8 49] 5 (3, 4)) = w1 at *
  have x2 := boxT_new w1 #[.slice (some ⟨w.heap.size, 0, none⟩) 3 3] 56
  have hb2 := hb1.alloc (Nat.le_of_lt zz1) (.cells #[.slice (some ⟨w.heap.size, 0, none⟩) 3 3] 56)
  have hb12 := (Below.refl w1.heap.size w1).alloc (Nat.le_refl _) (.cells #[.slice (some ⟨w.heap.size, 0, none⟩) 3 3] 56)
  rw [eb] at x2
  have hG : WG (w1.alloc (.cells #[.slice (some ⟨w.heap.size, 0, none⟩) 3 3] 56)) (w.heap.size + 1) w.heap.size w.heap.size mf1 := ⟨x2, by simp; omega, fun j u hj => (hb12.cell (p := ⟨w.heap.size, j, none⟩) zz1).trans (hl1 j u hj), by simp; omega⟩
  generalize w1.alloc (.cells #[.slice (some ⟨w.heap.size, 0, none⟩) 3 3] 56) = w2 at *
  obtain ⟨B, hB⟩ : ∃ B, B = w.heap.size := ⟨_, rfl⟩
  rw [← hB] at hG hb2 hr ⊢
  have HB := hide hB
  clear kc x2 hb12 hl1 zz1 eb hb1 hB
  clear w1
  refine (entWNumF w2 (B + 1) B B mf1 hG l.length (by omega) (by decide)).mono ?_
  rintro e w3 ⟨rfl, ⟨A3, c3, h3⟩, hz3⟩
  have hle2 := hG.le
  have hb3 : Below B w w3 := hb2.trans (hz3.below (by omega) (Nat.le_refl _) hle2)
  have hM4 := met_new w3
  have hb34 := (Below.refl w3.heap.size w3).alloc (Nat.le_refl _) (.map #[] 0)
  have h4 := h3.keep hb34
  have hb4 : Below B w (w3.alloc (.map #[] 0)) := hb3.alloc h3.le (.map #[] 0)
  have hmz : B + 1 < w3.heap.size := h3.z
  clear hG hz3 hle2 hb2 h3 hb3 hb34
  go_wp2_with fail
  generalize w3.alloc (.map #[] 0) = w4 at *
  generalize w3.heap.size = mb at *
  have hlen : ls.length = l.length := by rw [hls, List.length_map]
  have hget : ∀ k, ls.getD k default = (l.getD k default).p := fun k => by rw [hls]; exact map_get l k
  clear hls
  obtain ⟨p0, hp0⟩ : ∃ p0, mf1 ++ Var.put l.length = p0 := ⟨_, rfl⟩
  have hp0l : p0.length ≤ 13 := by
    have := Var.put_le10 (n := l.length) (by omega)
    have e3 : mf1.length = 3 := rfl
    rw [← hp0, List.length_append]
    omega
  rw [hp0] at h4
  have HP0 := hide hp0
  clear hp0
  go_loopw [23] (fun iv wr => ∃ (k : Nat) (Ak : Option Addr) (ck : Nat), iv = .int .i64 (k : Int) ∧ k ≤ l.length ∧ Hid (∀ j, j < k → rightE (ls.getD j default) = true ∧ (ls.getD j default).name ∉ (ls.take j).map En.name) ∧ WB wr (B + 1) B Ak ck (p0 ++ entsB (ls.take k)) ∧ Met wr mb ((ls.take k).map En.name) ∧ Below B w wr) (fun iv _ => l.length - (intOf iv).toNat)
  case atStart => exact ⟨0, A3, c3, rfl, Nat.zero_le _, hide (fun j hj => by omega), by simpa [entsB] using h4, by simpa using hM4, hb4⟩
  case round =>
    clear h4 hM4 hb4
    obtain ⟨k, Ak, ck, rfl, hk, hgood, hW, hM, hbr⟩ := hrel
    by_cases hlt : k < l.length
    · obtain ⟨gb, off, hA, hgb, hcells⟩ := (hr.below hbr).row.elA hlt
      have hin := (hr.below hbr).ins (l.getD k default) (getD_mem hlt)
      have hgk := hget k
      obtain ⟨x, hx⟩ : ∃ x, l.getD k default = x := ⟨_, rfl⟩
      obtain ⟨f0, f1, f2, f3, f4, f5⟩ := hcells x hx
      rw [hx] at hin hgk
      have hnx : entsB (ls.take (k + 1)) = entsB (ls.take k) ++ entB x.p := by rw [← hgk]; exact flat_next (by omega)
      have hnm : (ls.take (k + 1)).map En.name = (ls.take k).map En.name ++ [x.p.name] := by
        rw [List.take_add_one, List.map_append, ← hgk]
        have : ls[k]? = some (ls.getD k default) := by rw [List.getD_eq_getElem?_getD, List.getElem?_eq_getElem (by omega)]; rfl
        rw [this]
        rfl
      have HGK := hide hgk
      have HNX := hide hnx
      have HNM := hide hnm
      have hxl : x.p.stats.length ≤ x.p.stats.length := Nat.le_refl _
      have hleB : B ≤ wr.heap.size := hW.le
      have y := boxN_new wr #[.string x.p.name, .bool x.p.keys, .int .u64 (x.p.seq.toNat : Int), .int .i64 x.p.rows.toInt, .int .u32 (x.p.sch.toNat : Int), .slice x.A x.p.stats.length x.c] 36
      have hbA := (Below.refl wr.heap.size wr).alloc (Nat.le_refl _) (.cells #[.string x.p.name, .bool x.p.keys, .int .u64 (x.p.seq.toNat : Int), .int .i64 x.p.rows.toInt, .int .u32 (x.p.sch.toNat : Int), .slice x.A x.p.stats.length x.c] 36)
      have hWA := hW.keep hbA
      have hMA := hM.keep hbA
      have hleA := Nat.le_trans hleB hbA.size
      have hbrA := hbr.trans (hbA.mono hleB)
      have hinA := hin.below (hbA.mono hleB)
      have hyne : wr.heap.size ≠ mb := by have := hM.lt; omega
      have hyb : wr.heap.size ≠ B + 1 := by have := hW.z; omega
      have u0 := y.cell 0 _ rfl
      have u1 := y.cell 1 _ rfl
      have u2 := y.cell 2 _ rfl
      have u3 := y.cell 3 _ rfl
      have u4 := y.cell 4 _ rfl
      have u5 := y.cell 5 _ rfl
      have HA := hide hA
      clear hcells hx hgk hnx hnm hin hW hM hbr hxl
      rw [hA]
      clear hA
      go_upto_region 9 with fail
      generalize wr.alloc (.cells #[.string x.p.name, .bool x.p.keys, .int .u64 (x.p.seq.toNat : Int), .int .i64 x.p.rows.toInt, .int .u32 (x.p.sch.toNat : Int), .slice x.A x.p.stats.length x.c] 36) = wA at *
      generalize wr.heap.size = yb at *
      clear f0 f1 f2 f3 f4 f5
      go_wp2_with fail
      refine (entRight wA x.p x.A x.c (hinA.more (hleA))).mono ?_
      rintro e w5 ⟨rfl, hb5⟩
      have hW5 := hWA.keep hb5
      have hM5 := hMA.keep hb5
      have y5 := y.keep hb5 y.z
      have hbr5 := below_call hbrA (hleA) hb5
      have hin5 := hinA.below (hb5.mono (hleA))
      have u0 := y5.cell 0 _ rfl
      have u1 := y5.cell 1 _ rfl
      have u2 := y5.cell 2 _ rfl
      have u3 := y5.cell 3 _ rfl
      have u4 := y5.cell 4 _ rfl
      have u5 := y5.cell 5 _ rfl
      clear hWA hMA y hbrA hinA hb5 hbA
      cases hrt : rightE x.p with
      | false =>
        have hbad := allE_bad (met := []) (l := ls) (k := k) (by omega) (.inl (by rw [HGK.out]; exact hrt))
        have HBAD := hide hbad
        clear hrt hbad
        go_wp2_with fail
        go_ret2
        rw [HB.out] at hbr5
        have h9 := errE_bad (l := ls) (by omega) HBAD.out
        exact ⟨hbr5, .inr ⟨by rw [h9]; decide, by rw [h9]; rfl⟩⟩
      | true =>
        have hp24 := path_le (right_hasE hrt).1
        have HRT := hide hrt
        have hlook := hM5.look x.p.name (by unfold maxLen; omega)
        clear hrt
        cases hh : hasNm ((ls.take k).map En.name) x.p.name with
        | true =>
          rw [hh] at hlook
          have hbad := allE_bad (met := []) (l := ls) (k := k) (by omega) (.inr (by rw [HGK.out, List.nil_append]; exact hasNm_iff.1 hh))
          have HBAD := hide hbad
          clear hh hbad
          go_wp2_with fail
          go_ret2
          rw [HB.out] at hbr5
          have h9 := errE_bad (l := ls) (by omega) HBAD.out
          exact ⟨hbr5, .inr ⟨by rw [h9]; decide, by rw [h9]; rfl⟩⟩
        | false =>
          rw [hh] at hlook
          have HH := hide hh
          clear hh
          obtain ⟨w6, hput, hM6, hg6⟩ := hM5.put x.p.name (by unfold maxLen; omega) (by rw [List.length_map, List.length_take]; unfold maxLen; omega)
          obtain ⟨mes, mcl, hmb⟩ := hM5.isMap
          have y6 := y5.map hg6 hyne
          have hW6 := hW5.map hmb hg6
          have hbr6 := hbr5.trans (below_map (B := B) hg6 (by omega) hW5.le)
          have hin6 := hin5.below (below_map (B := B) hg6 (by omega) hW5.le)
          go_upto_region 12 with fail
          have u0 := y6.cell 0 _ rfl
          have u1 := y6.cell 1 _ rfl
          have u2 := y6.cell 2 _ rfl
          have u3 := y6.cell 3 _ rfl
          have u4 := y6.cell 4 _ rfl
          have u5 := y6.cell 5 _ rfl
          clear hput hlook hmb hg6 hM5 y5 y6 hW5 hbr5 hin5
          have hlk : (p0 ++ entsB (ls.take k)).length ≤ 300000 := by
            have h1 : (entsB (ls.take k)).length ≤ (ls.take k).length * 1550 := flat_le fun z hz => by
              obtain ⟨j, hj, rfl⟩ := List.getElem_of_mem hz
              rw [List.length_take] at hj
              have := hgood.out j (by omega)
              rw [List.getElem_take, ← getD_at _ _ (by omega)]
              exact entB_le this.1
            have h2 : (ls.take k).length * 1550 ≤ 64 * 1550 := Nat.mul_le_mul_right _ (by rw [List.length_take]; omega)
            rw [List.length_append]
            omega
          go_wp2_with fail
          refine (entWEntry w6 (B + 1) B Ak ck _ hW6 (by omega) x.p HRT.out x.A x.c hin6 hlk).mono ?_
          rintro e w7 ⟨rfl, ⟨A7, c7, h7⟩, hz⟩
          have hM7 := hM6.wz hz (by omega)
          have hb7 := hbr6.trans (hz.below (by omega) (Nat.le_refl _) hW6.le)
          rw [List.append_assoc, ← HNX.out] at h7
          rw [← HNM.out] at hM7
          clear hW6 hz hM6 hbr6 hin6 u0 u1 u2 u3 u4 u5
          go_wp2_with fail
          go_roundw
          case rel =>
            refine ⟨k + 1, A7, c7, by go_num, hlt, hide fun j hj => ?_, h7, hM7, hb7⟩
            rcases Nat.lt_or_ge j k with hjk | hjk
            · exact hgood.out j hjk
            · obtain rfl : j = k := by omega
              rw [HGK.out]
              exact ⟨HRT.out, fun q => by rw [hasNm_iff.2 q] at HH; cases HH.out⟩
          case measure => simp [intOf]; omega
    · have hkk : k = ls.length := by omega
      have HALL : Hid (allE [] ls = true) := hide (allE_good fun j hj => by rw [List.nil_append]; exact hgood.out j (by omega))
      have HW : Hid (WB wr (B + 1) B Ak ck (wrE ls)) := hide (by
        rw [hkk, List.take_length, ← HP0.out, ← hlen] at hW
        exact hW)
      have c0 := HW.out.c0
      have hrb := rd_own HW.out.own
      have hwl := wrE_le (allE_has HALL.out) (by omega)
      clear hW hM hkk
      go_wp2_with fail
      rw [HB.out] at hbr
      refine (crcSeal wr _ _ Ak _ hrb (HT.out.below hbr hpos) (by omega)).mono ?_
      rintro e w9 ⟨v9, rfl, hown9, hb9⟩
      go_wp2_with fail
      go_ret2
      exact ⟨below_call hbr hbr.size hb9, .inl ⟨errE_ok (by omega) HALL.out, v9, rfl, own_base hown9 hbr.size⟩⟩
theorem entWrite (w : World) (A : Option Addr) (c : Nat) (l : List El) (hr : EnR w w.heap.size A c l) (ht : Table w) : Calls Tryd.prog 10 #[.slice A l.length c] w (WrEndE w (l.map El.p)) := entWriteL w A c l _ rfl hr ht
end Go.Proofs.YtbcnekaagkdmeaaDoor
