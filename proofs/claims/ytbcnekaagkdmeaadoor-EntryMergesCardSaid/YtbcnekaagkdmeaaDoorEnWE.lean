/- THE WALK of entry's writer.entry. No statement of the seat is proved here; no condition but sizes. -/
import Derived.Test.YtbcnekaagkdmeaaDoorEnW
import Derived.Test.YtbcnekaagkdmeaaDoorEnC
namespace Go.Proofs.YtbcnekaagkdmeaaDoor
open Go.RowKit

theorem Rd.wz {w w' : World} {B b sz n c : Nat} {A : Option Addr} {xs : List Value} (h : Rd w B sz A n c xs) (hz : Wz b B w w') (hb : B ≤ b) (hle : B ≤ w.heap.size) : Rd w' B sz A n c xs := h.below (hz.below hb (Nat.le_refl _) hle)
set_option maxRecDepth 100000 in
set_option maxHeartbeats 4000000 in
theorem entWEntry (w : World) (b B : Nat) (A : Option Addr) (c : Nat) (l : List UInt8) (h : WB w b B A c l) (hbB : B ≤ b) (x : En) (hx : rightE x = true) (SA : Option Addr) (sc : Nat) (hr : Rd w B 10 SA x.stats.length sc (stsV x.stats)) (hl : l.length ≤ 300000) :
    Calls Tryd.prog 22 #[.pointer (some ⟨b, 0, none⟩), .agg #[.string x.name, .bool x.keys, .int .u64 (x.seq.toNat : Int), .int .i64 x.rows.toInt, .int .u32 (x.sch.toNat : Int), .slice SA x.stats.length sc]] w (WEnd w b B (l ++ entB x)) := by
  obtain ⟨g1, g2, g3, g4, g5, g6, g7⟩ := right_hasE hx
  have gp := path_le g1
  obtain ⟨rw, hrw⟩ : ∃ n : Nat, x.rows.toInt = (n : Int) := ⟨x.rows.toInt.toNat, by omega⟩
  have hE : entB x = tx x.name ++ (Var.put (flagN x.keys) ++ (Var.put x.seq.toNat ++ (Var.put rw ++ (Var.put x.sch.toNat ++ (Var.put x.stats.length ++ statsB x.stats))))) := by unfold entB; rw [hrw, Int.toNat_natCast]
  obtain ⟨kb, hkb⟩ : ∃ kb, x.keys = kb := ⟨_, rfl⟩
  rw [hE, hrw, hkb]
  have e33 : IntKind.u64.wrap (rw : Int) = (rw : Int) := by rw [IntKind.wrap_u64]; omega
  have e34 : (rw : Int) % 18446744073709551616 = (rw : Int) := by omega
  have hs32 := x.sch.toNat_lt
  have hs64 := x.seq.toNat_lt
  have e35 : IntKind.u64.wrap (x.sch.toNat : Int) = (x.sch.toNat : Int) := by rw [IntKind.wrap_u64]; omega
  have e36 : (x.sch.toNat : Int) % 18446744073709551616 = (x.sch.toNat : Int) := by omega
  have e37 : IntKind.u64.wrap (x.stats.length : Int) = (x.stats.length : Int) := by rw [IntKind.wrap_u64]; omega
  have e38 : (x.stats.length : Int) % 18446744073709551616 = (x.stats.length : Int) := by omega
  have hrw64 : rw < 18446744073709551616 := by omega
  have hseq : x.seq.toNat < 18446744073709551616 := by omega
  have hsch : x.sch.toNat < 18446744073709551616 := by omega
  have hln : x.stats.length < 18446744073709551616 := by omega
  have p1 := tx_le x.name (by omega)
  have p2 := Var.put_le10 (n := flagN kb) (by unfold flagN; split <;> omega)
  have p3 := Var.put_le10 (n := x.seq.toNat) hseq
  have p4 := Var.put_le10 (n := rw) hrw64
  have p5 := Var.put_le10 (n := x.sch.toNat) hsch
  have p6 := Var.put_le10 (n := x.stats.length) hln
  have hns : x.name.size ≤ 64 := by omega
  have H8 : Hid (x.stats.length ≤ 8) := hide g6
  have H7 := hide g7
  have x0 := boxT_new w #[.string x.name, .bool kb, .int .u64 (x.seq.toNat : Int), .int .i64 (rw : Int), .int .u32 (x.sch.toNat : Int), .slice SA x.stats.length sc] 36
  have hb1 := (Below.refl w.heap.size w).alloc (Nat.le_refl _) (.cells #[.string x.name, .bool kb, .int .u64 (x.seq.toNat : Int), .int .i64 (rw : Int), .int .u32 (x.sch.toNat : Int), .slice SA x.stats.length sc] 36)
  have h1 := h.keep hb1
  have Z1 := (Wz.refl b B w).trans (.of hb1)
  have hne : w.heap.size ≠ b := by have := h.z; omega
  have hbz := h.z
  have hrW := fun (w' : World) hz => hr.wz (w' := w') hz hbB h.le
  clear hE hrw hkb hx g1 g2 g3 g4 g5 g6 g7 gp hs32 hs64 hb1 h
  go_enter Tryd.func22, Tryd.ntmps22
  go_wp2_with fail
  generalize w.alloc (.cells #[.string x.name, .bool kb, .int .u64 (x.seq.toNat : Int), .int .i64 (rw : Int), .int .u32 (x.sch.toNat : Int), .slice SA x.stats.length sc] 36) = w1 at *
  generalize hbs : w.heap.size = bs at *
  clear hbs
  have k1 := x0.bx.cell 0 _ rfl
  refine (entWText w1 b B A c l h1 x.name (by omega)).mono ?_
  rintro e w2 ⟨rfl, ⟨A2, c2, h2⟩, hz⟩
  have Z2 := Z1.trans hz
  have x1 := x0.wz hz hne (by decide)
  obtain ⟨l2, hl2e⟩ : ∃ l2, l ++ tx x.name = l2 := ⟨_, rfl⟩
  rw [hl2e] at h2
  have hl2 : l2.length ≤ 300100 := by rw [← hl2e, List.length_append]; omega
  have HL2 := hide hl2e
  have k21 := x1.bx.cell 1 _ rfl
  clear hl2e h1 hz x0
  clear k1
  go_upto_if 11 with fail
  go_cut [] from 12 to 15 (fun wx => (∃ A3 c3, WB wx b B A3 c3 (l2 ++ Var.put (flagN kb))) ∧ Wz b B w2 wx)
  case first =>
    cases kb with
    | true =>
      go_wp2_with fail
      refine (entWNumN w2 b B A2 c2 l2 h2 1 (by decide) (by omega)).mono ?_
      rintro e w3 ⟨rfl, h3, hz⟩
      go_wp2_with fail
      go_meet
      exact ⟨h3, hz⟩
    | false =>
      go_wp2_with fail
      refine (entWNumN w2 b B A2 c2 l2 h2 0 (by decide) (by omega)).mono ?_
      rintro e w3 ⟨rfl, h3, hz⟩
      go_wp2_with fail
      go_meet
      exact ⟨h3, hz⟩
  case rest =>
  obtain ⟨⟨A3, c3, h3⟩, hz⟩ := hcut
  have Z3 := Z2.trans hz
  have x2 := x1.wz hz hne (by decide)
  obtain ⟨l3, hl3e⟩ : ∃ l3, l2 ++ Var.put (flagN kb) = l3 := ⟨_, rfl⟩
  rw [hl3e] at h3
  have hl3 : l3.length ≤ 300200 := by rw [← hl3e, List.length_append]; omega
  have HL3 := hide hl3e
  have k32 := x2.bx.cell 2 _ rfl
  clear hl3e h2 hz x1 k21
  go_wp2_with fail
  refine (entWNumN wc b B A3 c3 l3 h3 x.seq.toNat hseq (by omega)).mono ?_
  rintro e w4 ⟨rfl, ⟨A4, c4, h4⟩, hz⟩
  have Z4 := Z3.trans hz
  have x3 := x2.wz hz hne (by decide)
  obtain ⟨l4, hl4e⟩ : ∃ l4, l3 ++ Var.put x.seq.toNat = l4 := ⟨_, rfl⟩
  rw [hl4e] at h4
  have hl4 : l4.length ≤ 300300 := by rw [← hl4e, List.length_append]; omega
  have HL4 := hide hl4e
  have k43 := x3.bx.cell 3 _ rfl
  clear hl4e h3 hz x2
  clear k32
  go_wp2_with fail
  refine (entWNumN w4 b B A4 c4 l4 h4 rw hrw64 (by omega)).mono ?_
  rintro e w5 ⟨rfl, ⟨A5, c5, h5⟩, hz⟩
  have Z5 := Z4.trans hz
  have x4 := x3.wz hz hne (by decide)
  obtain ⟨l5, hl5e⟩ : ∃ l5, l4 ++ Var.put rw = l5 := ⟨_, rfl⟩
  rw [hl5e] at h5
  have hl5 : l5.length ≤ 300400 := by rw [← hl5e, List.length_append]; omega
  have HL5 := hide hl5e
  have k54 := x4.bx.cell 4 _ rfl
  clear hl5e h4 hz x3
  clear k43 e33 e34
  go_wp2_with fail
  refine (entWNumN w5 b B A5 c5 l5 h5 x.sch.toNat hsch (by omega)).mono ?_
  rintro e w6 ⟨rfl, ⟨A6, c6, h6⟩, hz⟩
  have Z6 := Z5.trans hz
  have x5 := x4.wz hz hne (by decide)
  obtain ⟨l6, hl6e⟩ : ∃ l6, l5 ++ Var.put x.sch.toNat = l6 := ⟨_, rfl⟩
  rw [hl6e] at h6
  have hl6 : l6.length ≤ 300500 := by rw [← hl6e, List.length_append]; omega
  have HL6 := hide hl6e
  have k65 := x5.bx.cell 5 _ rfl
  clear hl6e h5 hz x4
  clear k54 e35 e36
  go_wp2_with fail
  refine (entWNumN w6 b B A6 c6 l6 h6 x.stats.length hln (by omega)).mono ?_
  rintro e w7 ⟨rfl, ⟨A7, c7, h7⟩, hz⟩
  have Z7 := Z6.trans hz
  have x6 := x5.wz hz hne (by decide)
  obtain ⟨l7, hl7e⟩ : ∃ l7, l6 ++ Var.put x.stats.length = l7 := ⟨_, rfl⟩
  rw [hl7e] at h7
  have hl7 : l7.length ≤ 300600 := by rw [← hl7e, List.length_append]; omega
  have HL7 := hide hl7e
  have k75 := x6.bx.cell 5 _ rfl
  clear hl7e h6 hz x5
  clear k65 e37 e38 p1 p2 p3 p4 p5 p6 hrw64 hseq hsch hln
  have hr7 := hrW _ Z7
  have hle7 : B ≤ w7.heap.size := h7.le
  have hbz7 : b < w7.heap.size := h7.z
  go_wp2_with fail
  go_loopw [39] (fun iv wr => ∃ (k : Nat) (Ak : Option Addr) (ck : Nat), iv = .int .i64 (k : Int) ∧ k ≤ x.stats.length ∧ WB wr b B Ak ck (l7 ++ statsB (x.stats.take k)) ∧ Wz b B w7 wr) (fun iv _ => x.stats.length - (intOf iv).toNat)
  case atStart => exact ⟨0, A7, c7, rfl, Nat.zero_le _, by simpa [statsB] using h7, Wz.refl _ _ _⟩
  case round =>
    obtain ⟨k, Ak, ck, rfl, hk, hW, hzr⟩ := hrel
    have hrk := hr7.wz hzr hbB hle7
    have hlen8 := H8.out
    by_cases hlt : k < x.stats.length
    · have hmem : x.stats.getD k default ∈ x.stats := getD_mem hlt
      have hst := H7.out _ hmem
      have hnx : statsB (x.stats.take (k + 1)) = statsB (x.stats.take k) ++ statB (x.stats.getD k default) := flat_next hlt
      have hlk : (l7 ++ statsB (x.stats.take k)).length ≤ 400000 := by
        have := flat_le (f := statB) (l := x.stats.take k) (m := 178) (fun s hs => statB_le (H7.out s (List.mem_of_mem_take hs)).2)
        have h9 : (x.stats.take k).length ≤ 8 := by rw [List.length_take]; omega
        have h10 : (x.stats.take k).length * 178 ≤ 8 * 178 := Nat.mul_le_mul_right _ h9
        unfold statsB
        rw [List.length_append]
        omega
      obtain ⟨gb, off, hSA, hgb, hcells⟩ := hrk.stA hlt
      obtain ⟨s, hs⟩ : ∃ s, x.stats.getD k default = s := ⟨_, rfl⟩
      obtain ⟨f0, f1, f2, f3, f4, f5, f6, f7, f8, f9⟩ := hcells s hs
      rw [hs] at hst hnx
      have HNX := hide hnx
      have hsOk := hst.2
      have hb9 := (Below.refl wr.heap.size wr).alloc (Nat.le_refl _) (.cells #[.int .i64 s.rows.toInt, .int .i64 s.nulls.toInt, .bool s.som, .bool s.high, .int .u8 (s.mn.kind.toNat : Int), .int .i64 s.mn.n.toInt, .string s.mn.s, .int .u8 (s.mx.kind.toNat : Int), .int .i64 s.mx.n.toInt, .string s.mx.s] 53)
      have hW9 := hW.keep hb9
      have hz9 : Wz b B w7 _ := hzr.trans (.of hb9)
      have HSA := hide hSA
      clear hs hmem hst hnx hrk hcells hb9
      rw [hSA]
      clear hSA
      go_wp2_with fail
      refine (entWStat _ b B Ak ck _ hW9 s hsOk (by omega)).mono ?_
      rintro e w9 ⟨rfl, ⟨A9, c9, h9⟩, hz⟩
      rw [List.append_assoc, ← HNX.out] at h9
      have HW9 := hide (And.intro h9 (hz9.trans hz))
      clear h9 hz hz9 hW9 hW hzr f0 f1 f2 f3 f4 f5 f6 f7 f8 f9
      go_wp2_with fail
      go_roundw
      case rel => exact ⟨k + 1, A9, c9, by go_num, hlt, HW9.out.1, HW9.out.2⟩
      case measure => have := H8.out; simp [intOf]; omega
    · have hkk : k = x.stats.length := by omega
      have HW9 : Hid (WB wr b B Ak ck (l7 ++ statsB x.stats) ∧ Wz b B w wr) := hide ⟨by rw [hkk, List.take_length] at hW; exact hW, Z7.trans hzr⟩
      clear hW hzr hrk hkk
      go_wp2_with fail
      go_end0
      refine ⟨rfl, ⟨Ak, ck, ?_⟩, HW9.out.2⟩
      rw [← List.append_assoc, HL2.out, ← List.append_assoc, HL3.out, ← List.append_assoc, HL4.out, ← List.append_assoc, HL5.out, ← List.append_assoc, HL6.out, ← List.append_assoc, HL7.out]
      exact HW9.out.1
end Go.Proofs.YtbcnekaagkdmeaaDoor
