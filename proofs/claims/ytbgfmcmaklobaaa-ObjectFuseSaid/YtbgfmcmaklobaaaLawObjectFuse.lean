/- ObjectFuse: for every input the law returns true, and what was there is as it was. No condition. -/
import Derived.Test.YtbgfmcmaklobaaaRows
import Derived.Test.YtbgfmcmaklobaaaObF
namespace Go.Proofs.Ytbgfmcmaklobaaa.objectFuse
open Go.Proofs.Ytbgfmcmaklobaaa
open Go.ChangeShapes Go.WideShapes Go.ChangeAt Go.RowKit
open Go.ChangeMaps (open_string shut_string)

theorem own : ownKnob Try.prog.godebug = none := by kernel_rfl
theorem laidOut : laidOutB Try.prog = true := by kernel_rfl

/-- a store is kept where another one turns -/
theorem StR_ost {P : Nat → Prop} {w w' : World} {sb mb sb2 mb2 N : Nat} {s : So} (h : StR P w sb mb N s) (ho : Ost sb2 mb2 w w') (n1 : sb ≠ sb2) (n2 : sb ≠ mb2) (n3 : mb ≠ sb2) (n4 : mb ≠ mb2) (p1 : ¬ P sb2) (p2 : ¬ P mb2) : StR P w' sb mb N s := by
  have hbk : w'.heap[sb]? = w.heap[sb]? := ho.block sb h.bx.z n1 n2
  obtain ⟨D, hD⟩ := h.mp
  exact ⟨⟨fun j v hj => (World.cell?_of_block (w := w) (a := ⟨sb, j, none⟩) hbk).trans (h.bx.cell j v hj), fun j hj => (World.frozen?_of_block (w := w) (a := ⟨sb, j, none⟩) hbk).trans (h.bx.free j hj), Nat.lt_of_lt_of_le h.bx.z ho.size⟩, ⟨D, hD.move ho.size (ho.block mb hD.lt n3 n4) (fun p hp hl => ho.cell hl (fun q => p1 (by rw [← q]; exact hp)) (fun q => p2 (by rw [← q]; exact hp)))⟩, h.nP, h.ne, h.ok⟩
theorem nmAt_sz (i : Nat) : (nmAt i).size ≤ maxLen := show 1 ≤ maxLen by decide
def names10 : List ByteArray := [⟨#[97]⟩, ⟨#[98]⟩, ⟨#[99]⟩, ⟨#[100]⟩, ⟨#[101]⟩, ⟨#[102]⟩, ⟨#[103]⟩, ⟨#[104]⟩, ⟨#[105]⟩, ⟨#[106]⟩]
theorem names_at (i : Nat) : (strsV names10)[i % 10]? = some (.string (nmAt i)) := by
  have h : ∀ j, j < 10 → names10[j]? = some ⟨#[UInt8.ofNat (97 + j)]⟩ := by
    intro j hj
    have : j = 0 ∨ j = 1 ∨ j = 2 ∨ j = 3 ∨ j = 4 ∨ j = 5 ∨ j = 6 ∨ j = 7 ∨ j = 8 ∨ j = 9 := by omega
    rcases this with rfl | rfl | rfl | rfl | rfl | rfl | rfl | rfl | rfl | rfl <;> rfl
  unfold strsV
  rw [List.getElem?_map, h (i % 10) (Nat.mod_lt _ (by decide))]
  rfl
set_option maxRecDepth 100000 in
set_option maxHeartbeats 4000000 in
theorem walk (w : World) (a : Int) (a0 : 0 ≤ a) (a1 : a ≤ 255) (b : Int) (b0 : 0 ≤ b) (b1 : b ≤ 255) :
    Calls Try.prog 4 #[.int .u8 a, .int .u8 b] w (RetVal w (.bool true)) := by
  obtain ⟨an, rfl⟩ := Int.eq_ofNat_of_zero_le a0
  obtain ⟨k, rfl⟩ : ∃ k : UInt8, b = (k.toNat : Int) := ⟨UInt8.ofNat b.toNat, by rw [UInt8.toNat_ofNat']; omega⟩
  obtain ⟨n, hn⟩ : ∃ n, an % 30 = n := ⟨_, rfl⟩
  have hn30 : n < 30 := by omega
  have hni : (an : Int) % 30 = (n : Int) := by omega
  have HN := hide hn30
  clear a0 a1 b0 b1 hn
  go_enter Try.func4, Try.ntmps4
  go_wp2_with fail
  refine (alive12 _).mono ?_
  rintro e w1 ⟨rfl, hb1⟩
  go_wp2_with fail
  refine (objNew (fun q => w1.heap.size + 4 ≤ q) w1 1000 (by decide) (by decide) (fun q hq => by omega)).mono ?_
  rintro e w2 ⟨rfl, hS2, hB2, hz2⟩
  go_wp2_with fail
  refine (objNew (fun q => w1.heap.size + 4 ≤ q) w2 1000 (by decide) (by decide) (fun q hq => by omega)).mono ?_
  rintro e w3 ⟨rfl, hT3, hB3, hz3⟩
  have hS3 := hS2.keep hB3
  have hb3 := below_call (below_call hb1 hb1.size hB2) (Nat.le_trans hb1.size hB2.size) hB3
  rw [hz2] at hT3 hz3 ⊢
  have hz4 : w3.heap.size = w1.heap.size + 4 := by omega
  have hzw := hb1.size
  generalize w1.heap.size = z at *
  clear hB2 hB3 hS2 hb1 hz3
  clear w1
  obtain ⟨s1, hs1⟩ : ∃ x, x = z + 1 := ⟨_, rfl⟩
  obtain ⟨s2, hs2⟩ : ∃ x, x = z + 2 + 1 := ⟨_, rfl⟩
  obtain ⟨m2, hm2⟩ : ∃ x, x = z + 2 := ⟨_, rfl⟩
  obtain ⟨q4, hq4⟩ : ∃ x, x = z + 4 := ⟨_, rfl⟩
  rw [← hs1, ← hq4] at hS3
  rw [← hs2, ← hm2, ← hq4] at hT3
  rw [← hs1, ← hs2]
  have HD : Hid ((s1 ≠ s2 ∧ s1 ≠ m2 ∧ z ≠ s2 ∧ z ≠ m2) ∧ s1 < q4 ∧ z < q4 ∧ s2 < q4 ∧ m2 < q4 ∧ w.heap.size ≤ s1 ∧ w.heap.size ≤ z ∧ w.heap.size ≤ s2 ∧ w.heap.size ≤ m2) := hide (by omega)
  have hzq : w3.heap.size = q4 := by omega
  clear hs1 hs2 hm2 hq4 hz4 hzw hz2
  go_wp2_with fail
  refine (objFuse _ w3 s1 z 0 _ hS3 (n : Int) (by omega)).mono ?_
  rintro e w4 ⟨rfl, hS4, O4⟩
  have hmx : max (n : Int) (-1) = (n : Int) := by omega
  rw [hmx] at hS4
  have hT4 := StR_ost hT3 O4 HD.out.1.1.symm HD.out.1.2.2.1.symm HD.out.1.2.1.symm HD.out.1.2.2.2.symm (by have := HD.out; omega) (by have := HD.out; omega)
  have hb4 := hb3.trans (O4.below (B := w.heap.size) (by have := HD.out; omega) (by have := HD.out; omega) hb3.size)
  have hz4 : q4 ≤ w4.heap.size := by rw [← hzq]; exact O4.size
  clear hS3 hT3 O4 hb3 hzq
  clear w3
  go_wp2_with fail
  refine (objFail _ w4 s2 m2 0 _ hT4 (n : Int) (by omega)).mono ?_
  rintro e w5 ⟨rfl, hT5, O5⟩
  rw [hmx] at hT5
  have hS5 := StR_ost hS4 O5 HD.out.1.1 HD.out.1.2.1 HD.out.1.2.2.1 HD.out.1.2.2.2 (by have := HD.out; omega) (by have := HD.out; omega)
  have hb5 := hb4.trans (O5.below (B := w.heap.size) (by have := HD.out; omega) (by have := HD.out; omega) hb4.size)
  have hz5 : q4 ≤ w5.heap.size := Nat.le_trans hz4 O5.size
  clear hS4 hT4 O5 hb4 hz4 hmx
  clear w4
  have hnm : Rd (w5.alloc (.cells (strsV names10).toArray 9)) (w5.heap.size + 1) 1 (some ⟨w5.heap.size, 0, none⟩) 10 10 (strsV names10) := Rd.lit (n := 10) (sz := 1) w5 9 (strsV names10).toArray rfl (by decide)
  have hbA := (Below.refl w5.heap.size w5).alloc (Nat.le_refl _) (.cells (strsV names10).toArray 9)
  have hzA : (w5.alloc (.cells (strsV names10).toArray 9)).heap.size = w5.heap.size + 1 := by simp
  have hS6 := hS5.keep hbA
  have hT6 := hT5.keep hbA
  have hb6 := below_call hb5 hb5.size hbA
  rw [← hzA] at hnm
  have hza : q4 ≤ (w5.alloc (.cells (strsV names10).toArray 9)).heap.size := by omega
  have hcs : (strsV names10).toArray = #[.string ⟨#[97]⟩, .string ⟨#[98]⟩, .string ⟨#[99]⟩, .string ⟨#[100]⟩, .string ⟨#[101]⟩, .string ⟨#[102]⟩, .string ⟨#[103]⟩, .string ⟨#[104]⟩, .string ⟨#[105]⟩, .string ⟨#[106]⟩] := rfl
  rw [hcs] at hnm hS6 hT6 hb6 hza
  clear hbA hS5 hT5 hb5 hzA hcs
  go_wp2_with fail
  generalize w5.alloc (.cells #[.string ⟨#[97]⟩, .string ⟨#[98]⟩, .string ⟨#[99]⟩, .string ⟨#[100]⟩, .string ⟨#[101]⟩, .string ⟨#[102]⟩, .string ⟨#[103]⟩, .string ⟨#[104]⟩, .string ⟨#[105]⟩, .string ⟨#[106]⟩] 9) = w6 at *
  obtain ⟨nb, hnb⟩ : ∃ x, x = w5.heap.size := ⟨_, rfl⟩
  rw [← hnb] at hnm hz5 ⊢
  replace hnb := hz5
  clear w5
  go_loopw [8] (fun iv wr => ∃ i : Nat, iv = .int .i64 (i : Int) ∧ i ≤ 40 ∧ StR (fun q => q4 ≤ q) wr s1 z i (opN k (fusedS n) i) ∧ StR (fun q => q4 ≤ q) wr s2 m2 i (opN k (faultS n) i) ∧ Rd wr wr.heap.size 1 (some ⟨nb, 0, none⟩) 10 10 (strsV names10) ∧ q4 ≤ wr.heap.size ∧ Below w.heap.size w wr) (fun iv _ => 40 - (intOf iv).toNat)
  case atStart => exact ⟨0, rfl, by decide, hS6, hT6, hnm, hza, hb6⟩
  case round =>
    clear hS6 hT6 hnm hza hb6
    obtain ⟨i, rfl, hi, hS, hT, hR, hz, hb⟩ := hrel
    by_cases hlt : i < 40
    · obtain ⟨b2, off, e, hbz, hc⟩ := hR.at_ (by decide)
      injection e with e
      injection e with e1 e2
      subst e1 e2
      have hcell := hc (i % 10) _ (names_at i)
      rw [Nat.zero_add] at hcell
      have tm : ((i % 10 : Nat) : Int) = (i : Int) % 10 := by omega
      have hml : i % 10 < 10 := Nat.mod_lt _ (by decide)
      have t28 : decide ((i : Int) < 40) = true := decide_eq_true (by omega)
      go_upto_block 2 with fail
      have HNB : Hid (q4 ≤ nb) := hide hnb
      go_cut [10, 11] from 36 to 71 (fun ev fv wx => ∃ ce cf : Nat, ev = .int .i64 (ce : Int) ∧ fv = .int .i64 (cf : Int) ∧ Hid (ce = (opAt k (opN k (fusedS n) i) i).2 ∧ cf = (opAt k (opN k (faultS n) i) i).2) ∧ Hid (StR (fun q => q4 ≤ q) wx s1 z (i + 1) (opN k (fusedS n) (i + 1)) ∧ StR (fun q => q4 ≤ q) wx s2 m2 (i + 1) (opN k (faultS n) (i + 1))) ∧ Rd wx wx.heap.size 1 (some ⟨nb, 0, none⟩) 10 10 (strsV names10) ∧ q4 ≤ wx.heap.size ∧ Below w.heap.size w wx)
      case first =>
        by_cases c0 : i < 10
        · have hop : ∀ x : So, opAt k x i = x.put (nmAt i) [k] := fun x => by unfold opAt; rw [if_pos c0]
          have q0 : ((i : Int) / 10 == 0) = true := by rw [beq_iff_eq]; omega
          go_wp2_with fail
          have hr1 : RdP (wr.alloc (.cells #[.int .u8 (k.toNat : Int)] 5)) (fun q => q ≠ s1 ∧ q ≠ z) (some ⟨wr.heap.size, 0, none⟩) _ _ [k] := rdp_lit wr #[.int .u8 (k.toNat : Int)] (0, 0) [k] rfl (show 1 ≤ maxLen by decide) ⟨by have := HD.out; omega, by have := HD.out; omega⟩
          have hbA : Below wr.heap.size wr (wr.alloc (.cells #[.int .u8 (k.toNat : Int)] 5)) := (Below.refl _ _).alloc (Nat.le_refl _) _
          replace hS := hS.keep hbA
          replace hT := hT.keep hbA
          replace hR := (hR.below hbA).more hbA.size
          replace hb := below_call hb hb.size hbA
          replace hz := Nat.le_trans hz hbA.size
          generalize (wr.alloc (.cells #[.int .u8 (k.toNat : Int)] 5)) = x0 at *
          clear hbA
          clear hcell hbz hc
          refine (objPut _ x0 s1 z i _ hS (fun q hq => by have := HD.out; omega) (by omega) (nmAt i) (nmAt_sz i) _ _ [k] hr1).mono ?_
          rintro e y0 hE
          rw [← hop] at hE
          obtain ⟨rfl, hS2, O2⟩ := hE
          obtain ⟨ce, hce⟩ : ∃ c, (opAt k (opN k (fusedS n) i) i).2 = c := ⟨_, rfl⟩
          rw [hce]
          have hT3 := StR_ost hT O2 (by have := HD.out; omega) (by have := HD.out; omega) (by have := HD.out; omega) (by have := HD.out; omega) (by have := HD.out; omega) (by have := HD.out; omega)
          replace hR := Rd.ost hR O2 (by have := HD.out; have := HNB.out; omega) (by have := HD.out; have := HNB.out; omega)
          replace hb := hb.trans (O2.below (B := w.heap.size) (by have := HD.out; omega) (by have := HD.out; omega) hb.size)
          replace hz := Nat.le_trans hz O2.size
          clear O2 hr1
          have hS := hS2
          clear hS2
          replace hT := hT3
          clear hT3
          go_wp2_with fail
          have hr1 : RdP (y0.alloc (.cells #[.int .u8 (k.toNat : Int)] 5)) (fun q => q ≠ s2 ∧ q ≠ m2) (some ⟨y0.heap.size, 0, none⟩) _ _ [k] := rdp_lit y0 #[.int .u8 (k.toNat : Int)] (0, 0) [k] rfl (show 1 ≤ maxLen by decide) ⟨by have := HD.out; omega, by have := HD.out; omega⟩
          have hbA : Below y0.heap.size y0 (y0.alloc (.cells #[.int .u8 (k.toNat : Int)] 5)) := (Below.refl _ _).alloc (Nat.le_refl _) _
          replace hS := hS.keep hbA
          replace hT := hT.keep hbA
          replace hR := (hR.below hbA).more hbA.size
          replace hb := below_call hb hb.size hbA
          replace hz := Nat.le_trans hz hbA.size
          generalize (y0.alloc (.cells #[.int .u8 (k.toNat : Int)] 5)) = x1 at *
          clear hbA
          refine (objPut _ x1 s2 m2 i _ hT (fun q hq => by have := HD.out; omega) (by omega) (nmAt i) (nmAt_sz i) _ _ [k] hr1).mono ?_
          rintro e y1 hE
          rw [← hop] at hE
          obtain ⟨rfl, hT2, O2⟩ := hE
          obtain ⟨cf, hcf⟩ : ∃ c, (opAt k (opN k (faultS n) i) i).2 = c := ⟨_, rfl⟩
          rw [hcf]
          have hS3 := StR_ost hS O2 (by have := HD.out; omega) (by have := HD.out; omega) (by have := HD.out; omega) (by have := HD.out; omega) (by have := HD.out; omega) (by have := HD.out; omega)
          replace hR := Rd.ost hR O2 (by have := HD.out; have := HNB.out; omega) (by have := HD.out; have := HNB.out; omega)
          replace hb := hb.trans (O2.below (B := w.heap.size) (by have := HD.out; omega) (by have := HD.out; omega) hb.size)
          replace hz := Nat.le_trans hz O2.size
          clear O2 hr1
          go_wp2_with fail
          go_meet
          exact ⟨ce, cf, rfl, rfl, hide ⟨hce.symm, hcf.symm⟩, hide ⟨hS3, hT2⟩, hR, hz, hb⟩
        by_cases c1 : i < 20
        · have hop : ∀ x : So, opAt k x i = x.sync (nmAt i) := fun x => by unfold opAt; rw [if_neg c0, if_pos (by omega)]
          have q0 : ((i : Int) / 10 == 0) = false := by rw [beq_eq_false_iff_ne]; omega
          have q1 : ((i : Int) / 10 == 1) = true := by rw [beq_iff_eq]; omega
          go_wp2_with fail
          refine (objSync _ wr s1 z i _ hS (by omega) (nmAt i) (nmAt_sz i)).mono ?_
          rintro e y0 hE
          rw [← hop] at hE
          obtain ⟨rfl, hS2, O2⟩ := hE
          obtain ⟨ce, hce⟩ : ∃ c, (opAt k (opN k (fusedS n) i) i).2 = c := ⟨_, rfl⟩
          rw [hce]
          have hT3 := StR_ost hT O2 (by have := HD.out; omega) (by have := HD.out; omega) (by have := HD.out; omega) (by have := HD.out; omega) (by have := HD.out; omega) (by have := HD.out; omega)
          replace hR := Rd.ost hR O2 (by have := HD.out; have := HNB.out; omega) (by have := HD.out; have := HNB.out; omega)
          replace hb := hb.trans (O2.below (B := w.heap.size) (by have := HD.out; omega) (by have := HD.out; omega) hb.size)
          replace hz := Nat.le_trans hz O2.size
          clear O2
          have hS := hS2
          clear hS2
          replace hT := hT3
          clear hT3
          go_wp2_with fail
          refine (objSync _ y0 s2 m2 i _ hT (by omega) (nmAt i) (nmAt_sz i)).mono ?_
          rintro e y1 hE
          rw [← hop] at hE
          obtain ⟨rfl, hT2, O2⟩ := hE
          obtain ⟨cf, hcf⟩ : ∃ c, (opAt k (opN k (faultS n) i) i).2 = c := ⟨_, rfl⟩
          rw [hcf]
          have hS3 := StR_ost hS O2 (by have := HD.out; omega) (by have := HD.out; omega) (by have := HD.out; omega) (by have := HD.out; omega) (by have := HD.out; omega) (by have := HD.out; omega)
          replace hR := Rd.ost hR O2 (by have := HD.out; have := HNB.out; omega) (by have := HD.out; have := HNB.out; omega)
          replace hb := hb.trans (O2.below (B := w.heap.size) (by have := HD.out; omega) (by have := HD.out; omega) hb.size)
          replace hz := Nat.le_trans hz O2.size
          clear O2
          go_wp2_with fail
          go_meet
          exact ⟨ce, cf, rfl, rfl, hide ⟨hce.symm, hcf.symm⟩, hide ⟨hS3, hT2⟩, hR, hz, hb⟩
        by_cases c2 : i < 30
        · have hop : ∀ x : So, opAt k x i = x.sync (nmAt i) := fun x => by unfold opAt; rw [if_neg c0, if_pos c2]
          have q0 : ((i : Int) / 10 == 0) = false := by rw [beq_eq_false_iff_ne]; omega
          have q1 : ((i : Int) / 10 == 1) = false := by rw [beq_eq_false_iff_ne]; omega
          have q2 : ((i : Int) / 10 == 2) = true := by rw [beq_iff_eq]; omega
          go_wp2_with fail
          refine (objSync _ wr s1 z i _ hS (by omega) (nmAt i) (nmAt_sz i)).mono ?_
          rintro e y0 hE
          rw [← hop] at hE
          obtain ⟨rfl, hS2, O2⟩ := hE
          obtain ⟨ce, hce⟩ : ∃ c, (opAt k (opN k (fusedS n) i) i).2 = c := ⟨_, rfl⟩
          rw [hce]
          have hT3 := StR_ost hT O2 (by have := HD.out; omega) (by have := HD.out; omega) (by have := HD.out; omega) (by have := HD.out; omega) (by have := HD.out; omega) (by have := HD.out; omega)
          replace hR := Rd.ost hR O2 (by have := HD.out; have := HNB.out; omega) (by have := HD.out; have := HNB.out; omega)
          replace hb := hb.trans (O2.below (B := w.heap.size) (by have := HD.out; omega) (by have := HD.out; omega) hb.size)
          replace hz := Nat.le_trans hz O2.size
          clear O2
          have hS := hS2
          clear hS2
          replace hT := hT3
          clear hT3
          go_wp2_with fail
          refine (objSync _ y0 s2 m2 i _ hT (by omega) (nmAt i) (nmAt_sz i)).mono ?_
          rintro e y1 hE
          rw [← hop] at hE
          obtain ⟨rfl, hT2, O2⟩ := hE
          obtain ⟨cf, hcf⟩ : ∃ c, (opAt k (opN k (faultS n) i) i).2 = c := ⟨_, rfl⟩
          rw [hcf]
          have hS3 := StR_ost hS O2 (by have := HD.out; omega) (by have := HD.out; omega) (by have := HD.out; omega) (by have := HD.out; omega) (by have := HD.out; omega) (by have := HD.out; omega)
          replace hR := Rd.ost hR O2 (by have := HD.out; have := HNB.out; omega) (by have := HD.out; have := HNB.out; omega)
          replace hb := hb.trans (O2.below (B := w.heap.size) (by have := HD.out; omega) (by have := HD.out; omega) hb.size)
          replace hz := Nat.le_trans hz O2.size
          clear O2
          go_wp2_with fail
          go_meet
          exact ⟨ce, cf, rfl, rfl, hide ⟨hce.symm, hcf.symm⟩, hide ⟨hS3, hT2⟩, hR, hz, hb⟩
        · have hop : ∀ x : So, opAt k x i = x.del (nmAt i) := fun x => by unfold opAt; rw [if_neg c0, if_neg c2]
          have q0 : ((i : Int) / 10 == 0) = false := by rw [beq_eq_false_iff_ne]; omega
          have q1 : ((i : Int) / 10 == 1) = false := by rw [beq_eq_false_iff_ne]; omega
          have q2 : ((i : Int) / 10 == 2) = false := by rw [beq_eq_false_iff_ne]; omega
          go_wp2_with fail
          refine (objDel _ wr s1 z i _ hS (nmAt i) (nmAt_sz i)).mono ?_
          rintro e y0 hE
          rw [← hop] at hE
          obtain ⟨rfl, hS2, O2⟩ := hE
          obtain ⟨ce, hce⟩ : ∃ c, (opAt k (opN k (fusedS n) i) i).2 = c := ⟨_, rfl⟩
          rw [hce]
          have hT3 := StR_ost hT O2 (by have := HD.out; omega) (by have := HD.out; omega) (by have := HD.out; omega) (by have := HD.out; omega) (by have := HD.out; omega) (by have := HD.out; omega)
          replace hR := Rd.ost hR O2 (by have := HD.out; have := HNB.out; omega) (by have := HD.out; have := HNB.out; omega)
          replace hb := hb.trans (O2.below (B := w.heap.size) (by have := HD.out; omega) (by have := HD.out; omega) hb.size)
          replace hz := Nat.le_trans hz O2.size
          clear O2
          have hS := hS2
          clear hS2
          replace hT := hT3
          clear hT3
          go_wp2_with fail
          refine (objDel _ y0 s2 m2 i _ hT (nmAt i) (nmAt_sz i)).mono ?_
          rintro e y1 hE
          rw [← hop] at hE
          obtain ⟨rfl, hT2, O2⟩ := hE
          obtain ⟨cf, hcf⟩ : ∃ c, (opAt k (opN k (faultS n) i) i).2 = c := ⟨_, rfl⟩
          rw [hcf]
          have hS3 := StR_ost hS O2 (by have := HD.out; omega) (by have := HD.out; omega) (by have := HD.out; omega) (by have := HD.out; omega) (by have := HD.out; omega) (by have := HD.out; omega)
          replace hR := Rd.ost hR O2 (by have := HD.out; have := HNB.out; omega) (by have := HD.out; have := HNB.out; omega)
          replace hb := hb.trans (O2.below (B := w.heap.size) (by have := HD.out; omega) (by have := HD.out; omega) hb.size)
          replace hz := Nat.le_trans hz O2.size
          clear O2
          replace hS3 := hS3.mono (Nat.le_succ i)
          replace hT2 := hT2.mono (Nat.le_succ i)
          go_wp2_with fail
          go_meet
          exact ⟨ce, cf, rfl, rfl, hide ⟨hce.symm, hcf.symm⟩, hide ⟨hS3, hT2⟩, hR, hz, hb⟩
      case rest =>
        clear hS hT hR hz hb hcell hbz hc t28
        obtain ⟨ce, cf, rfl, rfl, HC, HS, hR, hz, hb⟩ := hcut
        have hlaw := fuse_law k HN.out i
        have hlaw2 := fault_law k HN.out i
        rw [← HC.out.1] at hlaw
        rw [← HC.out.2] at hlaw2
        have hS := HS.out.1
        have HREL := hide (And.intro hR (And.intro hz hb))
        clear hR hz hb
        obtain ⟨l1, l2⟩ := hlaw
        have HDD := hide l2
        clear l2
        have hik : (i < n ∨ i = n ∨ n < i) := by omega
        rcases hik with h0 | h0 | h0
        · have t73 : ((ce : Int) == 0) = true := by rw [beq_iff_eq]; omega
          have t78 : decide ((i : Int) < (n : Int)) = true := decide_eq_true (by omega)
          have t78n : decide (i < n) = true := decide_eq_true (by omega)
          have t87 : decide ((n : Int) ≤ (i : Int)) = false := decide_eq_false (by omega)
          have t87n : decide (n ≤ i) = false := decide_eq_false (by omega)
          have t91 : ((cf : Int) == 121) = false := by rw [beq_eq_false_iff_ne]; omega
          have t96 : ((i : Int) == (n : Int)) = false := by rw [beq_eq_false_iff_ne]; omega
          have t96n : (i == n) = false := by rw [beq_eq_false_iff_ne]; omega
          have hdd : (opN k (fusedS n) (i + 1)).dead = false := by rw [HDD.out]; exact t87n
          have HDD2 := hide hdd
          clear hdd l1 hlaw2 h0
          go_wp2_with fail
          refine (objDead _ wc s1 z _ _ hS).mono ?_
          rintro e y ⟨rfl, rfl⟩
          rw [HDD2.out]
          clear hS
          go_wp2_with fail
          go_roundw
          case rel => exact ⟨i + 1, by go_num, by omega, HS.out.1, HS.out.2, HREL.out.1, HREL.out.2.1, HREL.out.2.2⟩
          case measure => simp [intOf]; omega
        · have t73 : ((ce : Int) == 0) = false := by rw [beq_eq_false_iff_ne]; omega
          have t78 : decide ((i : Int) < (n : Int)) = false := decide_eq_false (by omega)
          have t78n : decide (i < n) = false := decide_eq_false (by omega)
          have t87 : decide ((n : Int) ≤ (i : Int)) = true := decide_eq_true (by omega)
          have t87n : decide (n ≤ i) = true := decide_eq_true (by omega)
          have t91 : ((cf : Int) == 121) = true := by rw [beq_iff_eq]; omega
          have t96 : ((i : Int) == (n : Int)) = true := by rw [beq_iff_eq]; omega
          have t96n : (i == n) = true := by rw [beq_iff_eq]; omega
          have hdd : (opN k (fusedS n) (i + 1)).dead = true := by rw [HDD.out]; exact t87n
          have HDD2 := hide hdd
          clear hdd l1 hlaw2 h0
          go_wp2_with fail
          refine (objDead _ wc s1 z _ _ hS).mono ?_
          rintro e y ⟨rfl, rfl⟩
          rw [HDD2.out]
          clear hS
          go_wp2_with fail
          go_roundw
          case rel => exact ⟨i + 1, by go_num, by omega, HS.out.1, HS.out.2, HREL.out.1, HREL.out.2.1, HREL.out.2.2⟩
          case measure => simp [intOf]; omega
        · have t73 : ((ce : Int) == 0) = false := by rw [beq_eq_false_iff_ne]; omega
          have t78 : decide ((i : Int) < (n : Int)) = false := decide_eq_false (by omega)
          have t78n : decide (i < n) = false := decide_eq_false (by omega)
          have t87 : decide ((n : Int) ≤ (i : Int)) = true := decide_eq_true (by omega)
          have t87n : decide (n ≤ i) = true := decide_eq_true (by omega)
          have t91 : ((cf : Int) == 121) = false := by rw [beq_eq_false_iff_ne]; omega
          have t96 : ((i : Int) == (n : Int)) = false := by rw [beq_eq_false_iff_ne]; omega
          have t96n : (i == n) = false := by rw [beq_eq_false_iff_ne]; omega
          have hdd : (opN k (fusedS n) (i + 1)).dead = true := by rw [HDD.out]; exact t87n
          have HDD2 := hide hdd
          clear hdd l1 hlaw2 h0
          go_wp2_with fail
          refine (objDead _ wc s1 z _ _ hS).mono ?_
          rintro e y ⟨rfl, rfl⟩
          rw [HDD2.out]
          clear hS
          go_wp2_with fail
          go_roundw
          case rel => exact ⟨i + 1, by go_num, by omega, HS.out.1, HS.out.2, HREL.out.1, HREL.out.2.1, HREL.out.2.2⟩
          case measure => simp [intOf]; omega
    · clear hR
      go_wp2_with fail
      go_ret
      exact ⟨rfl, hb⟩

set_option maxRecDepth 100000 in
theorem lifted (os : Os) (started : os.Started) (H : Type) (enc : TypeId × Value → H) :
    ReturnsInHanded {} Try.checked os 4 .any (Rows.objectFuseSpec.pre6 enc Try.prog Try.f4 Rows.objectFuseRow.domain false) (Rows.objectFuseSpec.post enc Try.prog Try.f4 false true false false) := by
  refine returnsInHanded_of_change (C := Try.checked) own started (by kernel_rfl) Try.func4
    (ChangeSpec.witness6 (enc := enc) (C := Try.checked) false ⟨#[], #[.int .u8 0, .int .u8 0], []⟩ 8 (by kernel_rfl) (by kernel_rfl) (by kernel_rfl) (by kernel_rfl)) ?_
  intro W base args ds gs before hval0 hW hcnd _
  have hval : ∀ (j : Nat) t v, Try.f4.params[j]? = some t → args[j]? = some v → Value.okWide Try.prog W .any base t v := hval0
  have hW' := hW
  obtain ⟨p, q, hA0, hV, rfl, hfz, hnd⟩ := hW
  have hA : DataW.TrodAll enc Try.prog W 0 (fun _ => true) true Try.f4.params.toList args.toList ds p := hA0
  rw [Try.params4] at hA hval
  obtain ⟨v0, vs0, d0, ds0, p0, q0, hargs, rfl, rfl, h0, r0⟩ := trodAll_cons hA
  obtain ⟨v1, vs1, d1, ds1, p1, q1, rfl, rfl, rfl, h1, r1⟩ := trodAll_cons r0
  obtain ⟨rfl, rfl, rfl⟩ := trodAll_nil r1
  obtain rfl : args = #[v0, v1] := by cases args; simp_all
  obtain ⟨rfl, rfl⟩ := trodVars_none hV
  have k0 := h0
  have lt0 : ∀ x ∈ p0, x.block < W.heap.size := by obtain ⟨m, hm⟩ := k0; exact DataW.trod_lt m _ _ _ hm
  have k1 := h1
  have lt1 : ∀ x ∈ p1, x.block < W.heap.size := by obtain ⟨m, hm⟩ := k1; exact DataW.trod_lt m _ _ _ hm
  obtain ⟨a0, rfl, hd0, hp0, w0⟩ := open_int Try.underlying5 (hval 0 5 v0 rfl rfl) h0
  obtain ⟨a1, rfl, hd1, hp1, w1⟩ := open_int Try.underlying5 (hval 1 5 v1 rfl rfl) h1
  clear hA0 hval0
  refine (walk W a0 (bounds_u8 w0).1 (bounds_u8 w0).2 a1 (bounds_u8 w1).1 (bounds_u8 w1).2).mono fun e W' ⟨he, bel⟩ => ?_
  subst he
  exact ⟨_, rfl, _, _, _, [], _, [], hW', trodAll_mk1 (shut_bool Try.underlying4 _), (trodAll_cons_mk (Below.trod laidOut (by kernel_rfl) (of_decide_eq_true (by kernel_rfl)) k0 bel lt0) (trodAll_cons_mk (Below.trod laidOut (by kernel_rfl) (of_decide_eq_true (by kernel_rfl)) k1 bel lt1) trodAll_mk0)), rfl, bel.frame _, fun h => by cases h⟩

theorem over : Rows.objectFuseRow.holds Try.pinned (OpenSpec.ofChange Rows.objectFuseSpec) :=
  OpenClaim.holds_of_wide 4 Try.f4 rfl rfl rfl rfl rfl rfl rfl ⟨rfl, rfl, rfl, rfl, rfl⟩ rfl rfl rfl rfl rfl (by kernel_rfl) Try.func4 (by kernel_rfl)
    (of_decide_eq_true (by kernel_rfl)) (by unfold Func.isWrapper; first | (rw [if_pos (by decide +kernel)]; kernel_rfl) | (rw [if_neg (by decide +kernel)]; exact ⟨rfl, rfl⟩))
    (fun os started H enc _ => lifted os started H enc)

theorem proved : Rows.ObjectFuseSaid := over
#print axioms proved
end Go.Proofs.Ytbgfmcmaklobaaa.objectFuse
