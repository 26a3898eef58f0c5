/- THE WALKS of which entries may be: entry.Right, and the document's Right. No statement of the seat is proved here; no condition. -/
import Derived.Test.YtbcnekaagkdmeaaDoorEnS
namespace Go.Proofs.YtbcnekaagkdmeaaDoor
open Go.RowKit

def okS (rw : Int) (s : St) : Bool := decide (s.rows.toInt = rw) && statOk s
def rightF (c1 : Bool) (sq : Nat) (rw : Int) (kb : Bool) (sc : Nat) (L : List St) : Bool :=
  if c1 = false then false else if 1073741824 < sq then false else if rw < 0 then false else if 256 < rw then false else if L.all (okS rw) = false then false
  else if kb = true then decide (sc = 0) && decide (L.length = 1) else !decide (sc = 0) && (decide (1 ≤ L.length) && decide (L.length ≤ 8))
theorem rightE_eq (x : En) : rightE x = rightF (pathOk x.name) x.seq.toNat x.rows.toInt x.keys x.sch.toNat x.stats := by
  have hs : statsOk x.rows x.stats = x.stats.all (okS x.rows.toInt) := rfl
  unfold rightE rightF
  rw [hs]
  generalize x.rows.toInt = rw
  generalize x.seq.toNat = sq
  generalize x.stats.all (okS rw) = al
  cases pathOk x.name with
  | false => simp
  | true =>
    by_cases h1 : 1073741824 < sq
    · rw [decide_eq_false (show ¬ sq ≤ 1073741824 by omega)]; simp [h1]
    rw [decide_eq_true (show sq ≤ 1073741824 by omega)]
    by_cases h2 : rw < 0
    · rw [decide_eq_false (show ¬ 0 ≤ rw by omega)]; simp [h1, h2]
    rw [decide_eq_true (show 0 ≤ rw by omega)]
    by_cases h3 : 256 < rw
    · rw [decide_eq_false (show ¬ rw ≤ 256 by omega)]; simp [h1, h2, h3]
    rw [decide_eq_true (show rw ≤ 256 by omega)]
    cases al with
    | false => simp [h1, h2, h3]
    | true =>
      simp only [h1, h2, h3, Bool.true_and, if_false, Bool.true_eq_false]
      cases x.keys with
      | false => simp only [Bool.false_eq_true, if_false]; cases decide (1 ≤ x.stats.length) <;> cases decide (x.stats.length ≤ 8) <;> simp
      | true =>
        simp only [if_true]
        by_cases h4 : x.stats.length = 1
        · rw [decide_eq_true (show 1 ≤ x.stats.length by omega), decide_eq_true (show x.stats.length ≤ 8 by omega)]; simp
        · rw [decide_eq_false h4]; simp
theorem all_next {L : List St} {f : St → Bool} {k : Nat} (hk : k < L.length) (h : (L.take k).all f = true) (h2 : f (L.getD k default) = true) : (L.take (k + 1)).all f = true := by
  rw [List.take_add_one, List.all_append, h]
  simp [hk, List.getD] at h2 ⊢
  exact h2
theorem all_bad {L : List St} {f : St → Bool} {k : Nat} (hk : k < L.length) (h2 : f (L.getD k default) = false) : L.all f = false := by
  apply Bool.eq_false_iff.2
  intro q
  rw [List.all_eq_true] at q
  have := q _ (getD_mem hk)
  rw [h2] at this
  cases this
set_option maxRecDepth 100000 in
set_option maxHeartbeats 4000000 in
theorem entRight (w : World) (x : En) (SA : Option Addr) (sc : Nat) (hr : Rd w w.heap.size 10 SA x.stats.length sc (stsV x.stats)) : Calls Tryd.prog 12 #[.agg #[.string x.name, .bool x.keys, .int .u64 (x.seq.toNat : Int), .int .i64 x.rows.toInt, .int .u32 (x.sch.toNat : Int), .slice SA x.stats.length sc]] w (RetVal w (.bool (rightE x))) := by
  rw [rightE_eq]
  have HN := fun w => entNamed w x.name 
  have hsq := x.seq.toNat_lt
  have hsc := x.sch.toNat_lt
  have hll : x.stats.length ≤ 9223372036854775807 := by have h1 := hr.le; have h2 := hr.cap; unfold maxLen at h2; omega
  generalize pathOk x.name = c1 at *
  generalize x.name = nm at *
  generalize x.seq.toNat = sq at *
  generalize x.rows.toInt = rw at *
  generalize x.keys = kb at *
  generalize x.sch.toNat = sc32 at *
  generalize x.stats = L at *
  obtain ⟨R, hR⟩ : ∃ R, rightF c1 sq rw kb sc32 L = R := ⟨_, rfl⟩
  rw [hR]
  unfold rightF at hR
  have x0 := boxN_new w #[.string nm, .bool kb, .int .u64 (sq : Int), .int .i64 rw, .int .u32 (sc32 : Int), .slice SA L.length sc] 36
  have hb1 := (Below.refl w.heap.size w).alloc (Nat.le_refl _) (.cells #[.string nm, .bool kb, .int .u64 (sq : Int), .int .i64 rw, .int .u32 (sc32 : Int), .slice SA L.length sc] 36)
  go_enter Tryd.func12, Tryd.ntmps12
  go_wp2_with fail
  generalize w.alloc (.cells #[.string nm, .bool kb, .int .u64 (sq : Int), .int .i64 rw, .int .u32 (sc32 : Int), .slice SA L.length sc] 36) = w1 at *
  have HWS : Hid (∀ w', Below w.heap.size w w' → Rd w' w'.heap.size 10 SA L.length sc (stsV L)) := hide (fun w' hb => (hr.below hb).more hb.size)
  obtain ⟨bx, hbx⟩ : ∃ b, b = w.heap.size := ⟨_, rfl⟩
  rw [← hbx] at x0 ⊢
  clear hr hbx
  refine (HN w1).mono ?_
  rintro e w2 ⟨rfl, hb2⟩
  have X2 := x0.keep hb2 x0.z
  have hB2 := below_call hb1 hb1.size hb2
  clear x0 hb1 hb2 HN
  cases c1 with
  | false =>
    obtain rfl : R = false := by rw [← hR]; simp
    clear hR
    go_wp2_with fail
    go_ret
    exact ⟨rfl, hB2⟩
  | true =>
  have c2 := X2.cell 2 _ rfl
  have c3 := X2.cell 3 _ rfl
  by_cases h1 : 1073741824 < sq
  · obtain rfl : R = false := by rw [← hR]; simp [h1]
    have t1 : decide ((1073741824 : Int) < (sq : Int)) = true := decide_eq_true (by omega)
    clear hR
    go_wp2_with fail
    go_ret
    exact ⟨rfl, hB2⟩
  have t1 : decide ((1073741824 : Int) < (sq : Int)) = false := decide_eq_false (by omega)
  by_cases h2 : rw < 0
  · obtain rfl : R = false := by rw [← hR]; simp [h1, h2]
    have t2 : decide (rw < 0) = true := decide_eq_true h2
    clear hR
    go_wp2_with fail
    go_ret
    exact ⟨rfl, hB2⟩
  have t2 : decide (rw < 0) = false := decide_eq_false h2
  by_cases h3 : 256 < rw
  · obtain rfl : R = false := by rw [← hR]; simp [h1, h2, h3]
    have t3 : decide (256 < rw) = true := decide_eq_true h3
    clear hR
    go_wp2_with fail
    go_ret
    exact ⟨rfl, hB2⟩
  have t3 : decide (256 < rw) = false := decide_eq_false h3
  simp only [h1, h2, h3, if_false, Bool.true_eq_false] at hR
  have HR := hide hR
  clear hR h1 h2 h3
  have c5 := X2.cell 5 _ rfl
  go_wp2_with fail
  clear c2 c3 c5 t1 t2 t3
  go_loopw [27] (fun iv wr => ∃ k : Nat, iv = .int .i64 (k : Int) ∧ k ≤ L.length ∧ Hid ((L.take k).all (okS rw) = true) ∧ BoxN wr bx [.string nm, .bool kb, .int .u64 (sq : Int), .int .i64 rw, .int .u32 (sc32 : Int), .slice SA L.length sc] ∧ Below w.heap.size w wr) (fun iv _ => L.length - (intOf iv).toNat)
  case atStart => exact ⟨0, rfl, Nat.zero_le _, hide rfl, X2, hB2⟩
  case round =>
    clear X2 hB2
    obtain ⟨k, rfl, hk, hall, X, hB⟩ := hrel
    have c3 := X.cell 3 _ rfl
    by_cases hlt : k < L.length
    · have hrk := HWS.out _ hB
      obtain ⟨gb, off, hSA, hgb, hcells⟩ := hrk.stA hlt
      obtain ⟨s, hs⟩ : ∃ s, L.getD k default = s := ⟨_, rfl⟩
      obtain ⟨f0, f1, f2, f3, f4, f5, f6, f7, f8, f9⟩ := hcells s hs
      have HS := hide hs
      have hb9 := (Below.refl wr.heap.size wr).alloc (Nat.le_refl _) (.cells #[.int .i64 s.rows.toInt, .int .i64 s.nulls.toInt, .bool s.som, .bool s.high, .int .u8 (s.mn.kind.toNat : Int), .int .i64 s.mn.n.toInt, .string s.mn.s, .int .u8 (s.mx.kind.toNat : Int), .int .i64 s.mx.n.toInt, .string s.mx.s] 53)
      have X9 := X.keep hb9 X.z
      have s9 := boxN_new wr #[.int .i64 s.rows.toInt, .int .i64 s.nulls.toInt, .bool s.som, .bool s.high, .int .u8 (s.mn.kind.toNat : Int), .int .i64 s.mn.n.toInt, .string s.mn.s, .int .u8 (s.mx.kind.toNat : Int), .int .i64 s.mx.n.toInt, .string s.mx.s] 53
      have hB9 := below_call hB hB.size hb9
      have HX := hide (And.intro X9 hB9)
      have HALL := hide hall.out
      clear hs hrk hcells hb9 hB hall
      rw [hSA]
      have HSA := hide hSA
      clear hSA
      by_cases heq : s.rows.toInt = rw
      · have t5 : (s.rows.toInt != rw) = false := by rw [bne_eq_false_iff_eq]; exact heq
        have HEQ := hide heq
        clear heq X X9
        have c9 := HX.out.1.cell 3 _ rfl
        have d0 := s9.cell 0 _ rfl
        have c3' := c9
        go_wp2_with fail
        refine (entStat _ s).mono ?_
        rintro e w9 ⟨rfl, hb⟩
        have X10 := hide (HX.out.1.keep hb HX.out.1.z)
        have hB10 := below_call HX.out.2 HX.out.2.size hb
        clear f0 f1 f2 f3 f4 f5 f6 f7 f8 f9 c3 c9 d0 c3' s9 hb
        cases hok : statOk s with
        | false =>
          obtain rfl : R = false := by rw [← HR.out, all_bad hlt (by rw [HS.out]; unfold okS; rw [hok]; simp)]; simp
          clear hok
          go_wp2_with fail
          go_ret
          exact ⟨rfl, hB10⟩
        | true =>
          have HOK := hide (all_next hlt HALL.out (by rw [HS.out]; unfold okS; rw [hok, decide_eq_true HEQ.out]; rfl))
          clear hok
          go_wp2_with fail
          go_roundw
          case rel => exact ⟨k + 1, by go_num, hlt, hide HOK.out, by rw [← HSA.out]; exact X10.out, hB10⟩
          case measure => simp [intOf]; omega
      · have t5 : (s.rows.toInt != rw) = true := by rw [bne_iff_ne]; exact heq
        obtain rfl : R = false := by rw [← HR.out, all_bad hlt (by rw [HS.out]; unfold okS; rw [decide_eq_false heq]; rfl)]; simp
        clear heq X X9
        have c9 := HX.out.1.cell 3 _ rfl
        go_wp2_with fail
        go_ret
        exact ⟨rfl, HX.out.2⟩
    · have hR := HR.out
      have e0 : L.take k = L := by rw [show k = L.length by omega, List.take_length]
      have hal := hall.out
      rw [e0] at hal
      rw [hal] at hR
      simp only [Bool.true_eq_false, if_false] at hR
      have c1 := X.cell 1 _ rfl
      have c4 := X.cell 4 _ rfl
      have c5 := X.cell 5 _ rfl
      clear hall e0 hal
      cases kb with
      | true =>
        simp only [if_true] at hR
        by_cases g0 : sc32 = 0
        · have t6 : ((sc32 : Int) == 0) = true := by rw [beq_iff_eq]; omega
          by_cases g1 : L.length = 1
          · have t7 : ((L.length : Int) == 1) = true := by rw [beq_iff_eq]; omega
            obtain rfl : R = true := by rw [← hR]; simp [g0, g1]
            clear hR g0 g1
            go_wp2_with fail
            go_ret
            exact ⟨rfl, hB⟩
          · have t7 : ((L.length : Int) == 1) = false := by rw [beq_eq_false_iff_ne]; omega
            obtain rfl : R = false := by rw [← hR]; simp [g0, g1]
            clear hR g0 g1
            go_wp2_with fail
            go_ret
            exact ⟨rfl, hB⟩
        · have t6 : ((sc32 : Int) == 0) = false := by rw [beq_eq_false_iff_ne]; omega
          obtain rfl : R = false := by rw [← hR]; simp [g0]
          clear hR g0
          go_wp2_with fail
          go_ret
          exact ⟨rfl, hB⟩
      | false =>
        simp only [Bool.false_eq_true, if_false] at hR
        by_cases g0 : sc32 = 0
        · have t6 : ((sc32 : Int) != 0) = false := by rw [bne_eq_false_iff_eq]; omega
          obtain rfl : R = false := by rw [← hR]; simp [g0]
          clear hR g0
          go_wp2_with fail
          go_ret
          exact ⟨rfl, hB⟩
        · have t6 : ((sc32 : Int) != 0) = true := by rw [bne_iff_ne]; omega
          by_cases g1 : 1 ≤ L.length
          · have t7 : decide ((1 : Int) ≤ (L.length : Int)) = true := decide_eq_true (by omega)
            by_cases g2 : L.length ≤ 8
            · have t8 : decide ((L.length : Int) ≤ 8) = true := decide_eq_true (by omega)
              obtain rfl : R = true := by rw [← hR, decide_eq_false g0, decide_eq_true g1, decide_eq_true g2]; rfl
              clear hR g0 g1 g2
              go_wp2_with fail
              go_ret
              exact ⟨rfl, hB⟩
            · have t8 : decide ((L.length : Int) ≤ 8) = false := decide_eq_false (by omega)
              obtain rfl : R = false := by rw [← hR, decide_eq_false g0, decide_eq_true g1, decide_eq_false g2]; rfl
              clear hR g0 g1 g2
              go_wp2_with fail
              go_ret
              exact ⟨rfl, hB⟩
          · have t7 : decide ((1 : Int) ≤ (L.length : Int)) = false := decide_eq_false (by omega)
            obtain rfl : R = false := by rw [← hR, decide_eq_false g0, decide_eq_false g1]; rfl
            clear hR g0 g1
            go_wp2_with fail
            go_ret
            exact ⟨rfl, hB⟩
theorem len_bad {al kb : Bool} {sc n : Nat} {R : Bool} (hR : (if al = false then false else if kb = true then decide (sc = 0) && decide (n = 1) else !decide (sc = 0) && (decide (1 ≤ n) && decide (n ≤ 8))) = R) (h : n < 1 ∨ 8 < n) : R = false := by
  subst hR
  have h1 : decide (n = 1) = false := decide_eq_false (by omega)
  have h2 : (decide (1 ≤ n) && decide (n ≤ 8)) = false := by
    rcases h with h | h
    · rw [decide_eq_false (show ¬ 1 ≤ n by omega)]; rfl
    · rw [decide_eq_false (show ¬ n ≤ 8 by omega)]; simp
  rw [h1, h2]
  cases al <;> cases kb <;> simp
set_option maxRecDepth 100000 in
set_option maxHeartbeats 4000000 in
theorem refRight13 (w : World) (x : En) (SA : Option Addr) (sc : Nat) (hr : Rd w w.heap.size 10 SA x.stats.length sc (stsV x.stats)) (hms : x.name.size ≤ 9223372036854775807) : Calls Tryd.prog 13 #[.agg #[.string x.name, .bool x.keys, .int .u64 (x.seq.toNat : Int), .int .i64 x.rows.toInt, .int .u32 (x.sch.toNat : Int), .slice SA x.stats.length sc]] w (RetVal w (.bool (rightE x))) := by
  rw [rightE_eq]
  have HN := fun w => refNamed12 w x.name hms
  have hsq := x.seq.toNat_lt
  have hsc := x.sch.toNat_lt
  have hll : x.stats.length ≤ 9223372036854775807 := by have h1 := hr.le; have h2 := hr.cap; unfold maxLen at h2; omega
  clear hms
  generalize pathOk x.name = c1 at *
  generalize x.name = nm at *
  generalize x.seq.toNat = sq at *
  generalize x.rows.toInt = rw at *
  generalize x.keys = kb at *
  generalize x.sch.toNat = sc32 at *
  generalize x.stats = L at *
  obtain ⟨R, hR⟩ : ∃ R, rightF c1 sq rw kb sc32 L = R := ⟨_, rfl⟩
  rw [hR]
  unfold rightF at hR
  have x0 := boxN_new w #[.string nm, .bool kb, .int .u64 (sq : Int), .int .i64 rw, .int .u32 (sc32 : Int), .slice SA L.length sc] 36
  have hb1 := (Below.refl w.heap.size w).alloc (Nat.le_refl _) (.cells #[.string nm, .bool kb, .int .u64 (sq : Int), .int .i64 rw, .int .u32 (sc32 : Int), .slice SA L.length sc] 36)
  go_enter Tryd.func13, Tryd.ntmps13
  go_wp2_with fail
  generalize w.alloc (.cells #[.string nm, .bool kb, .int .u64 (sq : Int), .int .i64 rw, .int .u32 (sc32 : Int), .slice SA L.length sc] 36) = w1 at *
  have HWS : Hid (∀ w', Below w.heap.size w w' → Rd w' w'.heap.size 10 SA L.length sc (stsV L)) := hide (fun w' hb => (hr.below hb).more hb.size)
  obtain ⟨bx, hbx⟩ : ∃ b, b = w.heap.size := ⟨_, rfl⟩
  rw [← hbx] at x0 ⊢
  clear hr hbx
  refine (HN w1).mono ?_
  rintro e w2 ⟨rfl, hb2⟩
  have hb2 : Below w1.heap.size w1 w2 := hb2 ▸ Below.refl _ _
  have X2 := x0.keep hb2 x0.z
  have hB2 := below_call hb1 hb1.size hb2
  clear x0 hb1 hb2 HN
  cases c1 with
  | false =>
    obtain rfl : R = false := by rw [← hR]; simp
    clear hR
    go_wp2_with fail
    go_ret
    exact ⟨rfl, hB2⟩
  | true =>
  have c2 := X2.cell 2 _ rfl
  have c3 := X2.cell 3 _ rfl
  by_cases h1 : 1073741824 < sq
  · obtain rfl : R = false := by rw [← hR]; simp [h1]
    have t1 : decide ((1073741824 : Int) < (sq : Int)) = true := decide_eq_true (by omega)
    clear hR
    go_wp2_with fail
    go_ret
    exact ⟨rfl, hB2⟩
  have t1 : decide ((1073741824 : Int) < (sq : Int)) = false := decide_eq_false (by omega)
  by_cases h2 : rw < 0
  · obtain rfl : R = false := by rw [← hR]; simp [h1, h2]
    have t2 : decide (rw < 0) = true := decide_eq_true h2
    clear hR
    go_wp2_with fail
    go_ret
    exact ⟨rfl, hB2⟩
  have t2 : decide (rw < 0) = false := decide_eq_false h2
  by_cases h3 : 256 < rw
  · obtain rfl : R = false := by rw [← hR]; simp [h1, h2, h3]
    have t3 : decide (256 < rw) = true := decide_eq_true h3
    clear hR
    go_wp2_with fail
    go_ret
    exact ⟨rfl, hB2⟩
  have t3 : decide (256 < rw) = false := decide_eq_false h3
  simp only [h1, h2, h3, if_false, Bool.true_eq_false] at hR
  clear h1 h2 h3
  have c5 := X2.cell 5 _ rfl
  by_cases h5 : L.length < 1
  · obtain rfl : R = false := len_bad hR (.inl h5)
    have t4 : decide ((L.length : Int) < 1) = true := decide_eq_true (by omega)
    clear hR
    go_wp2_with fail
    go_ret
    exact ⟨rfl, hB2⟩
  have t4 : decide ((L.length : Int) < 1) = false := decide_eq_false (by omega)
  by_cases h6 : 8 < L.length
  · obtain rfl : R = false := len_bad hR (.inr h6)
    have t5 : decide ((8 : Int) < (L.length : Int)) = true := decide_eq_true (by omega)
    clear hR
    go_wp2_with fail
    go_ret
    exact ⟨rfl, hB2⟩
  have t5 : decide ((8 : Int) < (L.length : Int)) = false := decide_eq_false (by omega)
  have HR := hide hR
  have HLEN := hide (And.intro h5 h6)
  clear hR h5 h6
  go_wp2_with fail
  clear c2 c3 c5 t1 t2 t3 t4 t5
  go_loopw [3] (fun iv wr => ∃ k : Nat, iv = .int .i64 (k : Int) ∧ k ≤ L.length ∧ Hid ((L.take k).all (okS rw) = true) ∧ BoxN wr bx [.string nm, .bool kb, .int .u64 (sq : Int), .int .i64 rw, .int .u32 (sc32 : Int), .slice SA L.length sc] ∧ Below w.heap.size w wr) (fun iv _ => L.length - (intOf iv).toNat)
  case atStart => exact ⟨0, rfl, Nat.zero_le _, hide rfl, X2, hB2⟩
  case round =>
    clear X2 hB2
    obtain ⟨k, rfl, hk, hall, X, hB⟩ := hrel
    have c3 := X.cell 3 _ rfl
    have c5 := X.cell 5 _ rfl
    by_cases hlt : k < L.length
    · have hrk := HWS.out _ hB
      obtain ⟨gb, off, hSA, hgb, hcells⟩ := hrk.stA hlt
      obtain ⟨s, hs⟩ : ∃ s, L.getD k default = s := ⟨_, rfl⟩
      obtain ⟨f0, f1, f2, f3, f4, f5, f6, f7, f8, f9⟩ := hcells s hs
      have HS := hide hs
      have HX := hide (And.intro X hB)
      have HALL := hide hall.out
      have HSA := hide hSA
      rw [hSA] at c5
      have zx : bx < wr.drew.heap.size := X.z
      have zg : gb < wr.drew.heap.size := hgb
      clear hs hrk hcells hB hall hSA X
      go_upto_region 6 with fail
      by_cases heq : s.rows.toInt = rw
      · have t5 : (s.rows.toInt != rw) = false := by rw [bne_eq_false_iff_eq]; exact heq
        have HEQ := hide heq
        obtain ⟨ok, hok⟩ : ∃ ok, statOk s = ok := ⟨_, rfl⟩
        clear heq
        go_cut [59] from 35 to 59 (fun v wx => v = .bool (!ok) ∧ Below wr.heap.size wr wx)
        case first =>
          rename_i J K1 hJ hK1
          refine wp_region_abs ext_grow (by kernel_rfl) (by kernel_rfl) ?_
          simp only [List.map_cons, List.map_nil]
          refine wpA_value ext_grow ?_ (fun _ _ h => by cases h) rfl rfl ?_ ?_
          rotate_left 1
          · intro w' hw' C hC
            go_simp
            try go_bits
            exact hC
          simp only [putS, List.set_cons_succ, List.set_cons_zero]
          refine wpA_value ext_grow ?_ (fun _ _ h => by cases h) rfl rfl ?_ ?_
          rotate_left 1
          · intro w' hw' C hC
            have q5 := (hw'.cell (p := ⟨bx, 5, none⟩) zx).trans c5
            go_simp
            try go_bits
            exact hC
          simp only [putS, List.set_cons_succ, List.set_cons_zero]
          refine wpA_value ext_grow ?_ (fun _ _ h => by cases h) rfl rfl ?_ ?_
          rotate_left 1
          · intro w' hw' C hC
            go_simp
            try go_bits
            exact hC
          simp only [putS, List.set_cons_succ, List.set_cons_zero]
          refine wpA_value ext_grow ?_ (fun _ _ h => by cases h) rfl rfl ?_ ?_
          rotate_left 1
          · intro w' hw' C hC
            go_simp
            try go_bits
            exact hC
          simp only [putS, List.set_cons_succ, List.set_cons_zero]
          refine wpA_value ext_grow ?_ (fun _ _ h => by cases h) rfl rfl ?_ ?_
          rotate_left 1
          · intro w' hw' C hC
            go_simp
            try go_bits
            exact hC
          simp only [putS, List.set_cons_succ, List.set_cons_zero]
          refine wpA_value ext_grow ?_ (fun _ _ h => by cases h) rfl rfl ?_ ?_
          rotate_left 1
          · intro w' hw' C hC
            have g0 := (hw'.cell (p := ⟨gb, off + k * 10, none⟩) zg).trans f0
            go_simp
            try go_bits
            exact hC
          simp only [putS, List.set_cons_succ, List.set_cons_zero]
          refine wpA_value ext_grow ?_ (fun _ _ h => by cases h) rfl rfl ?_ ?_
          rotate_left 1
          · intro w' hw' C hC
            go_simp
            try go_bits
            exact hC
          simp only [putS, List.set_cons_succ, List.set_cons_zero]
          refine wpA_value ext_grow ?_ (fun _ _ h => by cases h) rfl rfl ?_ ?_
          rotate_left 1
          · intro w' hw' C hC
            have q3 := (hw'.cell (p := ⟨bx, 3, none⟩) zx).trans c3
            go_simp
            try go_bits
            exact hC
          simp only [putS, List.set_cons_succ, List.set_cons_zero]
          refine wpA_value ext_grow ?_ (fun _ _ h => by cases h) rfl rfl ?_ ?_
          rotate_left 1
          · intro w' hw' C hC
            go_simp
            try go_bits
            exact hC
          simp only [putS, List.set_cons_succ, List.set_cons_zero]
          refine wpA_value ext_grow ?_ (fun _ _ h => by cases h) rfl rfl ?_ ?_
          rotate_left 1
          · intro w' hw' C hC
            go_simp
            try go_bits
            exact hC
          simp only [putS, List.set_cons_succ, List.set_cons_zero]
          refine wpA_value ext_grow ?_ (fun _ _ h => by cases h) rfl rfl ?_ ?_
          rotate_left 1
          · intro w' hw' C hC
            go_simp
            try go_bits
            exact hC
          simp only [putS, List.set_cons_succ, List.set_cons_zero]
          refine wpA_value ext_grow ?_ (fun _ _ h => by cases h) rfl rfl ?_ ?_
          rotate_left 1
          · intro w' hw' C hC
            have q5 := (hw'.cell (p := ⟨bx, 5, none⟩) zx).trans c5
            go_simp
            try go_bits
            exact hC
          simp only [putS, List.set_cons_succ, List.set_cons_zero]
          refine wpA_value ext_grow ?_ (fun _ _ h => by cases h) rfl rfl ?_ ?_
          rotate_left 1
          · intro w' hw' C hC
            go_simp
            try go_bits
            exact hC
          simp only [putS, List.set_cons_succ, List.set_cons_zero]
          refine wpA_value ext_grow ?_ (fun _ _ h => by cases h) rfl rfl ?_ ?_
          rotate_left 1
          · intro w' hw' C hC
            go_simp
            try go_bits
            exact hC
          simp only [putS, List.set_cons_succ, List.set_cons_zero]
          refine wpA_value ext_grow ?_ (fun _ _ h => by cases h) rfl rfl ?_ ?_
          rotate_left 1
          · intro w' hw' C hC
            have g0 := (hw'.cell (p := ⟨gb, off + k * 10, none⟩) zg).trans f0
            have g1 := (hw'.cell (p := ⟨gb, off + k * 10 + 1, none⟩) zg).trans f1
            have g2 := (hw'.cell (p := ⟨gb, off + k * 10 + 2, none⟩) zg).trans f2
            have g3 := (hw'.cell (p := ⟨gb, off + k * 10 + 3, none⟩) zg).trans f3
            have g4 := (hw'.cell (p := ⟨gb, off + k * 10 + 4, none⟩) zg).trans f4
            have g5 := (hw'.cell (p := ⟨gb, off + k * 10 + 5, none⟩) zg).trans f5
            have g6 := (hw'.cell (p := ⟨gb, off + k * 10 + 6, none⟩) zg).trans f6
            have g7 := (hw'.cell (p := ⟨gb, off + k * 10 + 7, none⟩) zg).trans f7
            have g8 := (hw'.cell (p := ⟨gb, off + k * 10 + 8, none⟩) zg).trans f8
            have g9 := (hw'.cell (p := ⟨gb, off + k * 10 + 9, none⟩) zg).trans f9
            go_simp
            try go_bits
            exact hC
          simp only [putS, List.set_cons_succ, List.set_cons_zero]
          refine wpA_known (.is (.bool ok)) (fun _ _ h => by cases h) rfl rfl (mono_is _) (fun w' hw' => ?_) ?_
          · go_simp
            exact ⟨Below.refl _ _, (refStat13 w' s).mono fun e w'' h => is_ret (show e = .returned (.bool ok) from by rw [← hok]; exact h.1) h.2⟩
          simp only [putS, List.set_cons_succ, List.set_cons_zero]
          refine wpA_value ext_grow ?_ (fun _ _ h => by cases h) rfl rfl ?_ ?_
          rotate_left 1
          · intro w' hw' C hC
            go_simp
            try go_bits
            exact hC
          simp only [putS, List.set_cons_succ, List.set_cons_zero]
          refine wpA_value ext_grow ?_ (fun _ _ h => by cases h) rfl rfl ?_ ?_
          rotate_left 1
          · intro w' hw' C hC
            go_simp
            try go_bits
            exact hC
          simp only [putS, List.set_cons_succ, List.set_cons_zero]
          intro wd hwd
          simp only [openS]
          refine hK1 _ _ ?_
          go_meet
          exact ⟨rfl, below_of_drew hwd⟩
        case rest =>
        obtain ⟨rfl, hbd⟩ := hcut
        have X10 := hide (HX.out.1.keep hbd HX.out.1.z)
        have hB10 := below_call HX.out.2 HX.out.2.size hbd
        clear f0 f1 f2 f3 f4 f5 f6 f7 f8 f9 c3 c5 hbd zx zg
        cases ok with
        | false =>
          obtain rfl : R = false := by rw [← HR.out, all_bad hlt (by rw [HS.out]; unfold okS; rw [hok]; simp)]; simp
          clear hok
          go_wp2_with fail
          go_ret
          exact ⟨rfl, hB10⟩
        | true =>
          have HOK := hide (all_next hlt HALL.out (by rw [HS.out]; unfold okS; rw [hok, decide_eq_true HEQ.out]; rfl))
          clear hok
          go_wp2_with fail
          go_roundw
          case rel => exact ⟨k + 1, by go_num, hlt, hide HOK.out, X10.out, hB10⟩
          case measure => simp [intOf]; omega
      · have t5 : (s.rows.toInt != rw) = true := by rw [bne_iff_ne]; exact heq
        obtain rfl : R = false := by rw [← HR.out, all_bad hlt (by rw [HS.out]; unfold okS; rw [decide_eq_false heq]; rfl)]; simp
        clear heq
        go_cut [59] from 35 to 59 (fun v wx => v = .bool true ∧ Below wr.heap.size wr wx)
        case first =>
          rename_i J K1 hJ hK1
          refine wp_region_abs ext_grow (by kernel_rfl) (by kernel_rfl) ?_
          simp only [List.map_cons, List.map_nil]
          refine wpA_value ext_grow ?_ (fun _ _ h => by cases h) rfl rfl ?_ ?_
          rotate_left 1
          · intro w' hw' C hC
            go_simp
            try go_bits
            exact hC
          simp only [putS, List.set_cons_succ, List.set_cons_zero]
          refine wpA_value ext_grow ?_ (fun _ _ h => by cases h) rfl rfl ?_ ?_
          rotate_left 1
          · intro w' hw' C hC
            have q5 := (hw'.cell (p := ⟨bx, 5, none⟩) zx).trans c5
            go_simp
            try go_bits
            exact hC
          simp only [putS, List.set_cons_succ, List.set_cons_zero]
          refine wpA_value ext_grow ?_ (fun _ _ h => by cases h) rfl rfl ?_ ?_
          rotate_left 1
          · intro w' hw' C hC
            go_simp
            try go_bits
            exact hC
          simp only [putS, List.set_cons_succ, List.set_cons_zero]
          refine wpA_value ext_grow ?_ (fun _ _ h => by cases h) rfl rfl ?_ ?_
          rotate_left 1
          · intro w' hw' C hC
            go_simp
            try go_bits
            exact hC
          simp only [putS, List.set_cons_succ, List.set_cons_zero]
          refine wpA_value ext_grow ?_ (fun _ _ h => by cases h) rfl rfl ?_ ?_
          rotate_left 1
          · intro w' hw' C hC
            go_simp
            try go_bits
            exact hC
          simp only [putS, List.set_cons_succ, List.set_cons_zero]
          refine wpA_value ext_grow ?_ (fun _ _ h => by cases h) rfl rfl ?_ ?_
          rotate_left 1
          · intro w' hw' C hC
            have g0 := (hw'.cell (p := ⟨gb, off + k * 10, none⟩) zg).trans f0
            go_simp
            try go_bits
            exact hC
          simp only [putS, List.set_cons_succ, List.set_cons_zero]
          refine wpA_value ext_grow ?_ (fun _ _ h => by cases h) rfl rfl ?_ ?_
          rotate_left 1
          · intro w' hw' C hC
            go_simp
            try go_bits
            exact hC
          simp only [putS, List.set_cons_succ, List.set_cons_zero]
          refine wpA_value ext_grow ?_ (fun _ _ h => by cases h) rfl rfl ?_ ?_
          rotate_left 1
          · intro w' hw' C hC
            have q3 := (hw'.cell (p := ⟨bx, 3, none⟩) zx).trans c3
            go_simp
            try go_bits
            exact hC
          simp only [putS, List.set_cons_succ, List.set_cons_zero]
          refine wpA_value ext_grow ?_ (fun _ _ h => by cases h) rfl rfl ?_ ?_
          rotate_left 1
          · intro w' hw' C hC
            go_simp
            try go_bits
            exact hC
          simp only [putS, List.set_cons_succ, List.set_cons_zero]
          refine wpA_value ext_grow ?_ (fun _ _ h => by cases h) rfl rfl ?_ ?_
          rotate_left 1
          · intro w' hw' C hC
            go_simp
            try go_bits
            exact hC
          simp only [putS, List.set_cons_succ, List.set_cons_zero]
          refine wpA_skip rfl rfl ?_
          simp only [putS, List.set_cons_succ, List.set_cons_zero]
          refine wpA_skip rfl rfl ?_
          simp only [putS, List.set_cons_succ, List.set_cons_zero]
          refine wpA_skip rfl rfl ?_
          simp only [putS, List.set_cons_succ, List.set_cons_zero]
          refine wpA_skip rfl rfl ?_
          simp only [putS, List.set_cons_succ, List.set_cons_zero]
          refine wpA_skip rfl rfl ?_
          simp only [putS, List.set_cons_succ, List.set_cons_zero]
          refine wpA_skip rfl rfl ?_
          simp only [putS, List.set_cons_succ, List.set_cons_zero]
          refine wpA_skip rfl rfl ?_
          simp only [putS, List.set_cons_succ, List.set_cons_zero]
          refine wpA_value ext_grow ?_ (fun _ _ h => by cases h) rfl rfl ?_ ?_
          rotate_left 1
          · intro w' hw' C hC
            go_simp
            try go_bits
            exact hC
          simp only [putS, List.set_cons_succ, List.set_cons_zero]
          intro wd hwd
          simp only [openS]
          refine hK1 _ _ ?_
          go_meet
          exact ⟨rfl, below_of_drew hwd⟩
        case rest =>
        obtain ⟨rfl, hbd⟩ := hcut
        have hB10 := below_call HX.out.2 HX.out.2.size hbd
        go_wp2_with fail
        go_ret
        exact ⟨rfl, hB10⟩
    · have hR := HR.out
      have e0 : L.take k = L := by rw [show k = L.length by omega, List.take_length]
      have hal := hall.out
      rw [e0] at hal
      rw [hal] at hR
      simp only [Bool.true_eq_false, if_false] at hR
      have c1 := X.cell 1 _ rfl
      have c4 := X.cell 4 _ rfl
      have c5 := X.cell 5 _ rfl
      clear hall e0 hal
      cases kb with
      | true =>
        simp only [if_true] at hR
        by_cases g0 : sc32 = 0
        · have t6 : ((sc32 : Int) == 0) = true := by rw [beq_iff_eq]; omega
          by_cases g1 : L.length = 1
          · have t7 : ((L.length : Int) == 1) = true := by rw [beq_iff_eq]; omega
            obtain rfl : R = true := by rw [← hR]; simp [g0, g1]
            clear hR g0 g1
            go_wp2_with fail
            go_ret
            exact ⟨rfl, hB⟩
          · have t7 : ((L.length : Int) == 1) = false := by rw [beq_eq_false_iff_ne]; omega
            obtain rfl : R = false := by rw [← hR]; simp [g0, g1]
            clear hR g0 g1
            go_wp2_with fail
            go_ret
            exact ⟨rfl, hB⟩
        · have t6 : ((sc32 : Int) == 0) = false := by rw [beq_eq_false_iff_ne]; omega
          obtain rfl : R = false := by rw [← hR]; simp [g0]
          clear hR g0
          go_wp2_with fail
          go_ret
          exact ⟨rfl, hB⟩
      | false =>
        simp only [Bool.false_eq_true, if_false] at hR
        by_cases g0 : sc32 = 0
        · have t6 : ((sc32 : Int) != 0) = false := by rw [bne_eq_false_iff_eq]; omega
          obtain rfl : R = false := by rw [← hR]; simp [g0]
          clear hR g0
          go_wp2_with fail
          go_ret
          exact ⟨rfl, hB⟩
        · have t6 : ((sc32 : Int) != 0) = true := by rw [bne_iff_ne]; omega
          obtain ⟨m1, m2⟩ := HLEN.out
          obtain rfl : R = true := by rw [← hR, decide_eq_false g0, decide_eq_true (show 1 ≤ L.length by omega), decide_eq_true (show L.length ≤ 8 by omega)]; rfl
          clear hR g0 m1 m2
          go_wp2_with fail
          go_ret
          exact ⟨rfl, hB⟩
end Go.Proofs.YtbcnekaagkdmeaaDoor
