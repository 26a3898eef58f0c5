/- THE WALKS of which statistics may be: entry.stat, and the document's Stat. No statement of the seat is proved here; no condition. -/
import Derived.Test.YtbcnekaagkdmeaaDoorEnR
namespace Go.Proofs.YtbcnekaagkdmeaaDoor
open Go.RowKit

def zOk (k : Nat) (n : Int) (s : ByteArray) : Bool := decide (k = 0) && (decide (n = 0) && decide (s.toList = []))
theorem isZ_eq (c : Ce) : isZ c = zOk c.kind.toNat c.n.toInt c.s := by
  unfold isZ zOk
  rw [show decide (c.s.size = 0) = decide (c.s.toList = []) by
    rw [Bool.eq_iff_iff]; simp only [decide_eq_true_eq]
    rw [Lib.toList_data, Lib.size_eq]
    exact List.length_eq_zero_iff]
def statF (rw nl : Int) (som high b1 b2 z1 z2 : Bool) (k1 k2 : Nat) : Bool :=
  if nl < 0 then false else if rw < nl then false else if 256 < rw then false else if som = true then (if nl < rw then (if high = true then b1 && (b2 && decide (k1 = k2)) else b1 && z2) else false) else (if nl < rw then false else !high && (z1 && z2))
theorem statOk_eq (s : St) : statOk s = statF s.rows.toInt s.nulls.toInt s.som s.high (bndOk s.mn) (bndOk s.mx) (zOk s.mn.kind.toNat s.mn.n.toInt s.mn.s) (zOk s.mx.kind.toNat s.mx.n.toInt s.mx.s) s.mn.kind.toNat s.mx.kind.toNat := by
  rw [← isZ_eq, ← isZ_eq]
  unfold statOk statF
  generalize s.rows.toInt = rw
  generalize s.nulls.toInt = nl
  by_cases h1 : nl < 0
  · rw [if_pos h1, decide_eq_false (show ¬ 0 ≤ nl by omega)]; rfl
  rw [if_neg h1, decide_eq_true (show 0 ≤ nl by omega)]
  by_cases h2 : rw < nl
  · rw [if_pos h2, decide_eq_false (show ¬ nl ≤ rw by omega)]; simp
  rw [if_neg h2, decide_eq_true (show nl ≤ rw by omega)]
  by_cases h3 : 256 < rw
  · rw [if_pos h3, decide_eq_false (show ¬ rw ≤ 256 by omega)]; simp
  rw [if_neg h3, decide_eq_true (show rw ≤ 256 by omega)]
  simp only [Bool.true_and]
  cases s.som with
  | true =>
    simp only [if_true]
    by_cases h4 : nl < rw
    · rw [if_pos h4, decide_eq_true h4]; cases s.high <;> simp
    · rw [if_neg h4, decide_eq_false h4]; simp
  | false =>
    simp only [Bool.false_eq_true, if_false]
    by_cases h4 : nl < rw
    · rw [if_pos h4, decide_eq_false (show ¬ nl = rw by omega)]; simp
    · rw [if_neg h4, decide_eq_true (show nl = rw by omega)]; simp
set_option maxRecDepth 100000 in
set_option maxHeartbeats 4000000 in
theorem entStat (w : World) (s : St) : Calls Tryd.prog 28 #[.agg #[.int .i64 s.rows.toInt, .int .i64 s.nulls.toInt, .bool s.som, .bool s.high, .int .u8 (s.mn.kind.toNat : Int), .int .i64 s.mn.n.toInt, .string s.mn.s, .int .u8 (s.mx.kind.toNat : Int), .int .i64 s.mx.n.toInt, .string s.mx.s]] w (RetVal w (.bool (statOk s))) := by
  rw [statOk_eq]
  have H1 := fun w => entCell w s.mn
  have H2 := fun w => entCell w s.mx
  generalize bndOk s.mn = b1 at *
  generalize bndOk s.mx = b2 at *
  obtain ⟨R, hR⟩ : ∃ R, statF s.rows.toInt s.nulls.toInt s.som s.high b1 b2 (zOk s.mn.kind.toNat s.mn.n.toInt s.mn.s) (zOk s.mx.kind.toNat s.mx.n.toInt s.mx.s) s.mn.kind.toNat s.mx.kind.toNat = R := ⟨_, rfl⟩
  rw [hR]
  have hk1 : s.mn.kind.toNat < 256 := s.mn.kind.toNat_lt
  have hk2 : s.mx.kind.toNat < 256 := s.mx.kind.toNat_lt
  generalize s.rows.toInt = rw at *
  generalize s.nulls.toInt = nl at *
  generalize s.som = som at *
  generalize s.high = high at *
  generalize s.mn.kind.toNat = k1 at *
  generalize s.mn.n.toInt = n1 at *
  generalize s.mn.s = s1 at *
  generalize s.mx.kind.toNat = k2 at *
  generalize s.mx.n.toInt = n2 at *
  generalize s.mx.s = s2 at *
  unfold statF at hR
  by_cases h1 : nl < 0
  · obtain rfl : R = false := by rw [← hR]; simp [h1]
    have t1 : decide (nl < 0) = true := decide_eq_true h1
    clear hR h1
    go_enter Tryd.func28, Tryd.ntmps28
    go_wp2_with fail
    go_ret
    exact ⟨rfl, (Below.refl w.heap.size w).alloc (Nat.le_refl _) _⟩
  have t1 : decide (nl < 0) = false := decide_eq_false h1
  by_cases h2 : rw < nl
  · obtain rfl : R = false := by rw [← hR]; simp [h1, h2]
    have t2 : decide (rw < nl) = true := decide_eq_true h2
    clear hR h1 h2
    go_enter Tryd.func28, Tryd.ntmps28
    go_wp2_with fail
    go_ret
    exact ⟨rfl, (Below.refl w.heap.size w).alloc (Nat.le_refl _) _⟩
  have t2 : decide (rw < nl) = false := decide_eq_false h2
  by_cases h3 : (256 : Int) < rw
  · obtain rfl : R = false := by rw [← hR]; simp [h1, h2, h3]
    have t3 : decide ((256 : Int) < rw) = true := decide_eq_true h3
    clear hR h1 h2 h3
    go_enter Tryd.func28, Tryd.ntmps28
    go_wp2_with fail
    go_ret
    exact ⟨rfl, (Below.refl w.heap.size w).alloc (Nat.le_refl _) _⟩
  have t3 : decide ((256 : Int) < rw) = false := decide_eq_false h3
  rw [if_neg h1, if_neg h2, if_neg h3] at hR
  have hx0 := boxN_new w #[.int .i64 rw, .int .i64 nl, .bool som, .bool high, .int .u8 (k1 : Int), .int .i64 n1, .string s1, .int .u8 (k2 : Int), .int .i64 n2, .string s2] 53
  have hb1 := (Below.refl w.heap.size w).alloc (Nat.le_refl _) (.cells #[.int .i64 rw, .int .i64 nl, .bool som, .bool high, .int .u8 (k1 : Int), .int .i64 n1, .string s1, .int .u8 (k2 : Int), .int .i64 n2, .string s2] 53)
  clear h1 h2 h3
  by_cases h4 : nl < rw
  · have t4 : decide (nl < rw) = true := decide_eq_true h4
    cases som with
    | true =>
      cases high with
      | false =>
        replace hR : (b1 && zOk k2 n2 s2) = R := by rw [← hR]; simp [h4]
        clear h4
        go_enter Tryd.func28, Tryd.ntmps28
        go_wp2_with fail
        refine (H1 _).mono ?_
        rintro e w2 ⟨rfl, hb2⟩
        have hx2 := hx0.keep hb2 hx0.z
        have hB2 := below_call hb1 hb1.size hb2
        have c7 := hx2.cell 7 _ rfl
        have c8 := hx2.cell 8 _ rfl
        have c9 := hx2.cell 9 _ rfl
        cases b1 with
        | false =>
          obtain rfl : R = false := by rw [← hR]; simp
          clear hR
          go_wp2_with fail
          go_ret
          exact ⟨rfl, hB2⟩
        | true =>
          simp only [Bool.true_and] at hR
          have HR := hide hR
          clear hR
          go_wp2_with fail
          all_goals go_ret
          all_goals refine ⟨?_, hB2⟩
          all_goals (rw [← HR.out]; simp [zOk, *])
      | true =>
        replace hR : (b1 && (b2 && decide (k1 = k2))) = R := by rw [← hR]; simp [h4]
        clear h4
        go_enter Tryd.func28, Tryd.ntmps28
        go_wp2_with fail
        refine (H1 _).mono ?_
        rintro e w2 ⟨rfl, hb2⟩
        have hx2 := hx0.keep hb2 hx0.z
        have hB2 := below_call hb1 hb1.size hb2
        have c7 := hx2.cell 7 _ rfl
        have c8 := hx2.cell 8 _ rfl
        have c9 := hx2.cell 9 _ rfl
        cases b1 with
        | false =>
          obtain rfl : R = false := by rw [← hR]; simp
          clear hR
          go_wp2_with fail
          go_ret
          exact ⟨rfl, hB2⟩
        | true =>
          simp only [Bool.true_and] at hR
          go_wp2_with fail
          refine (H2 _).mono ?_
          rintro e w3 ⟨rfl, hb3⟩
          have hx3 := hx2.keep hb3 hx2.z
          have hB3 := below_call hB2 hB2.size hb3
          have d4 := hx3.cell 4 _ rfl
          have d7 := hx3.cell 7 _ rfl
          clear c7 c8 c9
          cases b2 with
          | false =>
            obtain rfl : R = false := by rw [← hR]; simp
            clear hR
            go_wp2_with fail
            go_ret
            exact ⟨rfl, hB3⟩
          | true =>
            simp only [Bool.true_and] at hR
            by_cases hkk : k1 = k2
            · have t7 : ((k1 : Int) == (k2 : Int)) = true := by rw [beq_iff_eq]; omega
              have t8 : ((k2 : Int) == (k1 : Int)) = true := by rw [beq_iff_eq]; omega
              obtain rfl : R = true := by rw [← hR]; exact decide_eq_true hkk
              clear hkk hR
              go_wp2_with fail
              go_ret
              exact ⟨rfl, hB3⟩
            · have t7 : ((k1 : Int) == (k2 : Int)) = false := by rw [beq_eq_false_iff_ne]; omega
              have t8 : ((k2 : Int) == (k1 : Int)) = false := by rw [beq_eq_false_iff_ne]; omega
              obtain rfl : R = false := by rw [← hR]; exact decide_eq_false hkk
              clear hkk hR
              go_wp2_with fail
              go_ret
              exact ⟨rfl, hB3⟩
    | false =>
      obtain rfl : R = false := by rw [← hR]; simp [h4]
      clear hR h4
      go_enter Tryd.func28, Tryd.ntmps28
      go_wp2_with fail
      go_ret
      exact ⟨rfl, (Below.refl w.heap.size w).alloc (Nat.le_refl _) _⟩
  · have t4 : decide (nl < rw) = false := decide_eq_false h4
    cases som with
    | true =>
      obtain rfl : R = false := by rw [← hR]; simp [h4]
      clear hR h4
      go_enter Tryd.func28, Tryd.ntmps28
      go_wp2_with fail
      go_ret
      exact ⟨rfl, (Below.refl w.heap.size w).alloc (Nat.le_refl _) _⟩
    | false =>
      cases high with
      | true =>
        obtain rfl : R = false := by rw [← hR]; simp [h4]
        clear hR h4
        go_enter Tryd.func28, Tryd.ntmps28
        go_wp2_with fail
        go_ret
        exact ⟨rfl, (Below.refl w.heap.size w).alloc (Nat.le_refl _) _⟩
      | false =>
        replace hR : (zOk k1 n1 s1 && zOk k2 n2 s2) = R := by rw [← hR]; simp [h4]
        rw [← hR]
        clear hR h4
        go_enter Tryd.func28, Tryd.ntmps28
        go_wp2_with fail
        all_goals go_ret
        all_goals refine ⟨?_, (Below.refl w.heap.size w).alloc (Nat.le_refl _) _⟩
        all_goals simp [zOk, *]
set_option maxRecDepth 100000 in
set_option maxHeartbeats 4000000 in
theorem refStat13 (w : World) (s : St) : Calls Tryd.prog 30 #[.agg #[.int .i64 s.rows.toInt, .int .i64 s.nulls.toInt, .bool s.som, .bool s.high, .int .u8 (s.mn.kind.toNat : Int), .int .i64 s.mn.n.toInt, .string s.mn.s, .int .u8 (s.mx.kind.toNat : Int), .int .i64 s.mx.n.toInt, .string s.mx.s]] w (RetVal w (.bool (statOk s))) := by
  rw [statOk_eq]
  have H1 := fun w => refBound w s.mn
  have H2 := fun w => refBound w s.mx
  generalize bndOk s.mn = b1 at *
  generalize bndOk s.mx = b2 at *
  obtain ⟨R, hR⟩ : ∃ R, statF s.rows.toInt s.nulls.toInt s.som s.high b1 b2 (zOk s.mn.kind.toNat s.mn.n.toInt s.mn.s) (zOk s.mx.kind.toNat s.mx.n.toInt s.mx.s) s.mn.kind.toNat s.mx.kind.toNat = R := ⟨_, rfl⟩
  rw [hR]
  have hk1 : s.mn.kind.toNat < 256 := s.mn.kind.toNat_lt
  have hk2 : s.mx.kind.toNat < 256 := s.mx.kind.toNat_lt
  generalize s.rows.toInt = rw at *
  generalize s.nulls.toInt = nl at *
  generalize s.som = som at *
  generalize s.high = high at *
  generalize s.mn.kind.toNat = k1 at *
  generalize s.mn.n.toInt = n1 at *
  generalize s.mn.s = s1 at *
  generalize s.mx.kind.toNat = k2 at *
  generalize s.mx.n.toInt = n2 at *
  generalize s.mx.s = s2 at *
  unfold statF at hR
  by_cases h1 : nl < 0
  · obtain rfl : R = false := by rw [← hR]; simp [h1]
    have t1 : decide (nl < 0) = true := decide_eq_true h1
    clear hR h1
    go_enter Tryd.func30, Tryd.ntmps30
    go_wp2_with fail
    go_ret
    exact ⟨rfl, ((Below.refl w.heap.size w).alloc (Nat.le_refl _) _).alloc (by simp) _⟩
  have t1 : decide (nl < 0) = false := decide_eq_false h1
  by_cases h3 : (256 : Int) < rw
  · obtain rfl : R = false := by rw [← hR]; simp [h1, h3]
    have t3 : decide ((256 : Int) < rw) = true := decide_eq_true h3
    clear hR h1 h3
    go_enter Tryd.func30, Tryd.ntmps30
    go_wp2_with fail
    go_ret
    exact ⟨rfl, ((Below.refl w.heap.size w).alloc (Nat.le_refl _) _).alloc (by simp) _⟩
  have t3 : decide ((256 : Int) < rw) = false := decide_eq_false h3
  by_cases h2 : rw < nl
  · obtain rfl : R = false := by rw [← hR]; simp [h1, h3, h2]
    have t2 : decide (rw < nl) = true := decide_eq_true h2
    clear hR h1 h3 h2
    go_enter Tryd.func30, Tryd.ntmps30
    go_wp2_with fail
    go_ret
    exact ⟨rfl, ((Below.refl w.heap.size w).alloc (Nat.le_refl _) _).alloc (by simp) _⟩
  have t2 : decide (rw < nl) = false := decide_eq_false h2
  rw [if_neg h1, if_neg h2, if_neg h3] at hR
  have hx0 := boxN_new w #[.int .i64 rw, .int .i64 nl, .bool som, .bool high, .int .u8 (k1 : Int), .int .i64 n1, .string s1, .int .u8 (k2 : Int), .int .i64 n2, .string s2] 53
  have hb1 := (Below.refl w.heap.size w).alloc (Nat.le_refl _) (.cells #[.int .i64 rw, .int .i64 nl, .bool som, .bool high, .int .u8 (k1 : Int), .int .i64 n1, .string s1, .int .u8 (k2 : Int), .int .i64 n2, .string s2] 53)
  have hle : nl ≤ rw := by omega
  clear h1 h2 h3
  by_cases h4 : nl < rw
  · have t4 : decide (nl < rw) = true := decide_eq_true h4
    have t5 : (nl == rw) = false := by rw [beq_eq_false_iff_ne]; omega
    have t6 : (nl != rw) = true := by rw [bne_iff_ne]; omega
    cases som with
    | true =>
      cases high with
      | false =>
        replace hR : (b1 && zOk k2 n2 s2) = R := by rw [← hR]; simp [h4]
        clear h4
        go_enter Tryd.func30, Tryd.ntmps30
        go_wp2_with fail
        refine (H1 _).mono ?_
        rintro e w2 ⟨rfl, hb2⟩
        have hbz := ((Below.refl w.heap.size w).alloc (Nat.le_refl _) (.cells #[.int .i64 rw, .int .i64 nl, .bool true, .bool false, .int .u8 (k1 : Int), .int .i64 n1, .string s1, .int .u8 (k2 : Int), .int .i64 n2, .string s2] 53))
        have z0 := boxN_new (w.alloc (.cells #[.int .i64 rw, .int .i64 nl, .bool true, .bool false, .int .u8 (k1 : Int), .int .i64 n1, .string s1, .int .u8 (k2 : Int), .int .i64 n2, .string s2] 53)) #[.int .u8 0, .int .i64 0, .string ⟨#[]⟩] 51
        have hbz2 := (Below.refl _ (w.alloc (.cells #[.int .i64 rw, .int .i64 nl, .bool true, .bool false, .int .u8 (k1 : Int), .int .i64 n1, .string s1, .int .u8 (k2 : Int), .int .i64 n2, .string s2] 53))).alloc (Nat.le_refl _) (.cells #[.int .u8 0, .int .i64 0, .string ⟨#[]⟩] 51)
        have hx1 := hx0.keep hbz2 hx0.z
        have hx2 := hx1.keep hb2 hx1.z
        have z2 := z0.keep hb2 z0.z
        have hzz : (w.alloc (.cells #[.int .i64 rw, .int .i64 nl, .bool true, .bool false, .int .u8 (k1 : Int), .int .i64 n1, .string s1, .int .u8 (k2 : Int), .int .i64 n2, .string s2] 53)).heap.size = w.heap.size + 1 := by simp
        rw [hzz] at z2
        have zc0 := z2.cell 0 _ rfl
        have zc1 := z2.cell 1 _ rfl
        have zc2 := z2.cell 2 _ rfl
        have hB1 := below_call hb1 hb1.size hbz2
        have hB2 := below_call hB1 hB1.size hb2
        have c7 := hx2.cell 7 _ rfl
        have c8 := hx2.cell 8 _ rfl
        have c9 := hx2.cell 9 _ rfl
        cases b1 with
        | false =>
          obtain rfl : R = false := by rw [← hR]; simp
          clear hR
          go_wp2_with fail
          go_ret
          exact ⟨rfl, hB2⟩
        | true =>
          simp only [Bool.true_and] at hR
          have HR := hide hR
          clear hR
          go_wp2_with fail
          all_goals go_ret
          all_goals refine ⟨?_, hB2⟩
          all_goals (rw [← HR.out]; simp [zOk, *])
      | true =>
        replace hR : (b1 && (b2 && decide (k1 = k2))) = R := by rw [← hR]; simp [h4]
        clear h4
        go_enter Tryd.func30, Tryd.ntmps30
        go_wp2_with fail
        refine (H1 _).mono ?_
        rintro e w2 ⟨rfl, hb2⟩
        have hbz2 := (Below.refl _ (w.alloc (.cells #[.int .i64 rw, .int .i64 nl, .bool true, .bool true, .int .u8 (k1 : Int), .int .i64 n1, .string s1, .int .u8 (k2 : Int), .int .i64 n2, .string s2] 53))).alloc (Nat.le_refl _) (.cells #[.int .u8 0, .int .i64 0, .string ⟨#[]⟩] 51)
        have hx1 := hx0.keep hbz2 hx0.z
        have hx2 := hx1.keep hb2 hx1.z
        have hB1 := below_call hb1 hb1.size hbz2
        have hB2 := below_call hB1 hB1.size hb2
        have c7 := hx2.cell 7 _ rfl
        have c8 := hx2.cell 8 _ rfl
        have c9 := hx2.cell 9 _ rfl
        cases b1 with
        | false =>
          obtain rfl : R = false := by rw [← hR]; simp
          clear hR
          go_wp2_with fail
          go_ret
          exact ⟨rfl, hB2⟩
        | true =>
          simp only [Bool.true_and] at hR
          go_wp2_with fail
          refine (H2 _).mono ?_
          rintro e w3 ⟨rfl, hb3⟩
          have hx3 := hx2.keep hb3 hx2.z
          have hB3 := below_call hB2 hB2.size hb3
          have d4 := hx3.cell 4 _ rfl
          have d7 := hx3.cell 7 _ rfl
          clear c7 c8 c9
          cases b2 with
          | false =>
            obtain rfl : R = false := by rw [← hR]; simp
            clear hR
            go_wp2_with fail
            go_ret
            exact ⟨rfl, hB3⟩
          | true =>
            simp only [Bool.true_and] at hR
            by_cases hkk : k1 = k2
            · have t7 : ((k1 : Int) == (k2 : Int)) = true := by rw [beq_iff_eq]; omega
              have t8 : ((k2 : Int) == (k1 : Int)) = true := by rw [beq_iff_eq]; omega
              obtain rfl : R = true := by rw [← hR]; exact decide_eq_true hkk
              clear hkk hR
              go_wp2_with fail
              go_ret
              exact ⟨rfl, hB3⟩
            · have t7 : ((k1 : Int) == (k2 : Int)) = false := by rw [beq_eq_false_iff_ne]; omega
              have t8 : ((k2 : Int) == (k1 : Int)) = false := by rw [beq_eq_false_iff_ne]; omega
              obtain rfl : R = false := by rw [← hR]; exact decide_eq_false hkk
              clear hkk hR
              go_wp2_with fail
              go_ret
              exact ⟨rfl, hB3⟩
    | false =>
      obtain rfl : R = false := by rw [← hR]; simp [h4]
      clear hR h4
      go_enter Tryd.func30, Tryd.ntmps30
      go_wp2_with fail
      go_ret
      exact ⟨rfl, ((Below.refl w.heap.size w).alloc (Nat.le_refl _) _).alloc (by simp) _⟩
  · have t4 : decide (nl < rw) = false := decide_eq_false h4
    have t5 : (nl == rw) = true := by rw [beq_iff_eq]; omega
    have t6 : (nl != rw) = false := by rw [bne_eq_false_iff_eq]; omega
    cases som with
    | true =>
      obtain rfl : R = false := by rw [← hR]; simp [h4]
      clear hR h4
      go_enter Tryd.func30, Tryd.ntmps30
      go_wp2_with fail
      go_ret
      exact ⟨rfl, ((Below.refl w.heap.size w).alloc (Nat.le_refl _) _).alloc (by simp) _⟩
    | false =>
      cases high with
      | true =>
        obtain rfl : R = false := by rw [← hR]; simp [h4]
        clear hR h4
        go_enter Tryd.func30, Tryd.ntmps30
        go_wp2_with fail
        go_ret
        exact ⟨rfl, ((Below.refl w.heap.size w).alloc (Nat.le_refl _) _).alloc (by simp) _⟩
      | false =>
        replace hR : (zOk k1 n1 s1 && zOk k2 n2 s2) = R := by rw [← hR]; simp [h4]
        rw [← hR]
        clear hR h4
        go_enter Tryd.func30, Tryd.ntmps30
        go_wp2_with fail
        all_goals go_ret
        all_goals refine ⟨?_, ((Below.refl w.heap.size w).alloc (Nat.le_refl _) _).alloc (by simp) _⟩
        all_goals simp [zOk, *]
end Go.Proofs.YtbcnekaagkdmeaaDoor
