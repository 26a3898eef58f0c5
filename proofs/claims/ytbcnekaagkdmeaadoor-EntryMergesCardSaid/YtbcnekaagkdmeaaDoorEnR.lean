/- THE WALKS of which cells and statistics may be. No statement of the seat is proved here; no condition. -/
import Derived.Test.YtbcnekaagkdmeaaDoorEnNm
import Derived.Test.YtbcnekaagkdmeaaDoorEnWE
namespace Go.Proofs.YtbcnekaagkdmeaaDoor
open Go.RowKit

/-! ### value.Of -/
theorem cellErr_at {c : Cl} {k : Nat} {n : Int} (hk : c.kind.toNat = k) (hn : c.n = n) : cellErr c = if 3 < k then 10 else if (k ≠ 3 ∧ emp c.s = false) ∨ (k ≠ 1 ∧ k ≠ 2 ∧ n ≠ 0) ∨ (k = 2 ∧ n ≠ 0 ∧ n ≠ 1) then 1 else if 64 < c.s.size then 5 else 0 := by unfold cellErr; rw [hk, hn]
theorem emp_long {s : ByteArray} (h : emp s = true) : s.size = 0 := by rw [emp_size] at h; simpa using h
set_option maxRecDepth 100000 in
set_option maxHeartbeats 4000000 in
theorem valOf (w : World) (c : Cl) : Calls Tryd.prog 53 #[.agg #[.int .u8 (c.kind.toNat : Int), .int .i64 c.n, .string c.s]] w fun e w' => ∃ v, e = .returned (.tuple #[v, .int .i64 (cellErr c : Int)]) ∧ Below w.heap.size w w' := by
  have hkb : c.kind.toNat < 256 := c.kind.toNat_lt
  obtain ⟨k, hk⟩ : ∃ k, c.kind.toNat = k := ⟨_, rfl⟩
  obtain ⟨n, hn⟩ : ∃ n, c.n = n := ⟨_, rfl⟩
  have hce := cellErr_at hk hn
  have hE : emp c.s = c.s.toList.isEmpty := rfl
  have hL := emp_long (s := c.s)
  rw [hk] at hkb
  obtain ⟨s, hs⟩ : ∃ s, c.s = s := ⟨_, rfl⟩
  obtain ⟨er, her⟩ : ∃ er, cellErr c = er := ⟨_, rfl⟩
  rw [hk, hn, hs, her]
  rw [hs, her] at hce
  rw [hs] at hE hL
  clear hk hn hs her
  have hb1 := (Below.refl w.heap.size w).alloc (Nat.le_refl _) (.cells #[.int .u8 (k : Int), .int .i64 n, .string s] 51)
  rcases (show k = 0 ∨ k = 1 ∨ k = 2 ∨ k = 3 ∨ 3 < k by omega) with rfl | rfl | rfl | rfl | h3
  · cases he : emp s with
    | true =>
      by_cases h0 : n = 0
      · by_cases h64 : 64 < s.size
        · exact absurd (hL he) (by omega)
        · obtain rfl : er = 0 := by rw [hce]; rw [if_neg (by omega), if_neg (by rw [he, h0]; simp), if_neg h64]
          have t1 : s.toList.isEmpty = true := by rw [← hE]; exact he
          have t2 : (n == 0) = true := by rw [beq_iff_eq]; exact h0
          have t3 : decide ((s.size : Int) ≤ 64) = true := decide_eq_true (by omega)
          clear hce hE hL hkb
          go_enter Tryd.func53, Tryd.ntmps53
          go_wp2_with fail
          go_ret2
          exact ⟨_, rfl, (Below.refl w.heap.size w).alloc (Nat.le_refl _) _⟩
      · by_cases h1 : n = 1
        · obtain rfl : er = 1 := by rw [hce]; rw [if_neg (by omega), if_pos (.inr (.inl ⟨by decide, by decide, h0⟩))]
          have t1 : s.toList.isEmpty = true := by rw [← hE]; exact he
          have t2 : (n == 0) = false := by rw [beq_eq_false_iff_ne]; exact h0
          have t4 : (n == 1) = true := by rw [beq_iff_eq]; exact h1
          clear hce hE hL hkb
          go_enter Tryd.func53, Tryd.ntmps53
          go_wp2_with fail
          go_ret2
          exact ⟨_, rfl, (Below.refl w.heap.size w).alloc (Nat.le_refl _) _⟩
        · obtain rfl : er = 1 := by rw [hce]; rw [if_neg (by omega), if_pos (.inr (.inl ⟨by decide, by decide, h0⟩))]
          have t1 : s.toList.isEmpty = true := by rw [← hE]; exact he
          have t2 : (n == 0) = false := by rw [beq_eq_false_iff_ne]; exact h0
          have t4 : (n == 1) = false := by rw [beq_eq_false_iff_ne]; exact h1
          clear hce hE hL hkb
          go_enter Tryd.func53, Tryd.ntmps53
          go_wp2_with fail
          go_ret2
          exact ⟨_, rfl, (Below.refl w.heap.size w).alloc (Nat.le_refl _) _⟩
    | false =>
      by_cases h0 : n = 0
      · by_cases h64 : 64 < s.size
        · obtain rfl : er = 1 := by rw [hce]; rw [if_neg (by omega), if_pos (.inl ⟨by decide, he⟩)]
          have t1 : s.toList.isEmpty = false := by rw [← hE]; exact he
          have t2 : (n == 0) = true := by rw [beq_iff_eq]; exact h0
          have t3 : decide ((s.size : Int) ≤ 64) = false := decide_eq_false (by omega)
          clear hce hE hL hkb
          go_enter Tryd.func53, Tryd.ntmps53
          go_wp2_with fail
          go_ret2
          exact ⟨_, rfl, (Below.refl w.heap.size w).alloc (Nat.le_refl _) _⟩
        · obtain rfl : er = 1 := by rw [hce]; rw [if_neg (by omega), if_pos (.inl ⟨by decide, he⟩)]
          have t1 : s.toList.isEmpty = false := by rw [← hE]; exact he
          have t2 : (n == 0) = true := by rw [beq_iff_eq]; exact h0
          have t3 : decide ((s.size : Int) ≤ 64) = true := decide_eq_true (by omega)
          clear hce hE hL hkb
          go_enter Tryd.func53, Tryd.ntmps53
          go_wp2_with fail
          go_ret2
          exact ⟨_, rfl, (Below.refl w.heap.size w).alloc (Nat.le_refl _) _⟩
      · by_cases h1 : n = 1
        · obtain rfl : er = 1 := by rw [hce]; rw [if_neg (by omega), if_pos (.inl ⟨by decide, he⟩)]
          have t1 : s.toList.isEmpty = false := by rw [← hE]; exact he
          have t2 : (n == 0) = false := by rw [beq_eq_false_iff_ne]; exact h0
          have t4 : (n == 1) = true := by rw [beq_iff_eq]; exact h1
          clear hce hE hL hkb
          go_enter Tryd.func53, Tryd.ntmps53
          go_wp2_with fail
          go_ret2
          exact ⟨_, rfl, (Below.refl w.heap.size w).alloc (Nat.le_refl _) _⟩
        · obtain rfl : er = 1 := by rw [hce]; rw [if_neg (by omega), if_pos (.inl ⟨by decide, he⟩)]
          have t1 : s.toList.isEmpty = false := by rw [← hE]; exact he
          have t2 : (n == 0) = false := by rw [beq_eq_false_iff_ne]; exact h0
          have t4 : (n == 1) = false := by rw [beq_eq_false_iff_ne]; exact h1
          clear hce hE hL hkb
          go_enter Tryd.func53, Tryd.ntmps53
          go_wp2_with fail
          go_ret2
          exact ⟨_, rfl, (Below.refl w.heap.size w).alloc (Nat.le_refl _) _⟩
  · cases he : emp s with
    | true =>
      by_cases h0 : n = 0
      · by_cases h64 : 64 < s.size
        · exact absurd (hL he) (by omega)
        · obtain rfl : er = 0 := by rw [hce]; rw [if_neg (by omega), if_neg (by rw [he, h0]; simp), if_neg h64]
          have t1 : s.toList.isEmpty = true := by rw [← hE]; exact he
          have t2 : (n == 0) = true := by rw [beq_iff_eq]; exact h0
          have t3 : decide ((s.size : Int) ≤ 64) = true := decide_eq_true (by omega)
          clear hce hE hL hkb
          go_enter Tryd.func53, Tryd.ntmps53
          go_wp2_with fail
          go_ret2
          exact ⟨_, rfl, (Below.refl w.heap.size w).alloc (Nat.le_refl _) _⟩
      · by_cases h1 : n = 1
        · obtain rfl : er = 0 := by rw [hce]; rw [if_neg (by omega), if_neg (by rw [he]; simp), if_neg (by have := hL he; omega)]
          have t1 : s.toList.isEmpty = true := by rw [← hE]; exact he
          have t2 : (n == 0) = false := by rw [beq_eq_false_iff_ne]; exact h0
          have t4 : (n == 1) = true := by rw [beq_iff_eq]; exact h1
          clear hce hE hL hkb
          go_enter Tryd.func53, Tryd.ntmps53
          go_wp2_with fail
          go_ret2
          exact ⟨_, rfl, (Below.refl w.heap.size w).alloc (Nat.le_refl _) _⟩
        · obtain rfl : er = 0 := by rw [hce]; rw [if_neg (by omega), if_neg (by rw [he]; simp), if_neg (by have := hL he; omega)]
          have t1 : s.toList.isEmpty = true := by rw [← hE]; exact he
          have t2 : (n == 0) = false := by rw [beq_eq_false_iff_ne]; exact h0
          have t4 : (n == 1) = false := by rw [beq_eq_false_iff_ne]; exact h1
          clear hce hE hL hkb
          go_enter Tryd.func53, Tryd.ntmps53
          go_wp2_with fail
          go_ret2
          exact ⟨_, rfl, (Below.refl w.heap.size w).alloc (Nat.le_refl _) _⟩
    | false =>
      by_cases h0 : n = 0
      · by_cases h64 : 64 < s.size
        · obtain rfl : er = 1 := by rw [hce]; rw [if_neg (by omega), if_pos (.inl ⟨by decide, he⟩)]
          have t1 : s.toList.isEmpty = false := by rw [← hE]; exact he
          have t2 : (n == 0) = true := by rw [beq_iff_eq]; exact h0
          have t3 : decide ((s.size : Int) ≤ 64) = false := decide_eq_false (by omega)
          clear hce hE hL hkb
          go_enter Tryd.func53, Tryd.ntmps53
          go_wp2_with fail
          go_ret2
          exact ⟨_, rfl, (Below.refl w.heap.size w).alloc (Nat.le_refl _) _⟩
        · obtain rfl : er = 1 := by rw [hce]; rw [if_neg (by omega), if_pos (.inl ⟨by decide, he⟩)]
          have t1 : s.toList.isEmpty = false := by rw [← hE]; exact he
          have t2 : (n == 0) = true := by rw [beq_iff_eq]; exact h0
          have t3 : decide ((s.size : Int) ≤ 64) = true := decide_eq_true (by omega)
          clear hce hE hL hkb
          go_enter Tryd.func53, Tryd.ntmps53
          go_wp2_with fail
          go_ret2
          exact ⟨_, rfl, (Below.refl w.heap.size w).alloc (Nat.le_refl _) _⟩
      · by_cases h1 : n = 1
        · obtain rfl : er = 1 := by rw [hce]; rw [if_neg (by omega), if_pos (.inl ⟨by decide, he⟩)]
          have t1 : s.toList.isEmpty = false := by rw [← hE]; exact he
          have t2 : (n == 0) = false := by rw [beq_eq_false_iff_ne]; exact h0
          have t4 : (n == 1) = true := by rw [beq_iff_eq]; exact h1
          clear hce hE hL hkb
          go_enter Tryd.func53, Tryd.ntmps53
          go_wp2_with fail
          go_ret2
          exact ⟨_, rfl, (Below.refl w.heap.size w).alloc (Nat.le_refl _) _⟩
        · obtain rfl : er = 1 := by rw [hce]; rw [if_neg (by omega), if_pos (.inl ⟨by decide, he⟩)]
          have t1 : s.toList.isEmpty = false := by rw [← hE]; exact he
          have t2 : (n == 0) = false := by rw [beq_eq_false_iff_ne]; exact h0
          have t4 : (n == 1) = false := by rw [beq_eq_false_iff_ne]; exact h1
          clear hce hE hL hkb
          go_enter Tryd.func53, Tryd.ntmps53
          go_wp2_with fail
          go_ret2
          exact ⟨_, rfl, (Below.refl w.heap.size w).alloc (Nat.le_refl _) _⟩
  · cases he : emp s with
    | true =>
      by_cases h0 : n = 0
      · by_cases h64 : 64 < s.size
        · exact absurd (hL he) (by omega)
        · obtain rfl : er = 0 := by rw [hce]; rw [if_neg (by omega), if_neg (by rw [he, h0]; simp), if_neg h64]
          have t1 : s.toList.isEmpty = true := by rw [← hE]; exact he
          have t2 : (n == 0) = true := by rw [beq_iff_eq]; exact h0
          have t3 : decide ((s.size : Int) ≤ 64) = true := decide_eq_true (by omega)
          clear hce hE hL hkb
          go_enter Tryd.func53, Tryd.ntmps53
          go_wp2_with fail
          go_ret2
          exact ⟨_, rfl, (Below.refl w.heap.size w).alloc (Nat.le_refl _) _⟩
      · by_cases h1 : n = 1
        · obtain rfl : er = 0 := by rw [hce]; rw [if_neg (by omega), if_neg (by rw [he]; simp; omega), if_neg (by have := hL he; omega)]
          have t1 : s.toList.isEmpty = true := by rw [← hE]; exact he
          have t2 : (n == 0) = false := by rw [beq_eq_false_iff_ne]; exact h0
          have t4 : (n == 1) = true := by rw [beq_iff_eq]; exact h1
          clear hce hE hL hkb
          go_enter Tryd.func53, Tryd.ntmps53
          go_wp2_with fail
          go_ret2
          exact ⟨_, rfl, (Below.refl w.heap.size w).alloc (Nat.le_refl _) _⟩
        · obtain rfl : er = 1 := by rw [hce]; rw [if_neg (by omega), if_pos (.inr (.inr ⟨rfl, h0, h1⟩))]
          have t1 : s.toList.isEmpty = true := by rw [← hE]; exact he
          have t2 : (n == 0) = false := by rw [beq_eq_false_iff_ne]; exact h0
          have t4 : (n == 1) = false := by rw [beq_eq_false_iff_ne]; exact h1
          clear hce hE hL hkb
          go_enter Tryd.func53, Tryd.ntmps53
          go_wp2_with fail
          go_ret2
          exact ⟨_, rfl, (Below.refl w.heap.size w).alloc (Nat.le_refl _) _⟩
    | false =>
      by_cases h0 : n = 0
      · by_cases h64 : 64 < s.size
        · obtain rfl : er = 1 := by rw [hce]; rw [if_neg (by omega), if_pos (.inl ⟨by decide, he⟩)]
          have t1 : s.toList.isEmpty = false := by rw [← hE]; exact he
          have t2 : (n == 0) = true := by rw [beq_iff_eq]; exact h0
          have t3 : decide ((s.size : Int) ≤ 64) = false := decide_eq_false (by omega)
          clear hce hE hL hkb
          go_enter Tryd.func53, Tryd.ntmps53
          go_wp2_with fail
          go_ret2
          exact ⟨_, rfl, (Below.refl w.heap.size w).alloc (Nat.le_refl _) _⟩
        · obtain rfl : er = 1 := by rw [hce]; rw [if_neg (by omega), if_pos (.inl ⟨by decide, he⟩)]
          have t1 : s.toList.isEmpty = false := by rw [← hE]; exact he
          have t2 : (n == 0) = true := by rw [beq_iff_eq]; exact h0
          have t3 : decide ((s.size : Int) ≤ 64) = true := decide_eq_true (by omega)
          clear hce hE hL hkb
          go_enter Tryd.func53, Tryd.ntmps53
          go_wp2_with fail
          go_ret2
          exact ⟨_, rfl, (Below.refl w.heap.size w).alloc (Nat.le_refl _) _⟩
      · by_cases h1 : n = 1
        · obtain rfl : er = 1 := by rw [hce]; rw [if_neg (by omega), if_pos (.inl ⟨by decide, he⟩)]
          have t1 : s.toList.isEmpty = false := by rw [← hE]; exact he
          have t2 : (n == 0) = false := by rw [beq_eq_false_iff_ne]; exact h0
          have t4 : (n == 1) = true := by rw [beq_iff_eq]; exact h1
          clear hce hE hL hkb
          go_enter Tryd.func53, Tryd.ntmps53
          go_wp2_with fail
          go_ret2
          exact ⟨_, rfl, (Below.refl w.heap.size w).alloc (Nat.le_refl _) _⟩
        · obtain rfl : er = 1 := by rw [hce]; rw [if_neg (by omega), if_pos (.inl ⟨by decide, he⟩)]
          have t1 : s.toList.isEmpty = false := by rw [← hE]; exact he
          have t2 : (n == 0) = false := by rw [beq_eq_false_iff_ne]; exact h0
          have t4 : (n == 1) = false := by rw [beq_eq_false_iff_ne]; exact h1
          clear hce hE hL hkb
          go_enter Tryd.func53, Tryd.ntmps53
          go_wp2_with fail
          go_ret2
          exact ⟨_, rfl, (Below.refl w.heap.size w).alloc (Nat.le_refl _) _⟩
  · cases he : emp s with
    | true =>
      by_cases h0 : n = 0
      · by_cases h64 : 64 < s.size
        · exact absurd (hL he) (by omega)
        · obtain rfl : er = 0 := by rw [hce]; rw [if_neg (by omega), if_neg (by rw [he, h0]; simp), if_neg h64]
          have t1 : s.toList.isEmpty = true := by rw [← hE]; exact he
          have t2 : (n == 0) = true := by rw [beq_iff_eq]; exact h0
          have t3 : decide ((s.size : Int) ≤ 64) = true := decide_eq_true (by omega)
          clear hce hE hL hkb
          go_enter Tryd.func53, Tryd.ntmps53
          go_wp2_with fail
          go_ret2
          exact ⟨_, rfl, (Below.refl w.heap.size w).alloc (Nat.le_refl _) _⟩
      · by_cases h1 : n = 1
        · obtain rfl : er = 1 := by rw [hce]; rw [if_neg (by omega), if_pos (.inr (.inl ⟨by decide, by decide, h0⟩))]
          have t1 : s.toList.isEmpty = true := by rw [← hE]; exact he
          have t2 : (n == 0) = false := by rw [beq_eq_false_iff_ne]; exact h0
          have t4 : (n == 1) = true := by rw [beq_iff_eq]; exact h1
          clear hce hE hL hkb
          go_enter Tryd.func53, Tryd.ntmps53
          go_wp2_with fail
          go_ret2
          exact ⟨_, rfl, (Below.refl w.heap.size w).alloc (Nat.le_refl _) _⟩
        · obtain rfl : er = 1 := by rw [hce]; rw [if_neg (by omega), if_pos (.inr (.inl ⟨by decide, by decide, h0⟩))]
          have t1 : s.toList.isEmpty = true := by rw [← hE]; exact he
          have t2 : (n == 0) = false := by rw [beq_eq_false_iff_ne]; exact h0
          have t4 : (n == 1) = false := by rw [beq_eq_false_iff_ne]; exact h1
          clear hce hE hL hkb
          go_enter Tryd.func53, Tryd.ntmps53
          go_wp2_with fail
          go_ret2
          exact ⟨_, rfl, (Below.refl w.heap.size w).alloc (Nat.le_refl _) _⟩
    | false =>
      by_cases h0 : n = 0
      · by_cases h64 : 64 < s.size
        · obtain rfl : er = 5 := by rw [hce]; rw [if_neg (by omega), if_neg (by rw [he, h0]; simp), if_pos h64]
          have t1 : s.toList.isEmpty = false := by rw [← hE]; exact he
          have t2 : (n == 0) = true := by rw [beq_iff_eq]; exact h0
          have t3 : decide ((s.size : Int) ≤ 64) = false := decide_eq_false (by omega)
          clear hce hE hL hkb
          go_enter Tryd.func53, Tryd.ntmps53
          go_wp2_with fail
          go_ret2
          exact ⟨_, rfl, (Below.refl w.heap.size w).alloc (Nat.le_refl _) _⟩
        · obtain rfl : er = 0 := by rw [hce]; rw [if_neg (by omega), if_neg (by rw [he, h0]; simp), if_neg h64]
          have t1 : s.toList.isEmpty = false := by rw [← hE]; exact he
          have t2 : (n == 0) = true := by rw [beq_iff_eq]; exact h0
          have t3 : decide ((s.size : Int) ≤ 64) = true := decide_eq_true (by omega)
          clear hce hE hL hkb
          go_enter Tryd.func53, Tryd.ntmps53
          go_wp2_with fail
          go_ret2
          exact ⟨_, rfl, (Below.refl w.heap.size w).alloc (Nat.le_refl _) _⟩
      · by_cases h1 : n = 1
        · obtain rfl : er = 1 := by rw [hce]; rw [if_neg (by omega), if_pos (.inr (.inl ⟨by decide, by decide, h0⟩))]
          have t1 : s.toList.isEmpty = false := by rw [← hE]; exact he
          have t2 : (n == 0) = false := by rw [beq_eq_false_iff_ne]; exact h0
          have t4 : (n == 1) = true := by rw [beq_iff_eq]; exact h1
          clear hce hE hL hkb
          go_enter Tryd.func53, Tryd.ntmps53
          go_wp2_with fail
          go_ret2
          exact ⟨_, rfl, (Below.refl w.heap.size w).alloc (Nat.le_refl _) _⟩
        · obtain rfl : er = 1 := by rw [hce]; rw [if_neg (by omega), if_pos (.inr (.inl ⟨by decide, by decide, h0⟩))]
          have t1 : s.toList.isEmpty = false := by rw [← hE]; exact he
          have t2 : (n == 0) = false := by rw [beq_eq_false_iff_ne]; exact h0
          have t4 : (n == 1) = false := by rw [beq_eq_false_iff_ne]; exact h1
          clear hce hE hL hkb
          go_enter Tryd.func53, Tryd.ntmps53
          go_wp2_with fail
          go_ret2
          exact ⟨_, rfl, (Below.refl w.heap.size w).alloc (Nat.le_refl _) _⟩
  · obtain rfl : er = 10 := by rw [hce, if_pos h3]
    have t0 : ((k : Int) == 0) = false := by rw [beq_eq_false_iff_ne]; omega
    have t1 : ((k : Int) == 1) = false := by rw [beq_eq_false_iff_ne]; omega
    have t2 : ((k : Int) == 2) = false := by rw [beq_eq_false_iff_ne]; omega
    have t3 : ((k : Int) == 3) = false := by rw [beq_eq_false_iff_ne]; omega
    clear hce hE hL hkb
    go_enter Tryd.func53, Tryd.ntmps53
    go_wp2_with fail
    go_ret2
    exact ⟨_, rfl, (Below.refl w.heap.size w).alloc (Nat.le_refl _) _⟩

/-! ### cells -/
set_option maxRecDepth 100000 in
theorem entCell (w : World) (x : Ce) : Calls Tryd.prog 45 #[.agg #[.int .u8 (x.kind.toNat : Int), .int .i64 x.n.toInt, .string x.s]] w (RetVal w (.bool (bndOk x))) := by
  obtain ⟨er, her⟩ : ∃ er, cellErr x.cl = er := ⟨_, rfl⟩
  have hB : bndOk x = (decide (er = 0) && !decide (x.kind.toNat = 0)) := by unfold bndOk; rw [her]
  have HV : ∀ w, Calls Tryd.prog 53 #[.agg #[.int .u8 (x.kind.toNat : Int), .int .i64 x.n.toInt, .string x.s]] w fun e w' => ∃ v, e = .returned (.tuple #[v, .int .i64 (er : Int)]) ∧ Below w.heap.size w w' := fun w => by rw [← her]; exact valOf w x.cl
  rw [hB]
  have hkb : x.kind.toNat < 256 := x.kind.toNat_lt
  obtain ⟨k, hk⟩ : ∃ k, x.kind.toNat = k := ⟨_, rfl⟩
  rw [hk] at HV hkb ⊢
  generalize x.n.toInt = n at *
  generalize x.s = s at *
  have x0 := boxN_new w #[.int .u8 (k : Int), .int .i64 n, .string s] 51
  have hb1 := (Below.refl w.heap.size w).alloc (Nat.le_refl _) (.cells #[.int .u8 (k : Int), .int .i64 n, .string s] 51)
  obtain ⟨R, hR⟩ : ∃ R, (decide (er = 0) && !decide (k = 0)) = R := ⟨_, rfl⟩
  rw [hR]
  clear hB her hk
  go_enter Tryd.func45, Tryd.ntmps45
  go_wp2_with fail
  refine (HV _).mono ?_
  rintro e w2 ⟨v, rfl, hb2⟩
  have c0 := (x0.keep hb2 x0.z).cell 0 _ rfl
  have hB2 := below_call hb1 hb1.size hb2
  by_cases h0 : er = 0
  · have t0 : ((er : Int) == 0) = true := by rw [beq_iff_eq]; omega
    by_cases h1 : k = 0
    · have t1 : ((k : Int) != 0) = false := by rw [bne_eq_false_iff_eq]; omega
      obtain rfl : R = false := by rw [← hR, h0, h1]; rfl
      clear hR h0 h1
      go_wp2_with fail
      go_ret
      exact ⟨rfl, hB2⟩
    · have t1 : ((k : Int) != 0) = true := by rw [bne_iff_ne]; omega
      obtain rfl : R = true := by rw [← hR, h0, decide_eq_false h1]; rfl
      clear hR h0 h1
      go_wp2_with fail
      go_ret
      exact ⟨rfl, hB2⟩
  · have t0 : ((er : Int) == 0) = false := by rw [beq_eq_false_iff_ne]; omega
    obtain rfl : R = false := by rw [← hR, decide_eq_false h0]; rfl
    clear hR h0
    go_wp2_with fail
    go_ret
    exact ⟨rfl, hB2⟩
set_option maxRecDepth 100000 in
theorem refBound (w : World) (x : Ce) : Calls Tryd.prog 46 #[.agg #[.int .u8 (x.kind.toNat : Int), .int .i64 x.n.toInt, .string x.s]] w (RetVal w (.bool (bndOk x))) := by
  obtain ⟨er, her⟩ : ∃ er, cellErr x.cl = er := ⟨_, rfl⟩
  have hB : bndOk x = (decide (er = 0) && !decide (x.kind.toNat = 0)) := by unfold bndOk; rw [her]
  have HV : ∀ w, Calls Tryd.prog 54 #[.agg #[.int .u8 (x.kind.toNat : Int), .int .i64 x.n.toInt, .string x.s]] w fun e w' => e = .returned (.int .i64 (er : Int)) ∧ Below w.heap.size w w' := fun w => by rw [← her]; exact refCell w x.cl
  rw [hB]
  have hkb : x.kind.toNat < 256 := x.kind.toNat_lt
  obtain ⟨k, hk⟩ : ∃ k, x.kind.toNat = k := ⟨_, rfl⟩
  rw [hk] at HV hkb ⊢
  generalize x.n.toInt = n at *
  generalize x.s = s at *
  have hb1 := (Below.refl w.heap.size w).alloc (Nat.le_refl _) (.cells #[.int .u8 (k : Int), .int .i64 n, .string s] 51)
  obtain ⟨R, hR⟩ : ∃ R, (decide (er = 0) && !decide (k = 0)) = R := ⟨_, rfl⟩
  rw [hR]
  clear hB her hk
  by_cases h1 : k = 0
  · have t1 : ((k : Int) != 0) = false := by rw [bne_eq_false_iff_eq]; omega
    obtain rfl : R = false := by rw [← hR, h1]; simp
    clear hR h1
    go_enter Tryd.func46, Tryd.ntmps46
    go_wp2_with fail
    go_ret
    exact ⟨rfl, hb1⟩
  · have t1 : ((k : Int) != 0) = true := by rw [bne_iff_ne]; omega
    by_cases h0 : er = 0
    · have t0 : ((er : Int) == 0) = true := by rw [beq_iff_eq]; omega
      obtain rfl : R = true := by rw [← hR, h0, decide_eq_false h1]; rfl
      clear hR h0 h1
      go_enter Tryd.func46, Tryd.ntmps46
      go_wp2_with fail
      refine (HV _).mono ?_
      rintro e w2 ⟨rfl, hb2⟩
      go_wp2_with fail
      go_ret
      exact ⟨rfl, below_call hb1 hb1.size hb2⟩
    · have t0 : ((er : Int) == 0) = false := by rw [beq_eq_false_iff_ne]; omega
      obtain rfl : R = false := by rw [← hR, decide_eq_false h0]; rfl
      clear hR h0 h1
      go_enter Tryd.func46, Tryd.ntmps46
      go_wp2_with fail
      refine (HV _).mono ?_
      rintro e w2 ⟨rfl, hb2⟩
      go_wp2_with fail
      go_ret
      exact ⟨rfl, below_call hb1 hb1.size hb2⟩
end Go.Proofs.YtbcnekaagkdmeaaDoor
