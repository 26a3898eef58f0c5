/- THE WALKS of the reference's Del, Swap, Get, New: for safety alone. No statement of the seat is proved here; no condition but sizes. -/
import Derived.Test.YtbgfmcmaklobaaaObY
namespace Go.Proofs.Ytbgfmcmaklobaaa
open Go.RowKit

theorem RfEnd.after {w w1 w2 : World} {sb mb rb lb K : Nat} (h : RfEnd w1 sb mb rb lb K w2) (ho : Oth rb w w1) : RfEnd w sb mb rb lb K w2 := by
  obtain ⟨s, lb2, h1, h2, h3, h4⟩ := h
  exact ⟨s, lb2, h1, h2, (Ost.ofOth ho).trans h3, h4.imp id (fun q => Nat.le_trans ho.size q)⟩
set_option maxRecDepth 100000 in
set_option maxHeartbeats 4000000 in
theorem refDel (w : World) (sb mb rb lb : Nat) (s : Rf) (h : RfR w sb mb rb lb s) (hl : s.L.length ≤ 1000) (hs : sb < w.heap.size ∧ mb < w.heap.size) (nm : ByteArray) : Calls Try.prog 29 #[.pointer (some ⟨rb, 0, none⟩), .string nm] w (RfCode w sb mb rb lb s.L.length) := by
  have c5 := h.bx.cell 5 _ rfl
  cases hd : s.de with
  | true =>
    rw [hd] at c5
    clear hd
    go_enter Try.func29, Try.ntmps29
    go_wp2_with fail
    go_ret
    exact ⟨120, rfl, .refl h⟩
  | false =>
    rw [hd] at c5
    clear hd
    go_enter Try.func29, Try.ntmps29
    go_wp2_with fail
    refine (refAt w sb mb rb lb s h nm).mono ?_
    rintro e w1 ⟨k, rfl, k1, k2, rfl⟩
    by_cases hk : k < 0
    · have t15 : decide (k < 0) = true := decide_eq_true hk
      clear hk
      go_wp2_with fail
      go_ret
      exact ⟨2, rfl, .refl h⟩
    · have t15 : decide (k < 0) = false := decide_eq_false hk
      clear hk k1 k2
      go_wp2_with fail
      refine (refChange w sb mb rb lb s h).mono ?_
      rintro e w1 ⟨j, rfl, hj, s2, h2, eL, eA, ec, O2⟩
      by_cases hj0 : j = 0
      · subst hj0
        have hz := O2.size
        clear hj h
        go_wp2_with fail
        refine (refCut w1 sb mb rb lb s2 h2 (by rw [eL]; exact hl) ⟨by omega, by omega⟩ k).mono ?_
        rintro e w2 ⟨rfl, hE⟩
        go_wp2_with fail
        go_ret
        rw [eL] at hE
        exact ⟨0, rfl, hE.after O2⟩
      · have t19 : ((j : Int) == 0) = false := by rw [beq_eq_false_iff_ne]; omega
        clear hj0 h hj
        go_wp2_with fail
        go_ret
        exact ⟨j, rfl, s2, lb, h2, by rw [eL]; exact Nat.le_refl _, .ofOth O2, .inl rfl⟩
set_option maxRecDepth 100000 in
set_option maxHeartbeats 4000000 in
theorem refSwap (w : World) (sb mb rb lb : Nat) (s : Rf) (h : RfR w sb mb rb lb s) (o nw : ByteArray) (hn : nw.size ≤ maxLen) : Calls Try.prog 30 #[.pointer (some ⟨rb, 0, none⟩), .string o, .string nw] w (RfCode w sb mb rb lb s.L.length) := by
  have c5 := h.bx.cell 5 _ rfl
  have c2 := h.bx.cell 2 _ rfl
  cases hd : s.de with
  | true =>
    rw [hd] at c5
    clear hd
    go_enter Try.func30, Try.ntmps30
    go_wp2_with fail
    go_ret
    exact ⟨120, rfl, .refl h⟩
  | false =>
    rw [hd] at c5
    clear hd
    cases hb : (s.cs.toList == o.toList) with
    | false =>
      go_enter Try.func30, Try.ntmps30
      go_wp2_with fail
      go_ret
      exact ⟨123, rfl, .refl h⟩
    | true =>
      go_enter Try.func30, Try.ntmps30
      go_wp2_with fail
      refine (refNamed12 w nw hn).mono ?_
      rintro e w1 ⟨rfl, rfl⟩
      cases hp : pathOk nw with
      | false =>
        clear hp
        go_wp2_with fail
        go_ret
        exact ⟨1, rfl, .refl h⟩
      | true =>
        clear hp
        go_wp2_with fail
        refine (refChange w sb mb rb lb s h).mono ?_
        rintro e w1 ⟨j, rfl, hj, s2, h2, eL, eA, ec, O2⟩
        by_cases hj0 : j = 0
        · subst hj0
          have x2 := h2.bx.cell 2 _ rfl
          have f2 := h2.bx.free 2 (by simp)
          clear hj h
          go_wp2_with fail
          go_ret
          exact ⟨0, rfl, { s2 with cs := nw }, lb, h2.box (s2 := { s2 with cs := nw }) ((Oth.refl rb w1).set 2 _) (h2.bx.set (j := 2) (.string nw) rfl) rfl rfl rfl h2.q0 h2.f0 h2.g0, by show s2.L.length ≤ _; rw [eL]; exact Nat.le_refl _, .ofOth (O2.trans ((Oth.refl rb w1).set 2 _)), .inl rfl⟩
        · have t24 : ((j : Int) == 0) = false := by rw [beq_eq_false_iff_ne]; omega
          clear hj0 h hj
          go_wp2_with fail
          go_ret
          exact ⟨j, rfl, s2, lb, h2, by rw [eL]; exact Nat.le_refl _, .ofOth O2, .inl rfl⟩
set_option maxRecDepth 100000 in
set_option maxHeartbeats 4000000 in
theorem refGetO (w : World) (sb mb rb lb : Nat) (s : Rf) (h : RfR w sb mb rb lb s) (nm : ByteArray) : Calls Try.prog 31 #[.pointer (some ⟨rb, 0, none⟩), .string nm] w fun e w' => ∃ (A : Option Addr) (c : Nat) (l : List UInt8) (k : Int), e = .returned (.tuple #[.slice A l.length c, .int .i64 k]) ∧ RdP w (Ofl sb mb rb lb) A l.length c l ∧ w = w' := by
  have c5 := h.bx.cell 5 _ rfl
  have hnil : RdP w (Ofl sb mb rb lb) none 0 0 [] := ⟨Rd.nil _ _ _, fun q => by omega⟩
  cases hd : s.de with
  | true =>
    rw [hd] at c5
    clear hd
    go_enter Try.func31, Try.ntmps31
    go_wp2_with fail
    go_ret2
    exact ⟨none, 0, [], 120, rfl, hnil, rfl⟩
  | false =>
    rw [hd] at c5
    clear hd
    go_enter Try.func31, Try.ntmps31
    go_wp2_with fail
    refine (refAt w sb mb rb lb s h nm).mono ?_
    rintro e w1 ⟨k, rfl, k1, k2, rfl⟩
    by_cases hk : k < 0
    · have t15 : decide (k < 0) = true := decide_eq_true hk
      clear hk
      go_wp2_with fail
      go_ret2
      exact ⟨none, 0, [], 2, rfl, hnil, rfl⟩
    · have t15 : decide (k < 0) = false := decide_eq_false hk
      obtain ⟨i, rfl⟩ := Int.eq_ofNat_of_zero_le (show 0 ≤ k by omega)
      have hi : i < s.L.length := by omega
      have c1 := h.bx.cell 1 _ rfl
      have hlen := h.len
      obtain ⟨b, off, hA, hx⟩ := h.el hi
      obtain ⟨_, x1, _⟩ := hx _ rfl
      have hxi := getD_ins h.ins hi
      rw [hA] at c1
      generalize s.L.getD i default = x at *
      clear hk k1 k2
      go_wp2_with fail
      go_ret2
      exact ⟨x.A, x.c, x.bs, 0, rfl, hxi.1, rfl⟩
set_option maxRecDepth 100000 in
theorem refNewO (w : World) (sb mb : Nat) (hs : sb < w.heap.size ∧ mb < w.heap.size) (q : Int) (q0 : I64 q) : Calls Try.prog 15 #[.int .i64 q] w fun e w' => e = .returned (.pointer (some ⟨w.heap.size, 0, none⟩)) ∧ RfR w' sb mb w.heap.size w.heap.size ⟨max 0 q, none, 0, [], ⟨#[]⟩, -1, -1, false⟩ ∧ Below w.heap.size w w' ∧ w'.heap.size = w.heap.size + 1 := by
  have x := boxN_new w #[.int .i64 (max 0 q), .slice none 0 0, .string ⟨#[]⟩, .int .i64 (-1), .int .i64 (-1), .bool false] 61
  have hb := (Below.refl w.heap.size w).alloc (Nat.le_refl _) (.cells #[.int .i64 (max 0 q), .slice none 0 0, .string ⟨#[]⟩, .int .i64 (-1), .int .i64 (-1), .bool false] 61)
  have hz : (w.alloc (.cells #[.int .i64 (max 0 q), .slice none 0 0, .string ⟨#[]⟩, .int .i64 (-1), .int .i64 (-1), .bool false] 61)).heap.size = w.heap.size + 1 := by simp
  have hq : I64 (max 0 q) := ⟨by omega, by have := q0.2; omega⟩
  go_enter Try.func15, Try.ntmps15
  go_wp2_with fail
  go_ret
  exact ⟨rfl, ⟨x, World.ownsRow_nil _ _ _ _, fun b off q => (by cases q), fun x hx => (by cases hx), hq, (show I64 (-1) from ⟨by decide, by decide⟩), (show I64 (-1) from ⟨by decide, by decide⟩), ⟨by omega, by omega, by omega, by omega⟩, by omega⟩, hb, hz⟩
end Go.Proofs.Ytbgfmcmaklobaaa
