/- THE WALKS of the document's num at a literal, and of its cell. No statement of the seat is proved here; no condition but sizes. -/
import Derived.Test.YtbcnekaagkdmeaaDoorEnO
namespace Go.Proofs.YtbcnekaagkdmeaaDoor
open Go.RowKit

theorem refNum13N (w : World) (B : Nat) (l : List UInt8) (v : Value) (n : Nat) (h1 : n < 18446744073709551616) (hb : Buf B l v w) (hB : B ≤ w.heap.size) (hl : l.length ≤ 900000) :
    Calls Tryd.prog 24 #[v, .int .u64 (n : Int)] w fun e w' => ∃ v', e = .returned v' ∧ Buf B (l ++ Var.put n) v' w' ∧ Bz B w w' := by
  have := refNum13 w B l v (n : Int) (by omega) (by omega) hb hB hl
  rw [Int.toNat_natCast] at this
  exact this
set_option maxRecDepth 100000 in
theorem refNum13F (w : World) (q n : Nat) (l : List UInt8) (h1 : n < 18446744073709551616) (hq : ∀ j u, (bytesV l)[j]? = some u → w.cell? ⟨q, j, none⟩ = some u) (hz : q < w.heap.size) (hl : l.length ≤ 900000) :
    Calls Tryd.prog 24 #[.slice (some ⟨q, 0, none⟩) l.length l.length, .int .u64 (n : Int)] w fun e w' => ∃ v', e = .returned v' ∧ Buf w.heap.size (l ++ Var.put n) v' w' ∧ Below w.heap.size w w' := by
  have hp := Var.put_le10 (n := n) h1
  have hp1 := put_pos n
  go_enter Tryd.func24, Tryd.ntmps24
  go_wp2_with fail
  refine (refPut (n : Int) w (by omega) (by omega)).mono ?_
  rintro e w1 ⟨v1, rfl, hown1, hb1⟩
  rw [Int.toNat_natCast] at hown1
  have hq1 : ∀ j u, (bytesV l)[j]? = some u → w1.cell? ⟨q, j, none⟩ = some u := fun j u hj => (hb1.cell (p := ⟨q, j, none⟩) hz).trans (hq j u hj)
  have hz1 := hb1.size
  go_wp2_with (at_builtin; refine wpList_bufNew (l := l) rfl (.tmp 5) (.tmp 7) rfl rfl hq1 rfl hown1 hp1 (by omega) ?_; intro v2 w2 o2 hb2)
  go_ret
  exact ⟨v2, rfl, own_base o2 hz1, below_call hb1 hz1 hb2⟩
set_option maxRecDepth 100000 in
set_option maxHeartbeats 2000000 in
theorem refCell13 (w : World) (B : Nat) (l : List UInt8) (v : Value) (x : Ce) (hx : bndOk x = true) (hb : Buf B l v w) (hB : B ≤ w.heap.size) (hl : l.length ≤ 800000) :
    Calls Tryd.prog 26 #[v, .agg #[.int .u8 (x.kind.toNat : Int), .int .i64 x.n.toInt, .string x.s]] w fun e w' => ∃ v', e = .returned v' ∧ Buf B (l ++ cellB x) v' w' ∧ Bz B w w' := by
  obtain ⟨q1, q2, q3, q4, q5, q6⟩ := bnd_has hx
  obtain ⟨k, hk⟩ : ∃ k, x.kind.toNat = k := ⟨_, rfl⟩
  obtain ⟨n, hn⟩ : ∃ n, x.n.toInt = n := ⟨_, rfl⟩
  obtain ⟨s, hs⟩ : ∃ s, x.s = s := ⟨_, rfl⟩
  have hn0 : -9223372036854775808 ≤ n := by rw [← hn]; exact Int64.le_toInt x.n
  have hn1 : n ≤ 9223372036854775807 := by have := Int64.toInt_lt x.n; omega
  have hcB : cellB x = if k = 1 then Var.put (zig n) else if k = 2 then Var.put n.toNat else tx s := by unfold cellB; rw [hk, hn, hs]
  rw [hk] at q1 q2 q6
  rw [hs] at q3
  rw [hn] at q6
  rw [hcB, hk, hn, hs]
  clear hcB hx hk hn hs q4 q5
  have x0 := boxN_new w #[.int .u8 (k : Int), .int .i64 n, .string s] 51
  have hb1 := (Below.refl w.heap.size w).alloc (Nat.le_refl _) (.cells #[.int .u8 (k : Int), .int .i64 n, .string s] 51)
  have hb0 := hb.keep hb1
  have hB0 := Nat.le_trans hB hb1.size
  rcases (show k = 1 ∨ k = 2 ∨ k = 3 by omega) with rfl | rfl | rfl
  · have hz := hide (zig_lt hn0 hn1)
    have hp := Var.put_le10 (n := zig n) hz.out
    rw [if_pos rfl]
    have u0 := x0.cell 0 _ rfl
    have u1 := x0.cell 1 _ rfl
    go_enter Tryd.func26, Tryd.ntmps26
    go_wp2_with fail
    generalize w.alloc (.cells #[.int .u8 ((1 : Nat) : Int), .int .i64 n, .string s] 51) = w1 at *
    refine (refPutInt n w1 hn0 hn1).mono ?_
    rintro e w2 ⟨v2, rfl, hown2, hb2⟩
    obtain ⟨A2, c2, rfl⟩ := own_slice hown2
    have hbuf2 := hb0.keep hb2
    have hr2 := rd_own hown2
    have hB2 : B ≤ w2.heap.size := Nat.le_trans hB0 hb2.size
    clear u0 u1 x0
    go_wp2_with (at_builtin; refine wpList_buf rfl (.tmp 8) (.tmp 11) rfl rfl hbuf2 A2 _ c2 _ rfl hr2 (by omega) hB2 ?_; intro v3 w3 hbuf3 hz3)
    go_ret
    exact ⟨v3, rfl, hbuf3, (Bz.of hb1).trans ((Bz.of hb2).trans hz3)⟩
  · have q6 := q6 rfl
    rw [if_neg (by decide), if_pos rfl]
    obtain ⟨m, rfl⟩ : ∃ m : Nat, n = (m : Int) := ⟨n.toNat, by omega⟩
    have e33 : IntKind.u64.wrap (m : Int) = (m : Int) := by rw [IntKind.wrap_u64]; omega
    have e34 : (m : Int) % 18446744073709551616 = (m : Int) := by omega
    have u0 := x0.cell 0 _ rfl
    have u1 := x0.cell 1 _ rfl
    rw [Int.toNat_natCast]
    go_enter Tryd.func26, Tryd.ntmps26
    go_wp2_with fail
    generalize w.alloc (.cells #[.int .u8 ((2 : Nat) : Int), .int .i64 (m : Int), .string s] 51) = w1 at *
    refine (refNum13N w1 B l v m (by omega) hb0 hB0 (by omega)).mono ?_
    rintro e w2 ⟨v2, rfl, hbuf2, hz2⟩
    go_wp2_with fail
    go_ret
    exact ⟨v2, rfl, hbuf2, (Bz.of hb1).trans hz2⟩
  · rw [if_neg (by decide), if_neg (by decide)]
    have u0 := x0.cell 0 _ rfl
    have u2 := x0.cell 2 _ rfl
    go_enter Tryd.func26, Tryd.ntmps26
    go_wp2_with fail
    generalize w.alloc (.cells #[.int .u8 ((3 : Nat) : Int), .int .i64 n, .string s] 51) = w1 at *
    refine (refText13 w1 B l v s hb0 hB0 (by omega)).mono ?_
    rintro e w2 ⟨v2, rfl, hbuf2, hz2⟩
    go_wp2_with fail
    go_ret
    exact ⟨v2, rfl, hbuf2, (Bz.of hb1).trans hz2⟩
end Go.Proofs.YtbcnekaagkdmeaaDoor
