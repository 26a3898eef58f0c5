/- THE WALK of entry's reader.stat. No statement of the seat is proved here; no condition. -/
import Derived.Test.YtbcnekaagkdmeaaDoorEnK
namespace Go.Proofs.YtbcnekaagkdmeaaDoor
open Go.RowKit

def stA (s : St) : Array Value := #[.int .i64 s.rows.toInt, .int .i64 s.nulls.toInt, .bool s.som, .bool s.high, .int .u8 (s.mn.kind.toNat : Int), .int .i64 s.mn.n.toInt, .string s.mn.s, .int .u8 (s.mx.kind.toNat : Int), .int .i64 s.mx.n.toInt, .string s.mx.s]
set_option maxRecDepth 100000 in
theorem load_st (w : World) (b : Nat) (v0 v1 v2 v3 v4 v5 v6 v7 v8 v9 : Value) (c0 : w.cell? ⟨b, 0, none⟩ = some v0) (c1 : w.cell? ⟨b, 1, none⟩ = some v1) (c2 : w.cell? ⟨b, 2, none⟩ = some v2) (c3 : w.cell? ⟨b, 3, none⟩ = some v3) (c4 : w.cell? ⟨b, 4, none⟩ = some v4)
    (c5 : w.cell? ⟨b, 5, none⟩ = some v5) (c6 : w.cell? ⟨b, 6, none⟩ = some v6) (c7 : w.cell? ⟨b, 7, none⟩ = some v7) (c8 : w.cell? ⟨b, 8, none⟩ = some v8) (c9 : w.cell? ⟨b, 9, none⟩ = some v9) :
    (loadVar 53 ⟨b, 0, none⟩).run Tryd.prog w = .ok (.agg #[v0, v1, v2, v3, v4, v5, v6, v7, v8, v9]) w := by
  go_simp
set_option maxRecDepth 100000 in
theorem ret_st {fn : Func} {p : Tmp} (h : fn.results = #[.cell p 53]) (tmps : Array Value) (w : World) {b : Nat} {v0 v1 v2 v3 v4 v5 v6 v7 v8 v9 : Value} (hp : tmps.getD p undef = .pointer (some ⟨b, 0, none⟩)) (hb : BoxN w b [v0, v1, v2, v3, v4, v5, v6, v7, v8, v9]) :
    (results fn tmps).run Tryd.prog w = .ok (.agg #[v0, v1, v2, v3, v4, v5, v6, v7, v8, v9]) w := by
  rw [results_cell h, hp]
  have := load_st w b _ _ _ _ _ _ _ _ _ _ (hb.cell 0 _ rfl) (hb.cell 1 _ rfl) (hb.cell 2 _ rfl) (hb.cell 3 _ rfl) (hb.cell 4 _ rfl) (hb.cell 5 _ rfl) (hb.cell 6 _ rfl) (hb.cell 7 _ rfl) (hb.cell 8 _ rfl) (hb.cell 9 _ rfl)
  simp [asAddr, Result.andThen, this]
def StEnd (w : World) (b : Nat) (P : Nat → Prop) (r : MSt) (e : Ending) (w' : World) : Prop :=
  e = .returned (.agg (stA r.1)) ∧ (∃ A c, RdrB w' b P A c r.2.1 r.2.2) ∧ Oth b w w'
theorem stEnd_of (s : St) {w0 wr : World} {B0 br : Nat} {P : Nat → Prop} {zs : List Value} {A : Option Addr} {c : Nat} {l : List UInt8} {e : Bool} {r : MSt} {a : Array Value} (h : GK0 w0 B0 br P zs A c l e wr) (hr : r = (s, l, e)) (ha : stA s = a) : StEnd w0 br P r (.returned (.agg a)) wr := by
  subst hr ha
  exact ⟨rfl, h.ends, h.oth⟩
set_option maxRecDepth 100000 in
set_option maxHeartbeats 4000000 in
theorem entRStat (w : World) (b : Nat) (P : Nat → Prop) (A : Option Addr) (c : Nat) (l : List UInt8) (bad : Bool) (h : RdrB w b P A c l bad) (rows : Int64) :
    Calls Tryd.prog 49 #[.pointer (some ⟨b, 0, none⟩), .int .i64 rows.toInt] w (StEnd w b P (rstat rows l bad)) := by
  have HC : Hid (rstat rows l bad = stat2 rows (rsm 256 l bad).1 (rsm 3 (rsm 256 l bad).2.1 (rsm 256 l bad).2.2).1 (rsm 3 (rsm 256 l bad).2.1 (rsm 256 l bad).2.2).2.1 (rsm 3 (rsm 256 l bad).2.1 (rsm 256 l bad).2.2).2.2) := hide rfl
  obtain ⟨R, hR⟩ : ∃ R, rstat rows l bad = R := ⟨_, rfl⟩
  rw [hR] at HC ⊢
  clear hR
  have g0 := gk0_new h #[.int .i64 0, .int .i64 0, .bool false, .bool false, .int .u8 0, .int .i64 0, .string ⟨#[]⟩, .int .u8 0, .int .i64 0, .string ⟨#[]⟩] 53
  go_enter Tryd.func49, Tryd.ntmps49
  go_wp2_with fail
  generalize w.alloc (.cells #[.int .i64 0, .int .i64 0, .bool false, .bool false, .int .u8 0, .int .i64 0, .string ⟨#[]⟩, .int .u8 0, .int .i64 0, .string ⟨#[]⟩] 53) = w1 at *
  obtain ⟨B0, hB0⟩ : ∃ B, B = w.heap.size := ⟨_, rfl⟩
  rw [← hB0] at g0 ⊢
  clear h hB0
  refine (entSmall w1 b _ A c l bad g0.rd 256 (by decide)).mono ?_
  rintro e w2 ⟨rfl, ⟨A1, c1, h1⟩, ho1⟩
  have hle := rsm_le 256 l bad
  obtain ⟨a, l1, b1, hn⟩ : ∃ n l1 b1, rsm 256 l bad = (n, l1, b1) := ⟨_, _, _, rfl⟩
  rw [hn] at h1 hle HC ⊢
  dsimp only at h1 hle HC ⊢
  have G0 := g0.go h1 ho1
  have gA := G0.new #[.int .i64 rows.toInt, .int .i64 (a : Int), .bool false, .bool false, .int .u8 0, .int .i64 0, .string ⟨#[]⟩, .int .u8 0, .int .i64 0, .string ⟨#[]⟩] 53
  have ena : (Int64.ofNat a).toInt = (a : Int) := i64_small (by omega)
  have HENA := hide ena
  clear hn h1 ho1 g0 G0 ena hle
  go_wp2_with fail
  generalize w2.alloc (.cells #[.int .i64 rows.toInt, .int .i64 (a : Int), .bool false, .bool false, .int .u8 0, .int .i64 0, .string ⟨#[]⟩, .int .u8 0, .int .i64 0, .string ⟨#[]⟩] 53) = wA at *
  generalize w2.heap.size = bs at *
  refine (entSmall wA b _ A1 c1 l1 b1 gA.g0.rd 3 (by decide)).mono ?_
  rintro e w3 ⟨rfl, ⟨A2, c2, h1⟩, ho1⟩
  have hle := rsm_le 3 l1 b1
  obtain ⟨f, l2, b2, hn⟩ : ∃ x y z, rsm 3 l1 b1 = (x, y, z) := ⟨_, _, _, rfl⟩
  rw [hn] at h1 hle HC ⊢
  dsimp only at h1 hle HC ⊢
  have G := gA.go h1 ho1
  have n3 := G.nb3
  have n4 := G.nb4
  have n1 := G.nb1
  have n2 := G.nb2
  have n5 := G.nb5
  clear hn h1 ho1 gA
  by_cases hf : f = 0
  · subst hf
    have HR : Hid (R = (⟨rows, Int64.ofNat a, false, false, ceZ, ceZ⟩, l2, b2)) := hide (HC.out.trans (if_pos rfl))
    clear HC hle
    have x0 := G.bx.cell 0 _ rfl
    have x1 := G.bx.cell 1 _ rfl
    have x2 := G.bx.cell 2 _ rfl
    have x3 := G.bx.cell 3 _ rfl
    have x4 := G.bx.cell 4 _ rfl
    have x5 := G.bx.cell 5 _ rfl
    have x6 := G.bx.cell 6 _ rfl
    have x7 := G.bx.cell 7 _ rfl
    have x8 := G.bx.cell 8 _ rfl
    have x9 := G.bx.cell 9 _ rfl
    have z0 := G.g0.rb.cell 0 _ rfl
    have z1 := G.g0.rb.cell 1 _ rfl
    have z2 := G.g0.rb.cell 2 _ rfl
    have z3 := G.g0.rb.cell 3 _ rfl
    have z4 := G.g0.rb.cell 4 _ rfl
    have z5 := G.g0.rb.cell 5 _ rfl
    have z6 := G.g0.rb.cell 6 _ rfl
    have z7 := G.g0.rb.cell 7 _ rfl
    have z8 := G.g0.rb.cell 8 _ rfl
    have z9 := G.g0.rb.cell 9 _ rfl
    have fz0 := G.g0.rb.free 0 (by simp)
    have fz1 := G.g0.rb.free 1 (by simp)
    have fz2 := G.g0.rb.free 2 (by simp)
    have fz3 := G.g0.rb.free 3 (by simp)
    have fz4 := G.g0.rb.free 4 (by simp)
    have fz5 := G.g0.rb.free 5 (by simp)
    have fz6 := G.g0.rb.free 6 (by simp)
    have fz7 := G.g0.rb.free 7 (by simp)
    have fz8 := G.g0.rb.free 8 (by simp)
    have fz9 := G.g0.rb.free 9 (by simp)
    have HG := hide G
    clear G
    go_wp2_with fail
    (try simp only [Exit.inBlock, Exit.then])
    have G9 := ((((((((((HG.out.res 0 (.int .i64 rows.toInt) rfl).res 1 (.int .i64 (a : Int)) rfl).res 2 (.bool false) rfl).res 3 (.bool false) rfl).res 4 (.int .u8 0) rfl).res 5 (.int .i64 0) rfl).res 6 (.string ⟨#[]⟩) rfl).res 7 (.int .u8 0) rfl).res 8 (.int .i64 0) rfl).res 9 (.string ⟨#[]⟩) rfl)
    refine bodyPost_ret (ret_st (b := B0) rfl _ _ rfl G9.g0.rb) rfl ?_
    exact stEnd_of ⟨rows, Int64.ofNat a, false, false, ceZ, ceZ⟩ G9.g0 HR.out (by simp only [stA, HENA.out] <;> rfl)
  · have HC2 : Hid (R = stat3 rows a (decide (f = 3)) (UInt8.ofNat (rsm 3 l2 b2).1) (rsm 3 l2 b2).2.1 (rsm 3 l2 b2).2.2) := hide (HC.out.trans (if_neg hf))
    obtain ⟨hi, hhi⟩ : ∃ hi, hi = decide (f = 3) := ⟨_, rfl⟩
    rw [← hhi] at HC2
    have t15 : ((f : Int) == 0) = false := by rw [beq_eq_false_iff_ne]; omega
    have t18 : ((f : Int) == 3) = hi := by rw [hhi, Bool.eq_iff_iff]; simp only [beq_iff_eq, decide_eq_true_eq]; omega
    have x2 := G.bx.cell 2 _ rfl
    have x3 := G.bx.cell 3 _ rfl
    have fx2 := G.bx.free 2 (by simp)
    have fx3 := G.bx.free 3 (by simp)
    have HG := hide G
    clear HC hhi G hle
    go_upto_region 6 with fail
    have G := (HG.out.put 2 (.bool true) rfl).put 3 (.bool hi) rfl
    generalize (w3.setCell ⟨bs, 2, none⟩ (.bool true)).setCell ⟨bs, 3, none⟩ (.bool hi) = w4 at *
    clear x2 x3 fx2 fx3 HG hf t15 t18
    go_wp2_with fail
    refine (entSmall w4 b _ A2 c2 l2 b2 G.g0.rd 3 (by decide)).mono ?_
    rintro e w5 ⟨rfl, ⟨A3, c3, h1⟩, ho1⟩
    have hle := rsm_le 3 l2 b2
    obtain ⟨kk, l3, b3, hn⟩ : ∃ n l1 b1, rsm 3 l2 b2 = (n, l1, b1) := ⟨_, _, _, rfl⟩
    rw [hn] at h1 hle HC2 ⊢
    dsimp only at h1 hle HC2 ⊢
    have G5 := G.go h1 ho1
    obtain ⟨k, hk⟩ : ∃ k : UInt8, k = UInt8.ofNat kk := ⟨_, rfl⟩
    rw [← hk] at HC2
    have hkn : k.toNat = kk := by rw [hk, UInt8.toNat_ofNat']; omega
    have e22 : IntKind.u8.wrap (kk : Int) = (k.toNat : Int) := by rw [IntKind.wrap_u8, hkn]; omega
    have e23 : (kk : Int) % 256 = (k.toNat : Int) := by rw [hkn]; omega
    clear hn h1 ho1 G hle hk hkn
    go_wp2_with fail
    refine (entRCell w5 b _ A3 c3 l3 b3 G5.g0.rd k).mono ?_
    rintro e w6 ⟨rfl, ⟨A4, c4, h1⟩, ho1⟩
    have G6 := G5.go h1 ho1
    obtain ⟨mn, l4, b4, hn⟩ : ∃ n l1 b1, rcell k l3 b3 = (n, l1, b1) := ⟨_, _, _, rfl⟩
    rw [hn] at G6 ⊢
    dsimp only [ceV] at G6 ⊢
    have HC3 : Hid (R = stat3 rows a hi k l3 b3) := hide HC2.out
    have HN4 := hide hn
    clear HC2 hn h1 ho1 G5 e22 e23
    have fx4 := G6.bx.free 4 (by simp)
    have fx5 := G6.bx.free 5 (by simp)
    have fx6 := G6.bx.free 6 (by simp)
    have x4 := G6.bx.cell 4 _ rfl
    have x5 := G6.bx.cell 5 _ rfl
    have x6 := G6.bx.cell 6 _ rfl
    have HG := hide G6
    clear G6
    go_upto_region 8 with fail
    have G := ((HG.out.put 4 (.int .u8 (mn.kind.toNat : Int)) rfl).put 5 (.int .i64 mn.n.toInt) rfl).put 6 (.string mn.s) rfl
    generalize ((w6.setCell ⟨bs, 4, none⟩ (.int .u8 (mn.kind.toNat : Int))).setCell ⟨bs, 5, none⟩ (.int .i64 mn.n.toInt)).setCell ⟨bs, 6, none⟩ (.string mn.s) = w7 at *
    clear fx4 fx5 fx6 x4 x5 x6 HG
    cases hi with
    | false =>
      have HR : Hid (R = (⟨rows, Int64.ofNat a, true, false, mn, ceZ⟩, l4, b4)) := hide (HC3.out.trans ((if_neg (by simp)).trans (by rw [HN4.out])))
      clear HC3
      have x0 := G.bx.cell 0 _ rfl
      have x1 := G.bx.cell 1 _ rfl
      have x2 := G.bx.cell 2 _ rfl
      have x3 := G.bx.cell 3 _ rfl
      have x4 := G.bx.cell 4 _ rfl
      have x5 := G.bx.cell 5 _ rfl
      have x6 := G.bx.cell 6 _ rfl
      have x7 := G.bx.cell 7 _ rfl
      have x8 := G.bx.cell 8 _ rfl
      have x9 := G.bx.cell 9 _ rfl
      have z0 := G.g0.rb.cell 0 _ rfl
      have z1 := G.g0.rb.cell 1 _ rfl
      have z2 := G.g0.rb.cell 2 _ rfl
      have z3 := G.g0.rb.cell 3 _ rfl
      have z4 := G.g0.rb.cell 4 _ rfl
      have z5 := G.g0.rb.cell 5 _ rfl
      have z6 := G.g0.rb.cell 6 _ rfl
      have z7 := G.g0.rb.cell 7 _ rfl
      have z8 := G.g0.rb.cell 8 _ rfl
      have z9 := G.g0.rb.cell 9 _ rfl
      have fz0 := G.g0.rb.free 0 (by simp)
      have fz1 := G.g0.rb.free 1 (by simp)
      have fz2 := G.g0.rb.free 2 (by simp)
      have fz3 := G.g0.rb.free 3 (by simp)
      have fz4 := G.g0.rb.free 4 (by simp)
      have fz5 := G.g0.rb.free 5 (by simp)
      have fz6 := G.g0.rb.free 6 (by simp)
      have fz7 := G.g0.rb.free 7 (by simp)
      have fz8 := G.g0.rb.free 8 (by simp)
      have fz9 := G.g0.rb.free 9 (by simp)
      have HG := hide G
      clear G
      go_wp2_with fail
      (try simp only [Exit.inBlock, Exit.then])
      have G9 := ((((((((((HG.out.res 0 (.int .i64 rows.toInt) rfl).res 1 (.int .i64 (a : Int)) rfl).res 2 (.bool true) rfl).res 3 (.bool false) rfl).res 4 (.int .u8 (mn.kind.toNat : Int)) rfl).res 5 (.int .i64 mn.n.toInt) rfl).res 6 (.string mn.s) rfl).res 7 (.int .u8 0) rfl).res 8 (.int .i64 0) rfl).res 9 (.string ⟨#[]⟩) rfl)
      refine bodyPost_ret (ret_st (b := B0) rfl _ _ rfl G9.g0.rb) rfl ?_
      exact stEnd_of ⟨rows, Int64.ofNat a, true, false, mn, ceZ⟩ G9.g0 HR.out (by simp only [stA, HENA.out] <;> rfl)
    | true =>
      have HC4 : Hid (R = (⟨rows, Int64.ofNat a, true, true, mn, (rcell k l4 b4).1⟩, (rcell k l4 b4).2)) := hide (HC3.out.trans ((if_pos rfl).trans (by rw [HN4.out])))
      have x3 := G.bx.cell 3 _ rfl
      clear HC3
      go_wp2_with fail
      refine (entRCell w7 b _ A4 c4 l4 b4 G.g0.rd k).mono ?_
      rintro e w8 ⟨rfl, ⟨A5, c5, h1⟩, ho1⟩
      have G8 := G.go h1 ho1
      obtain ⟨mx, l5, b5, hn⟩ : ∃ n l1 b1, rcell k l4 b4 = (n, l1, b1) := ⟨_, _, _, rfl⟩
      rw [hn] at G8 ⊢
      dsimp only [ceV] at G8 ⊢
      have HR : Hid (R = (⟨rows, Int64.ofNat a, true, true, mn, mx⟩, l5, b5)) := hide (HC4.out.trans (by rw [hn]))
      clear HC4 hn h1 ho1 G x3
      have fx7 := G8.bx.free 7 (by simp)
      have fx8 := G8.bx.free 8 (by simp)
      have fx9 := G8.bx.free 9 (by simp)
      have x7 := G8.bx.cell 7 _ rfl
      have x8 := G8.bx.cell 8 _ rfl
      have x9 := G8.bx.cell 9 _ rfl
      have HG := hide G8
      clear G8
      go_upto_region 10 with fail
      have G := ((HG.out.put 7 (.int .u8 (mx.kind.toNat : Int)) rfl).put 8 (.int .i64 mx.n.toInt) rfl).put 9 (.string mx.s) rfl
      generalize ((w8.setCell ⟨bs, 7, none⟩ (.int .u8 (mx.kind.toNat : Int))).setCell ⟨bs, 8, none⟩ (.int .i64 mx.n.toInt)).setCell ⟨bs, 9, none⟩ (.string mx.s) = w9 at *
      clear fx7 fx8 fx9 x7 x8 x9 HG
      have x0 := G.bx.cell 0 _ rfl
      have x1 := G.bx.cell 1 _ rfl
      have x2 := G.bx.cell 2 _ rfl
      have x3 := G.bx.cell 3 _ rfl
      have x4 := G.bx.cell 4 _ rfl
      have x5 := G.bx.cell 5 _ rfl
      have x6 := G.bx.cell 6 _ rfl
      have x7 := G.bx.cell 7 _ rfl
      have x8 := G.bx.cell 8 _ rfl
      have x9 := G.bx.cell 9 _ rfl
      have z0 := G.g0.rb.cell 0 _ rfl
      have z1 := G.g0.rb.cell 1 _ rfl
      have z2 := G.g0.rb.cell 2 _ rfl
      have z3 := G.g0.rb.cell 3 _ rfl
      have z4 := G.g0.rb.cell 4 _ rfl
      have z5 := G.g0.rb.cell 5 _ rfl
      have z6 := G.g0.rb.cell 6 _ rfl
      have z7 := G.g0.rb.cell 7 _ rfl
      have z8 := G.g0.rb.cell 8 _ rfl
      have z9 := G.g0.rb.cell 9 _ rfl
      have fz0 := G.g0.rb.free 0 (by simp)
      have fz1 := G.g0.rb.free 1 (by simp)
      have fz2 := G.g0.rb.free 2 (by simp)
      have fz3 := G.g0.rb.free 3 (by simp)
      have fz4 := G.g0.rb.free 4 (by simp)
      have fz5 := G.g0.rb.free 5 (by simp)
      have fz6 := G.g0.rb.free 6 (by simp)
      have fz7 := G.g0.rb.free 7 (by simp)
      have fz8 := G.g0.rb.free 8 (by simp)
      have fz9 := G.g0.rb.free 9 (by simp)
      have HG := hide G
      clear G
      go_wp2_with fail
      (try simp only [Exit.inBlock, Exit.then])
      have G9 := ((((((((((HG.out.res 0 (.int .i64 rows.toInt) rfl).res 1 (.int .i64 (a : Int)) rfl).res 2 (.bool true) rfl).res 3 (.bool true) rfl).res 4 (.int .u8 (mn.kind.toNat : Int)) rfl).res 5 (.int .i64 mn.n.toInt) rfl).res 6 (.string mn.s) rfl).res 7 (.int .u8 (mx.kind.toNat : Int)) rfl).res 8 (.int .i64 mx.n.toInt) rfl).res 9 (.string mx.s) rfl)
      refine bodyPost_ret (ret_st (b := B0) rfl _ _ rfl G9.g0.rb) rfl ?_
      exact stEnd_of ⟨rows, Int64.ofNat a, true, true, mn, mx⟩ G9.g0 HR.out (by simp only [stA, HENA.out] <;> rfl)
end Go.Proofs.YtbcnekaagkdmeaaDoor
