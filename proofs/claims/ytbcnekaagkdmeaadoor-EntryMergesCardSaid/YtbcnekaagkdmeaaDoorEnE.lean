/- THE WALK of entry's reader.entry. No statement of the seat is proved here; no condition. -/
import Derived.Test.YtbcnekaagkdmeaaDoorEnL
namespace Go.Proofs.YtbcnekaagkdmeaaDoor
open Go.RowKit

theorem entRStatN (w : World) (b : Nat) (P : Nat → Prop) (A : Option Addr) (c : Nat) (l : List UInt8) (bad : Bool) (h : RdrB w b P A c l bad) (rn : Nat) (hn : rn ≤ 256) :
    Calls Tryd.prog 49 #[.pointer (some ⟨b, 0, none⟩), .int .i64 (rn : Int)] w (StEnd w b P (rstat (Int64.ofNat rn) l bad)) := by
  have := entRStat w b P A c l bad h (Int64.ofNat rn)
  rw [i64_small (by omega)] at this
  exact this
theorem rentry_of {l l1 l2 l3 l4 l5 l6 l7 : List UInt8} {bad b1 b2 b3 b4 b5 b6 b7 : Bool} {nm : ByteArray} {ks sq rn sc n : Nat} {sts : List St} (ha : mtext l bad = (nm, l1, b1)) (hb : rsm 1 l1 b1 = (ks, l2, b2)) (hc : mnum l2 b2 = (sq, l3, b3)) (hd : rsm 256 l3 b3 = (rn, l4, b4)) (hf : rsm 4294967295 l4 b4 = (sc, l5, b5)) (hg : rsm 8 l5 b5 = (n, l6, b6)) (hq : rstats (Int64.ofNat rn) n l6 b6 [] = (sts, l7, b7)) :
    rentry l bad = (⟨nm, decide (ks = 1), UInt64.ofNat sq, Int64.ofNat rn, UInt32.ofNat sc, sts⟩, l7, b7) := by
  simp only [rentry, rhead, ha, hb, hc, hd, hf, hg, hq]
def elA (x : En) (F : Option Addr) (fc : Nat) : Array Value := #[.string x.name, .bool x.keys, .int .u64 (x.seq.toNat : Int), .int .i64 x.rows.toInt, .int .u32 (x.sch.toNat : Int), .slice F x.stats.length fc]
set_option maxRecDepth 100000 in
theorem load_en (w : World) (b : Nat) (v0 v1 v2 v3 v4 v5 : Value) (c0 : w.cell? ⟨b, 0, none⟩ = some v0) (c1 : w.cell? ⟨b, 1, none⟩ = some v1) (c2 : w.cell? ⟨b, 2, none⟩ = some v2) (c3 : w.cell? ⟨b, 3, none⟩ = some v3) (c4 : w.cell? ⟨b, 4, none⟩ = some v4) (c5 : w.cell? ⟨b, 5, none⟩ = some v5) :
    (loadVar 36 ⟨b, 0, none⟩).run Tryd.prog w = .ok (.agg #[v0, v1, v2, v3, v4, v5]) w := by
  go_simp
set_option maxRecDepth 100000 in
theorem ret_en {fn : Func} {p : Tmp} (h : fn.results = #[.cell p 36]) (tmps : Array Value) (w : World) {b : Nat} {v0 v1 v2 v3 v4 v5 : Value} (hp : tmps.getD p undef = .pointer (some ⟨b, 0, none⟩)) (hb : BoxN w b [v0, v1, v2, v3, v4, v5]) :
    (results fn tmps).run Tryd.prog w = .ok (.agg #[v0, v1, v2, v3, v4, v5]) w := by
  rw [results_cell h, hp]
  have := load_en w b _ _ _ _ _ _ (hb.cell 0 _ rfl) (hb.cell 1 _ rfl) (hb.cell 2 _ rfl) (hb.cell 3 _ rfl) (hb.cell 4 _ rfl) (hb.cell 5 _ rfl)
  simp [asAddr, Result.andThen, this]
/-- within reader.entry -/
structure GE (w0 : World) (B0 br bs : Nat) (P : Nat → Prop) (nm : ByteArray) (kb : Bool) (sq rn sc : Nat) (zs : List Value) (A : Option Addr) (c : Nat) (l : List UInt8) (e : Bool) (fA : Option Addr) (fc : Nat) (ms : List St) (wr : World) : Prop where
  gk : GK w0 B0 br bs P [.string nm, .bool kb, .int .u64 (sq : Int), .int .i64 (rn : Int), .int .u32 (sc : Int), .slice fA ms.length fc] zs A c l e wr
  own : wr.ownsRow (bs + 1) 53 10 (.slice fA ms.length fc) ms.length (stsV ms)
section
variable {w0 wr w7 : World} {B0 br bs c fc sq rn sc : Nat} {P : Nat → Prop} {e kb : Bool} {nm : ByteArray} {zs : List Value} {A fA : Option Addr} {l : List UInt8} {ms : List St}
theorem GE.go (h : GE w0 B0 br bs P nm kb sq rn sc zs A c l e fA fc ms wr) {A2 : Option Addr} {c2 : Nat} {l2 : List UInt8} {e2 : Bool} (hr : RdrB w7 br (fun k => P k ∧ k < B0) A2 c2 l2 e2) (ho : Oth br wr w7) : GE w0 B0 br bs P nm kb sq rn sc zs A2 c2 l2 e2 fA fc ms w7 :=
  ⟨h.gk.go hr ho, own_oth h.own ho (by have := h.gk.o2; have := h.gk.g0.o3; omega)⟩
theorem GE.drew (h : GE w0 B0 br bs P nm kb sq rn sc zs A c l e fA fc ms wr) : GE w0 B0 br bs P nm kb sq rn sc zs A c l e fA fc ms wr.drew := h.go h.gk.g0.rd.drew (Oth.refl br wr).drew
theorem GE.res (h : GE w0 B0 br bs P nm kb sq rn sc zs A c l e fA fc ms wr) (j : Nat) (x : Value) {u : Value} (hj : zs[j]? = some u) : GE w0 B0 br bs P nm kb sq rn sc (zs.set j x) A c l e fA fc ms (wr.setCell ⟨B0, j, none⟩ x) :=
  ⟨h.gk.res j x hj, ownsRow_setCell_below h.own (a := ⟨B0, j, none⟩) (by show B0 < bs + 1; have := h.gk.o2; omega) x⟩
theorem GE.lit (h : GE w0 B0 br bs P nm kb sq rn sc zs A c l e fA fc ms wr) (s : St) :
    (wr.alloc (.cells (stA s) 53)).ownsRow (bs + 1) 53 10 (.slice fA ms.length fc) ms.length (stsV ms) ∧ ∀ j u, (stV s)[j]? = some u → (wr.alloc (.cells (stA s) 53)).cell? ((⟨wr.heap.size, 0, none⟩ : Addr).add j) = some u := by
  refine ⟨h.own.alloc _, fun j u hu => ?_⟩
  have := (boxN_new wr (stA s) 53).cell j u hu
  rw [Addr.add_lit, Nat.zero_add]
  exact this
theorem GE.grown (h : GE w0 B0 br bs P nm kb sq rn sc zs A c l e fA fc ms wr) {s : St} {w8 : World} {g cap : Nat} (hown : w8.ownsRow (bs + 1) 53 10 (.slice (some ⟨g, 0, none⟩) (ms.length + 1) cap) (ms.length + 1) (stsV ms ++ stV s))
    (hg : (wr.alloc (.cells (stA s) 53)).grownBy w8 (Value.slice fA ms.length fc).ownBlock) :
    w8.cell? ⟨bs, 5, none⟩ = some (.slice fA ms.length fc) ∧ w8.frozen? ⟨bs, 5, none⟩ = false ∧ w8.cell? ⟨bs, 3, none⟩ = some (.int .i64 (rn : Int)) ∧
      GE w0 B0 br bs P nm kb sq rn sc zs A c l e (some ⟨g, 0, none⟩) cap (ms ++ [s]) (w8.setCell ⟨bs, 5, none⟩ (.slice (some ⟨g, 0, none⟩) (ms.length + 1) cap)) := by
  have hz := h.gk.bx.z
  have h2 := h.gk.o2
  have h3 := h.gk.g0.o3
  have hb : Below (bs + 1) wr w8 := below_app ((Below.refl (bs + 1) wr).alloc (by omega) (.cells (stA s) 53)) (Nat.le_refl _) (h.own.alloc _) hg (by simp; omega)
  have bx := h.gk.bx.keep hb (Nat.lt_succ_self bs)
  have e1 : (ms ++ [s]).length = ms.length + 1 := by simp
  have e2 : stsV ms ++ stV s = stsV (ms ++ [s]) := by simp [stsV]
  have hk : GK w0 B0 br bs P [.string nm, .bool kb, .int .u64 (sq : Int), .int .i64 (rn : Int), .int .u32 (sc : Int), .slice fA ms.length fc] zs A c l e w8 := by
    refine ⟨⟨h.gk.g0.rd.keepB hb (by omega) (fun k hk _ => by have : k < B0 := hk.2; omega), h.gk.g0.rb.keep hb (by omega), ?_, h3, h.gk.g0.o4, h.gk.g0.nP⟩, bx, h2⟩
    have ho := h.gk.g0.oth
    exact ⟨hb.os.trans ho.os, hb.tape.trans ho.tape, hb.output.trans ho.output, Nat.le_trans ho.size hb.size, fun k hk hne => (hb.block k (by have := h.gk.g0.o4; omega)).trans (ho.block k hk hne)⟩
  refine ⟨bx.cell 5 _ rfl, bx.free 5 (by simp), bx.cell 3 _ rfl, ?_, ?_⟩
  · rw [e1]; exact hk.put 5 _ rfl
  · rw [e1, ← e2]; exact ownsRow_setCell_below hown (a := ⟨bs, 5, none⟩) (Nat.lt_succ_self _) _
end
/-- a round is done -/
def GET (w0 : World) (B0 br bs : Nat) (P : Nat → Prop) (nm : ByteArray) (kb : Bool) (sq rn sc : Nat) (zs : List Value) (l : List UInt8) (ms : List St) (wx : World) : Prop :=
  ∃ A c g cap, GE w0 B0 br bs P nm kb sq rn sc zs A c (rstat (Int64.ofNat rn) l false).2.1 (rstat (Int64.ofNat rn) l false).2.2 (some ⟨g, 0, none⟩) cap (ms ++ [(rstat (Int64.ofNat rn) l false).1]) wx
def GER (w0 : World) (B0 br bs : Nat) (P : Nat → Prop) (nm : ByteArray) (kb : Bool) (sq rn sc : Nat) (zs : List Value) (Q : List St × List UInt8 × Bool) (nv : Value) (wr : World) : Prop :=
  ∃ (m : Nat) (A : Option Addr) (c : Nat) (l : List UInt8) (e : Bool) (fA : Option Addr) (fc : Nat) (ms : List St), nv = .int .i64 (m : Int) ∧ m + ms.length ≤ 8 ∧ Hid (rstats (Int64.ofNat rn) m l e ms = Q) ∧ GE w0 B0 br bs P nm kb sq rn sc zs A c l e fA fc ms wr
def EnEnd (w : World) (b : Nat) (P : Nat → Prop) (r : MEn) (e : Ending) (w' : World) : Prop :=
  ∃ F fc, e = .returned (.agg (elA r.1 F fc)) ∧ r.1.stats.length ≤ 8 ∧ w'.ownsRow w.heap.size 53 10 (.slice F r.1.stats.length fc) r.1.stats.length (stsV r.1.stats) ∧ (∃ A c, RdrB w' b P A c r.2.1 r.2.2) ∧ Oth b w w'
theorem enEnd_of {w0 wr : World} {B0 br bs c fc sq rn sc : Nat} {P : Nat → Prop} {e kb : Bool} {nm : ByteArray} {zs : List Value} {A fA : Option Addr} {l : List UInt8} {ms : List St} {r : MEn} (h : GE w0 B0 br bs P nm kb sq rn sc zs A c l e fA fc ms wr) (h8 : ms.length ≤ 8) (hsq : sq < 18446744073709551616) (hrn : rn ≤ 256) (hsc : sc < 4294967296)
    (hr : r = (⟨nm, kb, UInt64.ofNat sq, Int64.ofNat rn, UInt32.ofNat sc, ms⟩, l, e)) : EnEnd w0 br P r (.returned (.agg #[.string nm, .bool kb, .int .u64 (sq : Int), .int .i64 (rn : Int), .int .u32 (sc : Int), .slice fA ms.length fc])) wr := by
  subst hr
  refine ⟨fA, fc, ?_, h8, own_base h.own (by have := h.gk.o2; have := h.gk.g0.o4; omega), h.gk.g0.ends, h.gk.g0.oth⟩
  have a1 : (UInt64.ofNat sq).toNat = sq := by rw [UInt64.toNat_ofNat']; omega
  have a2 : (UInt32.ofNat sc).toNat = sc := by rw [UInt32.toNat_ofNat']; omega
  simp only [elA, a1, a2, i64_small (show rn ≤ 4294967296 by omega)]
set_option maxRecDepth 100000 in
set_option maxHeartbeats 4000000 in
theorem entREntry (w : World) (br : Nat) (P : Nat → Prop) (A : Option Addr) (c : Nat) (l : List UInt8) (bad : Bool) (h : RdrB w br P A c l bad) :
    Calls Tryd.prog 33 #[.pointer (some ⟨br, 0, none⟩)] w (EnEnd w br P (rentry l bad)) := by
  have g0 := gk0_new h #[.string ⟨#[]⟩, .bool false, .int .u64 0, .int .i64 0, .int .u32 0, .slice none 0 0] 36
  go_enter Tryd.func33, Tryd.ntmps33
  go_wp2_with fail
  generalize w.alloc (.cells #[.string ⟨#[]⟩, .bool false, .int .u64 0, .int .i64 0, .int .u32 0, .slice none 0 0] 36) = w0 at *
  obtain ⟨B0, hB0⟩ : ∃ B, B = w.heap.size := ⟨_, rfl⟩
  rw [← hB0] at g0 ⊢
  clear h hB0
  refine (entText w0 br _ A c l bad g0.rd).mono ?_
  rintro e w1 ⟨rfl, ⟨A1, c1, h1⟩, ho⟩
  obtain ⟨nm, l1, b1, hn⟩ : ∃ x y z, mtext l bad = (x, y, z) := ⟨_, _, _, rfl⟩
  rw [hn] at h1 ⊢
  dsimp only at h1 ⊢
  have HA := hide hn
  have g1 := g0.go h1 ho
  clear hn h1 ho g0
  go_wp2_with fail
  refine (entSmall w1 br _ A1 c1 l1 b1 g1.rd 1 (by decide)).mono ?_
  rintro e w2 ⟨rfl, ⟨A2, c2, h1⟩, ho⟩
  obtain ⟨ks, l2, b2, hn⟩ : ∃ x y z, rsm 1 l1 b1 = (x, y, z) := ⟨_, _, _, rfl⟩
  rw [hn] at h1 ⊢
  dsimp only at h1 ⊢
  have HBK := hide hn
  have g2 := g1.go h1 ho
  obtain ⟨kb, hkb⟩ : ∃ kb, kb = decide (ks = 1) := ⟨_, rfl⟩
  have t9 : ((ks : Int) == 1) = kb := by rw [hkb, Bool.eq_iff_iff]; simp only [beq_iff_eq, decide_eq_true_eq]; omega
  have HKB := hide hkb
  clear hn h1 ho g1 hkb
  go_wp2_with fail
  refine (entNum w2 br _ A2 c2 l2 b2 g2.rd).mono ?_
  rintro e w3 ⟨rfl, ⟨A3, c3, h1⟩, ho⟩
  have hlt := mnum_lt l2 b2
  obtain ⟨sq, l3, b3, hn⟩ : ∃ x y z, mnum l2 b2 = (x, y, z) := ⟨_, _, _, rfl⟩
  rw [hn] at h1 hlt ⊢
  dsimp only at h1 hlt ⊢
  have HSQ := hide hlt
  have HCN := hide hn
  have g3 := g2.go h1 ho
  clear hn h1 ho g2 hlt
  go_wp2_with fail
  refine (entSmall w3 br _ A3 c3 l3 b3 g3.rd 256 (by decide)).mono ?_
  rintro e w4 ⟨rfl, ⟨A4, c4, h1⟩, ho⟩
  have hlt := rsm_le 256 l3 b3
  obtain ⟨rn, l4, b4, hn⟩ : ∃ x y z, rsm 256 l3 b3 = (x, y, z) := ⟨_, _, _, rfl⟩
  rw [hn] at h1 hlt ⊢
  dsimp only at h1 hlt ⊢
  have HRN := hide hlt
  have HDN := hide hn
  have g4 := g3.go h1 ho
  clear hn h1 ho g3 hlt
  go_wp2_with fail
  refine (entSmall w4 br _ A4 c4 l4 b4 g4.rd 4294967295 (by decide)).mono ?_
  rintro e w5 ⟨rfl, ⟨A5, c5, h1⟩, ho⟩
  have hlt := rsm_le 4294967295 l4 b4
  obtain ⟨sc, l5, b5, hn⟩ : ∃ x y z, rsm 4294967295 l4 b4 = (x, y, z) := ⟨_, _, _, rfl⟩
  rw [hn] at h1 hlt ⊢
  dsimp only at h1 hlt ⊢
  have HSC := hide hlt
  have HFN := hide hn
  have g5 := g4.go h1 ho
  have e16 : IntKind.u32.wrap (sc : Int) = (sc : Int) := by rw [IntKind.wrap_u32]; omega
  have e17 : (sc : Int) % 4294967296 = (sc : Int) := by omega
  have gA := g5.new #[.string nm, .bool kb, .int .u64 (sq : Int), .int .i64 (rn : Int), .int .u32 (sc : Int), .slice none 0 0] 36
  clear hn h1 ho g4 hlt g5
  go_wp2_with fail
  generalize w5.alloc (.cells #[.string nm, .bool kb, .int .u64 (sq : Int), .int .i64 (rn : Int), .int .u32 (sc : Int), .slice none 0 0] 36) = wA at *
  generalize w5.heap.size = bs at *
  refine (entSmall wA br _ A5 c5 l5 b5 gA.g0.rd 8 (by decide)).mono ?_
  rintro e w6 ⟨rfl, ⟨A6, c6, h1⟩, ho⟩
  have hlt := rsm_le 8 l5 b5
  obtain ⟨N, l6, b6, hn⟩ : ∃ x y z, rsm 8 l5 b5 = (x, y, z) := ⟨_, _, _, rfl⟩
  rw [hn] at h1 hlt ⊢
  dsimp only at h1 hlt ⊢
  have gN := gA.go h1 ho
  obtain ⟨Q, hQ⟩ : ∃ Q, rstats (Int64.ofNat rn) N l6 b6 [] = Q := ⟨_, rfl⟩
  have HQ := hide hQ
  have HR : Hid (rentry l bad = (⟨nm, kb, UInt64.ofNat sq, Int64.ofNat rn, UInt32.ofNat sc, Q.1⟩, Q.2.1, Q.2.2)) := hide (by
    rw [rentry_of HA.out HBK.out HCN.out HDN.out HFN.out hn (hQ.trans (show Q = (Q.1, Q.2.1, Q.2.2) from rfl)), HKB.out])
  have G7 : GE w B0 br bs P nm kb sq rn sc [.string ⟨#[]⟩, .bool false, .int .u64 0, .int .i64 0, .int .u32 0, .slice none 0 0] A6 c6 l6 b6 none 0 [] w6 := ⟨gN, World.ownsRow_nil _ _ _ _⟩
  clear hn h1 ho gA gN HA HBK HCN HDN HFN HKB e16 e17 t9 hQ
  obtain ⟨ti, hti, hti1, hti2, hti3⟩ := info_parts tySts.inf
  go_wp2_with fail
  go_loopw [4] (GER w B0 br bs P nm kb sq rn sc [.string ⟨#[]⟩, .bool false, .int .u64 0, .int .i64 0, .int .u32 0, .slice none 0 0] Q) (fun iv _ => (intOf iv).toNat)
  case atStart => exact ⟨N, A6, c6, l6, b6, none, 0, [], rfl, by simpa using hlt, HQ, G7⟩
  case round =>
    clear G7 hlt
    obtain ⟨m, A', c', l', e', fA, fc, ms, rfl, hm8, hrd, G⟩ := hrel
    have k1 := G.gk.g0.rd.c1
    have s5 := G.gk.bx.cell 5 _ rfl
    have HG := hide G
    by_cases hx : m = 0 ∨ e' = true
    · -- THE END
      have hq := rstats_end (rows := Int64.ofNat rn) (l := l') (acc := ms) hx
      rw [hrd.out] at hq
      have d0 := G.gk.bx.cell 0 _ rfl
      have d1 := G.gk.bx.cell 1 _ rfl
      have d2 := G.gk.bx.cell 2 _ rfl
      have d3 := G.gk.bx.cell 3 _ rfl
      have d4 := G.gk.bx.cell 4 _ rfl
      have z0 := G.gk.g0.rb.cell 0 _ rfl
      have fz0 := G.gk.g0.rb.free 0 (by simp)
      have z1 := G.gk.g0.rb.cell 1 _ rfl
      have fz1 := G.gk.g0.rb.free 1 (by simp)
      have z2 := G.gk.g0.rb.cell 2 _ rfl
      have fz2 := G.gk.g0.rb.free 2 (by simp)
      have z3 := G.gk.g0.rb.cell 3 _ rfl
      have fz3 := G.gk.g0.rb.free 3 (by simp)
      have z4 := G.gk.g0.rb.cell 4 _ rfl
      have fz4 := G.gk.g0.rb.free 4 (by simp)
      have z5 := G.gk.g0.rb.cell 5 _ rfl
      have fz5 := G.gk.g0.rb.free 5 (by simp)
      have nb1 := G.gk.nb1
      have nb2 := G.gk.nb2
      have HRES : Hid (rentry l bad = (⟨nm, kb, UInt64.ofNat sq, Int64.ofNat rn, UInt32.ofNat sc, ms⟩, l', e')) := hide (by rw [HR.out, hq])
      have H8 : Hid (ms.length ≤ 8) := hide (by omega)
      clear hq hrd G
      by_cases hm : m = 0
      · have t1 : ¬ 0 < m := by omega
        have t2 : decide ((0 : Int) < (m : Int)) = false := decide_eq_false (by omega)
        clear hx
        go_wp2_with fail
        (try simp only [Exit.inBlock, Exit.then])
        have G9 := ((((((HG.out.res 0 (.string nm) rfl).res 1 (.bool kb) rfl).res 2 (.int .u64 (sq : Int)) rfl).res 3 (.int .i64 (rn : Int)) rfl).res 4 (.int .u32 (sc : Int)) rfl).res 5 (.slice fA ms.length fc) rfl)
        refine bodyPost_ret (ret_en (b := B0) rfl _ _ rfl G9.gk.g0.rb) rfl ?_
        exact enEnd_of G9 H8.out HSQ.out HRN.out (by have := HSC.out; omega) HRES.out
      · obtain rfl : e' = true := by simpa [hm] using hx
        have t2 : decide ((0 : Int) < (m : Int)) = true := decide_eq_true (by omega)
        clear hx
        go_wp2_with fail
        (try simp only [Exit.inBlock, Exit.then])
        have G9 := ((((((HG.out.res 0 (.string nm) rfl).res 1 (.bool kb) rfl).res 2 (.int .u64 (sq : Int)) rfl).res 3 (.int .i64 (rn : Int)) rfl).res 4 (.int .u32 (sc : Int)) rfl).res 5 (.slice fA ms.length fc) rfl)
        refine bodyPost_ret (ret_en (b := B0) rfl _ _ rfl G9.gk.g0.rb) rfl ?_
        exact enEnd_of G9 H8.out HSQ.out HRN.out (by have := HSC.out; omega) HRES.out
    · -- THE ROUND
      have hm0 : 0 < m := by omega
      obtain rfl : e' = false := by cases e' <;> simp_all
      have hq := hrd.out
      rw [show m = (m - 1) + 1 by omega, rstats_on] at hq
      have HQ2 := hide hq
      have t1 : decide ((0 : Int) < (m : Int)) = true := decide_eq_true (by omega)
      have HM := hide hm0
      have f5 := G.gk.bx.free 5 (by simp)
      have s0 := G.gk.bx.cell 3 _ rfl
      have hrn := HRN.out
      clear hq hrd hx hm0 G
      go_upto_region 5 with fail
      refine wp_region_held_drew (S := (fun w' => w'.cell? ⟨bs, 3, none⟩ = some (.int .i64 (rn : Int)))) (by kernel_rfl) ?_ (fun hHeld => ?_)
      · exact s0
      refine wpAnyH_take (i := 0) (v := ?_) rfl (by kernel_rfl) (by kernel_rfl) (by kernel_rfl) (fun _ _ _ h => h) (Or.inl ⟨by rfl, ?_⟩) hHeld ?_
      rotate_left 1
      · (intro w hSw; go_simp; first | done | with_reducible rfl)
      (try simp only [Act.put, List.setIfInBounds_toArray, List.set_cons_zero, List.set_cons_succ])
      refine wpAnyH_take (i := 2) (v := ?_) rfl (by kernel_rfl) (by kernel_rfl) (by kernel_rfl) (fun _ _ _ h => h) (Or.inl ⟨by rfl, ?_⟩) hHeld ?_
      rotate_left 1
      · (intro w hSw; go_simp; first | done | with_reducible rfl)
      (try simp only [Act.put, List.setIfInBounds_toArray, List.set_cons_zero, List.set_cons_succ])
      refine wpAnyH_take (i := 3) (v := ?_) rfl (by kernel_rfl) (by kernel_rfl) (by kernel_rfl) (fun _ _ _ h => h) (Or.inl ⟨by rfl, ?_⟩) hHeld ?_
      rotate_left 1
      · (intro w hSw; go_simp; first | done | with_reducible rfl)
      (try simp only [Act.put, List.setIfInBounds_toArray, List.set_cons_zero, List.set_cons_succ])
      refine wpAnyH_take (i := 4) (v := ?_) rfl (by kernel_rfl) (by kernel_rfl) (by kernel_rfl) (fun _ _ _ h => h) (Or.inl ⟨by rfl, ?_⟩) hHeld ?_
      rotate_left 1
      · (intro w hSw; have q3 : w.cell? ⟨bs, 3, none⟩ = some (.int .i64 (rn : Int)) := hSw; go_simp; first | done | with_reducible rfl)
      (try simp only [Act.put, List.setIfInBounds_toArray, List.set_cons_zero, List.set_cons_succ])
      refine wpAnyH_ready (rs := [1, 5]) (by kernel_rfl) (by simp) ?_
      refine AllReadyH.cons rfl (fun K hK => ?_) (AllReadyH.cons rfl (fun K hK => ?_) (AllReadyH.nil))
      · go_simp
        refine hK.out _ _ s0 (fun hHeld => ?_)
        clear hK K
        (try simp only [Act.put, List.setIfInBounds_toArray, List.set_cons_zero, List.set_cons_succ])
        refine wpAnyH_ready (rs := [5]) (by kernel_rfl) (by simp) ?_
        refine AllReadyH.cons rfl (fun K hK => ?_) (AllReadyH.nil)
        · go_simp
          go_at_call 49
          refine (entRStatN wr.drew br _ A' c' l' false HG.out.drew.gk.g0.rd rn (by omega)).mono ?_
          rintro e w6 ⟨rfl, ⟨A6, c6, rd6⟩, ho6⟩
          obtain ⟨s6, l6, e6, hT⟩ : ∃ s l e, rstat (Int64.ofNat rn) l' false = (s, l, e) := ⟨_, _, _, rfl⟩
          rw [hT] at rd6 ⊢
          dsimp only [stA] at rd6 ⊢
          have HT := hide hT
          have HG6 := hide (HG.out.drew.go rd6 ho6)
          have s1 := HG6.out.gk.bx.cell 5 _ rfl
          have s3 := HG6.out.gk.bx.cell 3 _ rfl
          have HL := hide (HG6.out.lit s6)
          have hz6 : bs + 1 ≤ w6.heap.size := HG6.out.gk.bx.z
          have hbL := (Below.refl w6.heap.size w6).alloc (Nat.le_refl _) (.cells (stA s6) 53)
          have s2 := (HG6.out.gk.bx.keep hbL HG6.out.gk.bx.z).cell 5 _ rfl
          have s4 := (HG6.out.gk.bx.keep hbL HG6.out.gk.bx.z).cell 3 _ rfl
          dsimp only [stA] at s2 s4 HL
          clear hT hbL rd6 ho6
          (try dsimp only)
          refine hK.out _ _ s3 (fun hHeld => ?_)
          clear hK K
          (try simp only [Act.put, List.setIfInBounds_toArray, List.set_cons_zero, List.set_cons_succ])
          refine wpAnyH_ready (rs := [6]) (by kernel_rfl) (by simp) ?_
          refine AllReadyH.cons rfl (fun K hK => ?_) (AllReadyH.nil)
          · go_simp
            refine hK.out _ _ s4 (fun hHeld => ?_)
            clear hK K
            (try simp only [Act.put, List.setIfInBounds_toArray, List.set_cons_zero, List.set_cons_succ])
            refine wpAnyH_ready (rs := [7]) (by kernel_rfl) (by simp) ?_
            refine AllReadyH.cons rfl (fun K hK => ?_) (AllReadyH.nil)
            · refine step_append_lies _ rfl (.tmp 32) (.tmp 37) 34 rfl (bs + 1) 53 ti _ 10 88 Tryd.underlying34 hti hti1 hti2 hti3 tySts.zs (by decide) _ ms.length (stsV ms) (by simp [Act.eval, Act.put]) HL.out.1 _ 1 1 (stV s6) (by simp [Act.eval, Act.put]) rfl HL.out.2 (stV_one s6) (by omega) (by unfold maxLen <;> omega) (by omega) (by simp <;> omega) _ rfl ?_
              intro g cap w8 hown8 hg8 _ _
              obtain ⟨d1, d2, d3, hG8⟩ := HG6.out.grown (s := s6) hown8 hg8
              have HG8 := hide hG8
              clear hown8 hg8 hG8
              refine hK.out _ _ d3 (fun hHeld => ?_)
              clear hK K
              (try simp only [Act.put, List.setIfInBounds_toArray, List.set_cons_zero, List.set_cons_succ])
              refine wpAnyH_take (i := 8) (v := ?_) rfl (by kernel_rfl) (by kernel_rfl) (by kernel_rfl) (fun _ _ _ h => h) (Or.inl ⟨by rfl, ?_⟩) hHeld ?_
              rotate_left 1
              · (intro w hSw; go_simp; first | done | with_reducible rfl)
              (try simp only [Act.put, List.setIfInBounds_toArray, List.set_cons_zero, List.set_cons_succ])
              refine wpAnyH_ready (rs := [9]) (by kernel_rfl) (by simp) ?_
              refine AllReadyH.cons rfl (fun K hK => ?_) (AllReadyH.nil)
              · go_simp
                refine hK.out _ _ (HG8.out.gk.bx.cell 3 _ rfl) (fun hHeld => ?_)
                clear hK K
                (try simp only [Act.put, List.setIfInBounds_toArray, List.set_cons_zero, List.set_cons_succ])
                refine wpAnyH_done (by kernel_rfl) ?_ _
                have HQ4 : Hid (rstats (Int64.ofNat rn) (m - 1) l6 e6 (ms ++ [s6]) = Q) := hide (by have q := HQ2.out; rw [HT.out] at q; exact q)
                clear k1 s0 s5 f5 HQ2 HT HG HG6 HL
                clear d1 d2 d3 s1 s2 s3 s4
                go_wp2_with fail
                go_roundw
                case rel => exact ⟨m - 1, A6, c6, l6, e6, _, cap, ms ++ [s6], by have := HM.out; congr 1; omega, by have := HM.out; rw [List.length_append, List.length_singleton]; omega, HQ4, HG8.out⟩
                case measure => have := HM.out; simp [intOf]; omega
      · go_simp
        go_at_call 49
        refine (entRStatN wr.drew br _ A' c' l' false HG.out.drew.gk.g0.rd rn (by omega)).mono ?_
        rintro e w6 ⟨rfl, ⟨A6, c6, rd6⟩, ho6⟩
        obtain ⟨s6, l6, e6, hT⟩ : ∃ s l e, rstat (Int64.ofNat rn) l' false = (s, l, e) := ⟨_, _, _, rfl⟩
        rw [hT] at rd6 ⊢
        dsimp only [stA] at rd6 ⊢
        have HT := hide hT
        have HG6 := hide (HG.out.drew.go rd6 ho6)
        have s1 := HG6.out.gk.bx.cell 5 _ rfl
        have s3 := HG6.out.gk.bx.cell 3 _ rfl
        have HL := hide (HG6.out.lit s6)
        have hz6 : bs + 1 ≤ w6.heap.size := HG6.out.gk.bx.z
        have hbL := (Below.refl w6.heap.size w6).alloc (Nat.le_refl _) (.cells (stA s6) 53)
        have s2 := (HG6.out.gk.bx.keep hbL HG6.out.gk.bx.z).cell 5 _ rfl
        have s4 := (HG6.out.gk.bx.keep hbL HG6.out.gk.bx.z).cell 3 _ rfl
        dsimp only [stA] at s2 s4 HL
        clear hT hbL rd6 ho6
        (try dsimp only)
        refine hK.out _ _ s3 (fun hHeld => ?_)
        clear hK K
        (try simp only [Act.put, List.setIfInBounds_toArray, List.set_cons_zero, List.set_cons_succ])
        refine wpAnyH_ready (rs := [1, 6]) (by kernel_rfl) (by simp) ?_
        refine AllReadyH.cons rfl (fun K hK => ?_) (AllReadyH.cons rfl (fun K hK => ?_) (AllReadyH.nil))
        · go_simp
          refine hK.out _ _ s3 (fun hHeld => ?_)
          clear hK K
          (try simp only [Act.put, List.setIfInBounds_toArray, List.set_cons_zero, List.set_cons_succ])
          refine wpAnyH_ready (rs := [6]) (by kernel_rfl) (by simp) ?_
          refine AllReadyH.cons rfl (fun K hK => ?_) (AllReadyH.nil)
          · go_simp
            refine hK.out _ _ s4 (fun hHeld => ?_)
            clear hK K
            (try simp only [Act.put, List.setIfInBounds_toArray, List.set_cons_zero, List.set_cons_succ])
            refine wpAnyH_ready (rs := [7]) (by kernel_rfl) (by simp) ?_
            refine AllReadyH.cons rfl (fun K hK => ?_) (AllReadyH.nil)
            · refine step_append_lies _ rfl (.tmp 32) (.tmp 37) 34 rfl (bs + 1) 53 ti _ 10 88 Tryd.underlying34 hti hti1 hti2 hti3 tySts.zs (by decide) _ ms.length (stsV ms) (by simp [Act.eval, Act.put]) HL.out.1 _ 1 1 (stV s6) (by simp [Act.eval, Act.put]) rfl HL.out.2 (stV_one s6) (by omega) (by unfold maxLen <;> omega) (by omega) (by simp <;> omega) _ rfl ?_
              intro g cap w8 hown8 hg8 _ _
              obtain ⟨d1, d2, d3, hG8⟩ := HG6.out.grown (s := s6) hown8 hg8
              have HG8 := hide hG8
              clear hown8 hg8 hG8
              refine hK.out _ _ d3 (fun hHeld => ?_)
              clear hK K
              (try simp only [Act.put, List.setIfInBounds_toArray, List.set_cons_zero, List.set_cons_succ])
              refine wpAnyH_take (i := 8) (v := ?_) rfl (by kernel_rfl) (by kernel_rfl) (by kernel_rfl) (fun _ _ _ h => h) (Or.inl ⟨by rfl, ?_⟩) hHeld ?_
              rotate_left 1
              · (intro w hSw; go_simp; first | done | with_reducible rfl)
              (try simp only [Act.put, List.setIfInBounds_toArray, List.set_cons_zero, List.set_cons_succ])
              refine wpAnyH_ready (rs := [9]) (by kernel_rfl) (by simp) ?_
              refine AllReadyH.cons rfl (fun K hK => ?_) (AllReadyH.nil)
              · go_simp
                refine hK.out _ _ (HG8.out.gk.bx.cell 3 _ rfl) (fun hHeld => ?_)
                clear hK K
                (try simp only [Act.put, List.setIfInBounds_toArray, List.set_cons_zero, List.set_cons_succ])
                refine wpAnyH_done (by kernel_rfl) ?_ _
                have HQ4 : Hid (rstats (Int64.ofNat rn) (m - 1) l6 e6 (ms ++ [s6]) = Q) := hide (by have q := HQ2.out; rw [HT.out] at q; exact q)
                clear k1 s0 s5 f5 HQ2 HT HG HG6 HL
                clear d1 d2 d3 s1 s2 s3 s4
                go_wp2_with fail
                go_roundw
                case rel => exact ⟨m - 1, A6, c6, l6, e6, _, cap, ms ++ [s6], by have := HM.out; congr 1; omega, by have := HM.out; rw [List.length_append, List.length_singleton]; omega, HQ4, HG8.out⟩
                case measure => have := HM.out; simp [intOf]; omega
        · go_simp
          refine hK.out _ _ s4 (fun hHeld => ?_)
          clear hK K
          (try simp only [Act.put, List.setIfInBounds_toArray, List.set_cons_zero, List.set_cons_succ])
          refine wpAnyH_ready (rs := [1]) (by kernel_rfl) (by simp) ?_
          refine AllReadyH.cons rfl (fun K hK => ?_) (AllReadyH.nil)
          · go_simp
            refine hK.out _ _ s4 (fun hHeld => ?_)
            clear hK K
            (try simp only [Act.put, List.setIfInBounds_toArray, List.set_cons_zero, List.set_cons_succ])
            refine wpAnyH_ready (rs := [7]) (by kernel_rfl) (by simp) ?_
            refine AllReadyH.cons rfl (fun K hK => ?_) (AllReadyH.nil)
            · refine step_append_lies _ rfl (.tmp 32) (.tmp 37) 34 rfl (bs + 1) 53 ti _ 10 88 Tryd.underlying34 hti hti1 hti2 hti3 tySts.zs (by decide) _ ms.length (stsV ms) (by simp [Act.eval, Act.put]) HL.out.1 _ 1 1 (stV s6) (by simp [Act.eval, Act.put]) rfl HL.out.2 (stV_one s6) (by omega) (by unfold maxLen <;> omega) (by omega) (by simp <;> omega) _ rfl ?_
              intro g cap w8 hown8 hg8 _ _
              obtain ⟨d1, d2, d3, hG8⟩ := HG6.out.grown (s := s6) hown8 hg8
              have HG8 := hide hG8
              clear hown8 hg8 hG8
              refine hK.out _ _ d3 (fun hHeld => ?_)
              clear hK K
              (try simp only [Act.put, List.setIfInBounds_toArray, List.set_cons_zero, List.set_cons_succ])
              refine wpAnyH_take (i := 8) (v := ?_) rfl (by kernel_rfl) (by kernel_rfl) (by kernel_rfl) (fun _ _ _ h => h) (Or.inl ⟨by rfl, ?_⟩) hHeld ?_
              rotate_left 1
              · (intro w hSw; go_simp; first | done | with_reducible rfl)
              (try simp only [Act.put, List.setIfInBounds_toArray, List.set_cons_zero, List.set_cons_succ])
              refine wpAnyH_ready (rs := [9]) (by kernel_rfl) (by simp) ?_
              refine AllReadyH.cons rfl (fun K hK => ?_) (AllReadyH.nil)
              · go_simp
                refine hK.out _ _ (HG8.out.gk.bx.cell 3 _ rfl) (fun hHeld => ?_)
                clear hK K
                (try simp only [Act.put, List.setIfInBounds_toArray, List.set_cons_zero, List.set_cons_succ])
                refine wpAnyH_done (by kernel_rfl) ?_ _
                have HQ4 : Hid (rstats (Int64.ofNat rn) (m - 1) l6 e6 (ms ++ [s6]) = Q) := hide (by have q := HQ2.out; rw [HT.out] at q; exact q)
                clear k1 s0 s5 f5 HQ2 HT HG HG6 HL
                clear d1 d2 d3 s1 s2 s3 s4
                go_wp2_with fail
                go_roundw
                case rel => exact ⟨m - 1, A6, c6, l6, e6, _, cap, ms ++ [s6], by have := HM.out; congr 1; omega, by have := HM.out; rw [List.length_append, List.length_singleton]; omega, HQ4, HG8.out⟩
                case measure => have := HM.out; simp [intOf]; omega
end Go.Proofs.YtbcnekaagkdmeaaDoor
