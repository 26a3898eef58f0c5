/- THE WALK of meta's reader of a snapshot. No statement of the seat is proved here; no condition. -/
import Derived.Test.YtlccpchlclpnaaaDoorMetaOP
namespace Go.Proofs.YtlccpchlclpnaaaDoor
open Go.RowKit

section
variable {w w' : World} {b c B : Nat} {P : Nat → Prop} {A : Option Addr} {l : List UInt8} {e : Bool}
theorem RdrB.set7 {b2 : Nat} {v0 v1 v2 v3 v4 v5 v6 : Value} (h : RdrB w b P A c l e) (hb : b ≠ b2) (hP : ¬ P b2) : RdrB (set7 w b2 v0 v1 v2 v3 v4 v5 v6) b P A c l e :=
  ((((((h.elsewhere (p := ⟨b2, 0, none⟩) hb hP _).elsewhere (p := ⟨b2, 1, none⟩) hb hP _).elsewhere (p := ⟨b2, 2, none⟩) hb hP _).elsewhere (p := ⟨b2, 3, none⟩) hb hP _).elsewhere (p := ⟨b2, 4, none⟩) hb hP _).elsewhere (p := ⟨b2, 5, none⟩) hb hP _).elsewhere (p := ⟨b2, 6, none⟩) hb hP _
theorem Oth.set7 {b2 : Nat} {u : World} {v0 v1 v2 v3 v4 v5 v6 : Value} (h : Oth b u w) (hb : u.heap.size ≤ b2) : Oth b u (set7 w b2 v0 v1 v2 v3 v4 v5 v6) :=
  ((((((h.setNew (p := ⟨b2, 0, none⟩) hb _).setNew (p := ⟨b2, 1, none⟩) hb _).setNew (p := ⟨b2, 2, none⟩) hb _).setNew (p := ⟨b2, 3, none⟩) hb _).setNew (p := ⟨b2, 4, none⟩) hb _).setNew (p := ⟨b2, 5, none⟩) hb _).setNew (p := ⟨b2, 6, none⟩) hb _
end
/-- within reader.snap -/
structure GS (w0 : World) (B0 br bs : Nat) (P : Nat → Prop) (q : Sn) (A : Option Addr) (c : Nat) (l : List UInt8) (e : Bool) (fA : Option Addr) (fc : Nat) (ms : List ByteArray) (wr : World) : Prop where
  rd : RdrB wr br P A c l e
  bx : BoxN wr bs [.int .u64 (q.id.toNat : Int), .int .u64 (q.par.toNat : Int), .int .u64 (q.seq.toNat : Int), .int .u64 (q.off.toNat : Int), .int .u64 (q.tim.toNat : Int), .int .u32 (q.sch.toNat : Int), .slice fA ms.length fc]
  own : wr.ownsRow (bs + 1) 9 1 (.slice fA ms.length fc) ms.length (strsV ms)
  rb : BoxN wr B0 [.int .u64 0, .int .u64 0, .int .u64 0, .int .u64 0, .int .u64 0, .int .u32 0, .slice none 0 0]
  oth : Oth br w0 wr
  o1 : br < bs
  o2 : B0 < bs
  o3 : br < B0
  o4 : w0.heap.size ≤ B0
  oP : ∀ k, P k → k < B0
section
variable {w0 wr w7 : World} {B0 br bs c fc : Nat} {P : Nat → Prop} {e : Bool} {q : Sn} {A fA : Option Addr} {l : List UInt8} {ms : List ByteArray}
theorem GS.go (h : GS w0 B0 br bs P q A c l e fA fc ms wr) {A2 : Option Addr} {c2 : Nat} {l2 : List UInt8} {e2 : Bool} (hr : RdrB w7 br P A2 c2 l2 e2) (ho : Oth br wr w7) : GS w0 B0 br bs P q A2 c2 l2 e2 fA fc ms w7 :=
  ⟨hr, h.bx.oth ho (by have := h.o1; omega), own_oth h.own ho (by have := h.o1; omega), h.rb.oth ho (by have := h.o3; omega), h.oth.trans ho, h.o1, h.o2, h.o3, h.o4, h.oP⟩
theorem GS.drew (h : GS w0 B0 br bs P q A c l e fA fc ms wr) : GS w0 B0 br bs P q A c l e fA fc ms wr.drew := h.go h.rd.drew (Oth.refl br wr).drew
theorem GS.why (h : GS w0 B0 br bs P q A c l e fA fc ms wr) (e2 : Bool) : GS w0 B0 br bs P q A c l e2 fA fc ms (wr.setCell ⟨br, 1, none⟩ (.bool e2)) := h.go (h.rd.set1 e2) ((Oth.refl br wr).set 1 _)
theorem GS.lit (h : GS w0 B0 br bs P q A c l e fA fc ms wr) (s : ByteArray) :
    (wr.alloc (.cells #[.string s] 9)).ownsRow (bs + 1) 9 1 (.slice fA ms.length fc) ms.length (strsV ms) ∧ ∀ j u, ([.string s] : List Value)[j]? = some u → (wr.alloc (.cells #[.string s] 9)).cell? ((⟨wr.heap.size, 0, none⟩ : Addr).add j) = some u := by
  refine ⟨h.own.alloc _, fun j u hu => ?_⟩
  have := (boxN_new wr #[.string s] 9).cell j u hu
  rw [Addr.add_lit, Nat.zero_add]
  exact this
theorem GS.grown (h : GS w0 B0 br bs P q A c l e fA fc ms wr) {s : ByteArray} {w8 : World} {g cap : Nat} (hown : w8.ownsRow (bs + 1) 9 1 (.slice (some ⟨g, 0, none⟩) (ms.length + 1) cap) (ms.length + 1) (strsV ms ++ [.string s]))
    (hg : (wr.alloc (.cells #[.string s] 9)).grownBy w8 (Value.slice fA ms.length fc).ownBlock) :
    w8.cell? ⟨bs, 6, none⟩ = some (.slice fA ms.length fc) ∧ w8.frozen? ⟨bs, 6, none⟩ = false ∧
      GS w0 B0 br bs P q A c l e (some ⟨g, 0, none⟩) cap (ms ++ [s]) (w8.setCell ⟨bs, 6, none⟩ (.slice (some ⟨g, 0, none⟩) (ms.length + 1) cap)) := by
  have hz := h.bx.z
  have h1 := h.o1
  have h2 := h.o2
  have hb : Below (bs + 1) wr w8 := below_app ((Below.refl (bs + 1) wr).alloc (by omega) (.cells #[.string s] 9)) (Nat.le_refl _) (h.own.alloc _) hg (by simp; omega)
  have bx := h.bx.keep hb (Nat.lt_succ_self bs)
  have e1 : (ms ++ [s]).length = ms.length + 1 := by simp
  have e2 : strsV ms ++ [.string s] = strsV (ms ++ [s]) := by simp [strsV]
  refine ⟨bx.cell 6 _ rfl, bx.free 6 (by simp), ?_, ?_, ?_, ?_, ?_, h1, h2, h.o3, h.o4, h.oP⟩
  · exact (h.rd.keepB hb (by omega) (fun k hk _ => by have := h.oP k hk; omega)).elsewhere (p := ⟨bs, 6, none⟩) (Nat.ne_of_lt h1) (fun hk => by have := h.oP bs hk; omega) _
  · rw [e1]; exact bx.set (j := 6) _ rfl
  · rw [e1, ← e2]; exact ownsRow_setCell_below hown (Nat.lt_succ_self _) _
  · exact (h.rb.keep hb (by omega)).else (by show bs ≠ B0; omega) _
  · refine Oth.setNew ?_ (by have := h.o4; show w0.heap.size ≤ bs; omega) _
    have ho := h.oth
    exact ⟨hb.os.trans ho.os, hb.tape.trans ho.tape, hb.output.trans ho.output, Nat.le_trans ho.size hb.size, fun k hk hne => (hb.block k (by have := h.o4; omega)).trans (ho.block k hk hne)⟩
end
/-- a round is done -/
def GST (w0 : World) (B0 br bs : Nat) (P : Nat → Prop) (q : Sn) (l : List UInt8) (ms : List ByteArray) (wx : World) : Prop :=
  ∃ A c g cap, GS w0 B0 br bs P q A c (mtext l false).2.1 (mtext l false).2.2 (some ⟨g, 0, none⟩) cap (ms ++ [(mtext l false).1]) wx
def GSR (w0 : World) (B0 br bs : Nat) (P : Nat → Prop) (q : Sn) (Q : List ByteArray × List UInt8 × Bool) (nv : Value) (wr : World) : Prop :=
  ∃ (m : Nat) (A : Option Addr) (c : Nat) (l : List UInt8) (e : Bool) (fA : Option Addr) (fc : Nat) (ms : List ByteArray), nv = .int .u64 (m : Int) ∧ m < 18446744073709551616 ∧ (e = false → ms.length ≤ 8) ∧ Hid (mtexts m l e ms = Q) ∧ GS w0 B0 br bs P q A c l e fA fc ms wr
def SnEnd (w : World) (b : Nat) (P : Nat → Prop) (r : MSn) (e : Ending) (w' : World) : Prop :=
  ∃ F fc, e = .returned (.agg #[.int .u64 (r.1.id.toNat : Int), .int .u64 (r.1.par.toNat : Int), .int .u64 (r.1.seq.toNat : Int), .int .u64 (r.1.off.toNat : Int), .int .u64 (r.1.tim.toNat : Int), .int .u32 (r.1.sch.toNat : Int), .slice F r.1.ms.length fc]) ∧ w'.ownsRow w.heap.size 9 1 (.slice F r.1.ms.length fc) r.1.ms.length (strsV r.1.ms) ∧ (∃ A c, RdrB w' b P A c r.2.1 r.2.2) ∧ Oth b w w'
theorem snEnd_of {w0 wr : World} {B0 br bs c fc : Nat} {P P2 : Nat → Prop} {e : Bool} {q : Sn} {A fA : Option Addr} {l : List UInt8} {ms : List ByteArray} {r : MSn} {v0 v1 v2 v3 v4 v5 v6 : Value} (h : GS w0 B0 br bs P q A c l e fA fc ms wr) (hr : r = (⟨q.id, q.par, q.seq, q.off, q.tim, q.sch, ms⟩, l, e)) (hi : ∀ k, P k → P2 k) (hn : ¬ P2 br) :
    SnEnd w0 br P2 r (.returned (.agg #[.int .u64 (q.id.toNat : Int), .int .u64 (q.par.toNat : Int), .int .u64 (q.seq.toNat : Int), .int .u64 (q.off.toNat : Int), .int .u64 (q.tim.toNat : Int), .int .u32 (q.sch.toNat : Int), .slice fA ms.length fc])) (set7 wr B0 v0 v1 v2 v3 v4 v5 v6) := by
  subst hr
  have h2 := h.o2
  have h4 := h.o4
  exact ⟨fA, fc, rfl, own_base (own_set7 h.own (by omega)) (by omega), ⟨A, c, (h.rd.set7 (Nat.ne_of_lt h.o3) (fun hk => Nat.lt_irrefl _ (h.oP _ hk))).imp (fun k hk _ => hi k hk) hn⟩, h.oth.set7 h.o4⟩
theorem ofNat64' {n : Nat} (h : n < 18446744073709551616) : (UInt64.ofNat n).toNat = n := by rw [UInt64.toNat_ofNat']; omega
set_option maxRecDepth 100000 in
set_option maxHeartbeats 4000000 in
theorem metaSnapR (w : World) (br : Nat) (P : Nat → Prop) (A : Option Addr) (c : Nat) (l : List UInt8) (bad : Bool) (h : RdrB w br P A c l bad) :
    Calls Tryd.prog 46 #[.pointer (some ⟨br, 0, none⟩)] w (SnEnd w br P (msnap l bad)) := by
  go_enter Tryd.func46, Tryd.ntmps46
  go_wp2_with fail
  have x0 := boxN_new w #[.int .u64 0, .int .u64 0, .int .u64 0, .int .u64 0, .int .u64 0, .int .u32 0, .slice none 0 0] 30
  have hb0 := (Below.refl w.heap.size w).alloc (Nat.le_refl _) (.cells #[.int .u64 0, .int .u64 0, .int .u64 0, .int .u64 0, .int .u64 0, .int .u32 0, .slice none 0 0] 30)
  have hnP := h.nP
  have h0 := (h.imp (Q := fun k => P k ∧ k < w.heap.size) (fun k hk hl => ⟨hk, hl⟩) (fun q => h.nP q.1)).keep hb0
  have ho := Oth.of (b := br) hb0
  have z0 : br < w.heap.size := h.z
  generalize w.alloc (.cells #[.int .u64 0, .int .u64 0, .int .u64 0, .int .u64 0, .int .u64 0, .int .u32 0, .slice none 0 0] 30) = w0 at *
  obtain ⟨B0, hB0⟩ : ∃ B0, B0 = w.heap.size := ⟨_, rfl⟩
  rw [← hB0] at x0 z0 h0 ⊢
  have zw : w.heap.size ≤ B0 := Nat.le_of_eq hB0.symm
  have HQ0 : Hid ((∀ k, (P k ∧ k < B0) → P k) ∧ ∀ k, (P k ∧ k < B0) → k < B0) := hide ⟨fun _ h => h.1, fun _ h => h.2⟩
  have hz0 : ¬ (P B0 ∧ B0 < B0) := fun q => Nat.lt_irrefl _ q.2
  have hzb : ∀ k, B0 < k → ¬ (P k ∧ k < B0) := fun k hk q => by omega
  generalize hQ0 : (fun k => P k ∧ k < B0) = Q0 at *
  replace HQ0 : Hid ((∀ k, Q0 k → P k) ∧ ∀ k, Q0 k → k < B0) := hide (by rw [← hQ0]; exact HQ0.out)
  replace hz0 : ¬ Q0 B0 := by rw [← hQ0]; exact hz0
  replace hzb : ∀ k, B0 < k → ¬ Q0 k := by rw [← hQ0]; exact hzb
  clear hB0 hb0 h hQ0
  refine (metaNum w0 br Q0 A c l bad h0).mono ?_
  rintro e w1 ⟨rfl, ⟨A1, c1, h1⟩, ho1⟩
  have hlt := mnum_lt l bad
  obtain ⟨n1, l1, b1, hn⟩ : ∃ n l' b', mnum l bad = (n, l', b') := ⟨_, _, _, rfl⟩
  rw [hn] at h1 hlt ⊢
  dsimp only at h1 hlt ⊢
  obtain ⟨a1, rfl⟩ : ∃ a : UInt64, n1 = a.toNat := ⟨UInt64.ofNat n1, (ofNat64' hlt).symm⟩
  have HN1 := hide hn
  have x1 := x0.oth ho1 (by omega)
  have hp1 := ho.trans ho1
  clear hn hlt h0 x0 ho1 ho
  go_wp2_with fail
  refine (metaNum w1 br Q0 A1 c1 l1 b1 h1).mono ?_
  rintro e w2 ⟨rfl, ⟨A2, c2, h2⟩, ho2⟩
  have hlt := mnum_lt l1 b1
  obtain ⟨n2, l2, b2, hn⟩ : ∃ n l' b', mnum l1 b1 = (n, l', b') := ⟨_, _, _, rfl⟩
  rw [hn] at h2 hlt ⊢
  dsimp only at h2 hlt ⊢
  obtain ⟨a2, rfl⟩ : ∃ a : UInt64, n2 = a.toNat := ⟨UInt64.ofNat n2, (ofNat64' hlt).symm⟩
  have HN2 := hide hn
  have x2 := x1.oth ho2 (by omega)
  have hp2 := hp1.trans ho2
  clear hn hlt h1 x1 ho2 hp1
  go_wp2_with fail
  refine (metaNum w2 br Q0 A2 c2 l2 b2 h2).mono ?_
  rintro e w3 ⟨rfl, ⟨A3, c3, h3⟩, ho3⟩
  have hlt := mnum_lt l2 b2
  obtain ⟨n3, l3, b3, hn⟩ : ∃ n l' b', mnum l2 b2 = (n, l', b') := ⟨_, _, _, rfl⟩
  rw [hn] at h3 hlt ⊢
  dsimp only at h3 hlt ⊢
  obtain ⟨a3, rfl⟩ : ∃ a : UInt64, n3 = a.toNat := ⟨UInt64.ofNat n3, (ofNat64' hlt).symm⟩
  have HN3 := hide hn
  have x3 := x2.oth ho3 (by omega)
  have hp3 := hp2.trans ho3
  clear hn hlt h2 x2 ho3 hp2
  go_wp2_with fail
  refine (metaNum w3 br Q0 A3 c3 l3 b3 h3).mono ?_
  rintro e w4 ⟨rfl, ⟨A4, c4, h4⟩, ho4⟩
  have hlt := mnum_lt l3 b3
  obtain ⟨n4, l4, b4, hn⟩ : ∃ n l' b', mnum l3 b3 = (n, l', b') := ⟨_, _, _, rfl⟩
  rw [hn] at h4 hlt ⊢
  dsimp only at h4 hlt ⊢
  obtain ⟨a4, rfl⟩ : ∃ a : UInt64, n4 = a.toNat := ⟨UInt64.ofNat n4, (ofNat64' hlt).symm⟩
  have HN4 := hide hn
  have x4 := x3.oth ho4 (by omega)
  have hp4 := hp3.trans ho4
  clear hn hlt h3 x3 ho4 hp3
  go_wp2_with fail
  refine (metaNum w4 br Q0 A4 c4 l4 b4 h4).mono ?_
  rintro e w5 ⟨rfl, ⟨A5, c5, h5⟩, ho5⟩
  have hlt := mnum_lt l4 b4
  obtain ⟨n5, l5, b5, hn⟩ : ∃ n l' b', mnum l4 b4 = (n, l', b') := ⟨_, _, _, rfl⟩
  rw [hn] at h5 hlt ⊢
  dsimp only at h5 hlt ⊢
  obtain ⟨a5, rfl⟩ : ∃ a : UInt64, n5 = a.toNat := ⟨UInt64.ofNat n5, (ofNat64' hlt).symm⟩
  have HN5 := hide hn
  have x5 := x4.oth ho5 (by omega)
  have hp5 := hp4.trans ho5
  clear hn hlt h4 x4 ho5 hp4
  go_wp2_with fail
  have xs := boxN_new w5 #[.int .u64 (a1.toNat : Int), .int .u64 (a2.toNat : Int), .int .u64 (a3.toNat : Int), .int .u64 (a4.toNat : Int), .int .u64 (a5.toNat : Int), .int .u32 0, .slice none 0 0] 30
  have hbA := (Below.refl w5.heap.size w5).alloc (Nat.le_refl _) (.cells #[.int .u64 (a1.toNat : Int), .int .u64 (a2.toNat : Int), .int .u64 (a3.toNat : Int), .int .u64 (a4.toNat : Int), .int .u64 (a5.toNat : Int), .int .u32 0, .slice none 0 0] 30)
  have hA := h5.keep hbA
  have xA := x5.keep hbA x5.z
  have hpA := hp5.trans (.of hbA)
  have o1 : br < w5.heap.size := h5.z
  have o2 : B0 < w5.heap.size := x5.z
  generalize w5.alloc (.cells #[.int .u64 (a1.toNat : Int), .int .u64 (a2.toNat : Int), .int .u64 (a3.toNat : Int), .int .u64 (a4.toNat : Int), .int .u64 (a5.toNat : Int), .int .u32 0, .slice none 0 0] 30) = wA at *
  generalize w5.heap.size = bs at *
  clear h5 x5 hp5 hbA
  refine (metaNum wA br Q0 A5 c5 l5 b5 hA).mono ?_
  rintro e w6 ⟨rfl, ⟨A6, c6, h6⟩, ho6⟩
  have hlt := mnum_lt l5 b5
  obtain ⟨n6, l6, b6, hn⟩ : ∃ n l' b', mnum l5 b5 = (n, l', b') := ⟨_, _, _, rfl⟩
  rw [hn] at h6 hlt ⊢
  dsimp only at h6 hlt ⊢
  have HN6 := hide hn
  have x6 := xA.oth ho6 (by omega)
  have xs6 := xs.oth ho6 (by omega)
  have hp6 := hpA.trans ho6
  obtain ⟨sc, hsc⟩ : ∃ s : UInt32, s = UInt32.ofNat n6 := ⟨_, rfl⟩
  have a32 : (n6 : Int) % 4294967296 = (sc.toNat : Int) := by rw [hsc, UInt32.toNat_ofNat']; omega
  have a32w : IntKind.u32.wrap (n6 : Int) = (sc.toNat : Int) := by rw [IntKind.wrap_u32]; exact a32
  have HSC := hide hsc
  have u5 := xs6.cell 5 _ rfl
  have f5 := xs6.free 5 (by simp)
  have c1 := h6.c1
  have f1 := h6.f1
  have n1 : br ≠ bs := by omega
  have n2 : bs ≠ br := by omega
  have y6 := xs6.set (j := 5) (.int .u32 (sc.toNat : Int)) rfl
  have k6 := h6.elsewhere (p := ⟨bs, 5, none⟩) n1 (hzb bs o2) (.int .u32 (sc.toNat : Int))
  have z6 := x6.else (p := ⟨bs, 5, none⟩) (by show bs ≠ B0; omega) (.int .u32 (sc.toNat : Int))
  have q6 := hp6.setNew (p := ⟨bs, 5, none⟩) (show w.heap.size ≤ bs by omega) (.int .u32 (sc.toNat : Int))
  obtain ⟨tb, htb⟩ : ∃ tb, tb = decide (4294967295 < n6) := ⟨_, rfl⟩
  have t1 : decide ((4294967295 : Int) < (n6 : Int)) = tb := by rw [htb, Bool.eq_iff_iff]; simp only [decide_eq_true_eq]; omega
  have HTB := hide htb
  have HK := hide (And.intro y6 (And.intro k6 (And.intro z6 q6)))
  clear hn hlt hsc htb hA xA xs x6 xs6 hp6 hpA ho6 h6 y6 k6 z6 q6
  go_upto_region 4 with fail
  go_cut [] from 21 to 31 (fun wx => wx = (w6.setCell ⟨bs, 5, none⟩ (.int .u32 (sc.toNat : Int))).setCell ⟨br, 1, none⟩ (.bool (b6 || tb)))
  case first =>
    cases b6 with
    | true =>
      go_wp2_with fail
      go_meet
      exact rfl
    | false =>
      go_wp2_with fail
      go_meet
      exact rfl
  case rest =>
  clear u5 f5 c1 f1 a32 a32w t1
  have hG : GS w B0 br bs Q0 ⟨a1, a2, a3, a4, a5, sc, []⟩ A6 c6 l6 (b6 || tb) none 0 [] wc := by
    subst hcut
    obtain ⟨y6, k6, z6, q6⟩ := HK.out
    exact ⟨k6.set1 (b6 || tb), y6.else (p := ⟨br, 1, none⟩) n1 _, World.ownsRow_nil _ _ _ _, z6.else (p := ⟨br, 1, none⟩) (show br ≠ B0 by omega) _, q6.set 1 _, o1, o2, z0, zw, HQ0.out.2⟩
  clear hcut HK
  go_wp2_with fail
  refine (metaNum wc br Q0 A6 c6 l6 (b6 || tb) hG.rd).mono ?_
  rintro e w7 ⟨rfl, ⟨A7, c7, h7⟩, ho7⟩
  have hlt := mnum_lt l6 (b6 || tb)
  obtain ⟨N, l7, b7, hn⟩ : ∃ n l' b', mnum l6 (b6 || tb) = (n, l', b') := ⟨_, _, _, rfl⟩
  rw [hn] at h7 hlt ⊢
  dsimp only at h7 hlt ⊢
  have HN7 := hide hn
  have G7 := hG.go h7 ho7
  obtain ⟨Q, hQ⟩ : ∃ Q, mtexts N l7 b7 [] = Q := ⟨_, rfl⟩
  have HQ := hide hQ
  have HR : Hid (msnap l bad = (⟨a1, a2, a3, a4, a5, sc, Q.1⟩, Q.2.1, Q.2.2)) := hide (by
    rw [msnap_of HN1.out HN2.out HN3.out HN4.out HN5.out HN6.out (by rw [← HTB.out]; exact HN7.out) (hQ.trans (show Q = (Q.1, Q.2.1, Q.2.2) from rfl)), HSC.out]
    simp only [mk7, UInt64.ofNat_toNat])
  clear hn hQ hG ho7 h7 HN1 HN2 HN3 HN4 HN5 HN6 HN7 HSC HTB
  obtain ⟨ti, hti, hti1, hti2, hti3⟩ := info_parts tyStrs.inf
  go_wp2_with fail
  go_loopw [4] (GSR w B0 br bs Q0 ⟨a1, a2, a3, a4, a5, sc, []⟩ Q) (fun iv _ => (intOf iv).toNat)
  case atStart => exact ⟨N, A7, c7, l7, b7, none, 0, [], rfl, hlt, fun _ => by simp, HQ, G7⟩
  case round =>
    clear G7 hlt
    obtain ⟨m, A', c', l', e', fA, fc, ms, rfl, hm64, hlen, hrd, G⟩ := hrel
    have k1 := G.rd.c1
    have s0 := G.bx.cell 6 _ rfl
    have HG := hide G
    by_cases hx : m = 0 ∨ e' = true
    · -- THE END
      have hq := mtexts_end (l := l') (acc := ms) hx
      rw [hrd.out] at hq
      have HQ2 := hide hq
      have d0 := G.bx.cell 0 _ rfl
      have d1 := G.bx.cell 1 _ rfl
      have d2 := G.bx.cell 2 _ rfl
      have d3 := G.bx.cell 3 _ rfl
      have d4 := G.bx.cell 4 _ rfl
      have d5 := G.bx.cell 5 _ rfl
      have g0 := G.rb.cell 0 _ rfl
      have fg0 := G.rb.free 0 (by simp)
      have g1 := G.rb.cell 1 _ rfl
      have fg1 := G.rb.free 1 (by simp)
      have g2 := G.rb.cell 2 _ rfl
      have fg2 := G.rb.free 2 (by simp)
      have g3 := G.rb.cell 3 _ rfl
      have fg3 := G.rb.free 3 (by simp)
      have g4 := G.rb.cell 4 _ rfl
      have fg4 := G.rb.free 4 (by simp)
      have g5 := G.rb.cell 5 _ rfl
      have fg5 := G.rb.free 5 (by simp)
      have g6 := G.rb.cell 6 _ rfl
      have fg6 := G.rb.free 6 (by simp)
      have nb1 : bs ≠ B0 := by have := G.o2; omega
      have nb2 : B0 ≠ bs := by have := G.o2; omega
      have hres : msnap l bad = (⟨a1, a2, a3, a4, a5, sc, ms⟩, l', e') := by rw [HR.out, hq]
      have HRES := hide hres
      clear hq hrd hlen G hres
      by_cases hm : m = 0
      · have t1 : ¬ 0 < m := by omega
        have t2 : decide ((0 : Int) < (m : Int)) = false := decide_eq_false (by omega)
        clear hx
        go_wp2_with fail
        (try simp only [Exit.inBlock, Exit.then])
        refine bodyPost_ret (ret_sn1 (b := B0) rfl _ _ rfl HG.out.rb.set7) rfl ?_
        exact snEnd_of HG.out HRES.out HQ0.out.1 hnP
      · obtain rfl : e' = true := by simpa [hm] using hx
        have t2 : decide ((0 : Int) < (m : Int)) = true := decide_eq_true (by omega)
        clear hx
        go_wp2_with fail
        (try simp only [Exit.inBlock, Exit.then])
        refine bodyPost_ret (ret_sn1 (b := B0) rfl _ _ rfl HG.out.rb.set7) rfl ?_
        exact snEnd_of HG.out HRES.out HQ0.out.1 hnP
    · -- THE ROUND
      have hm0 : 0 < m := by omega
      obtain rfl : e' = false := by cases e' <;> simp_all
      have hl8 := hlen rfl
      have hq := hrd.out
      rw [show m = (m - 1) + 1 by omega, mtexts_on] at hq
      have HQ2 := hide hq
      have t1 : decide ((0 : Int) < (m : Int)) = true := decide_eq_true (by omega)
      have HM := hide hm0
      have f6 := G.bx.free 6 (by simp)
      clear hq hrd hlen hx hm0 G
      go_upto_region 8 with fail
      go_cut [] from 34 to 64 (fun wx => GST w B0 br bs Q0 ⟨a1, a2, a3, a4, a5, sc, []⟩ l' ms wx)
      case first =>
        rename_i J K1 hJ hK1
        refine wp_region_held_drew (S := fun _ => True) (by kernel_rfl) ?_ (fun hHeld => ?_)
        · trivial
        refine wpAnyH_take (i := 0) (v := ?_) rfl (by kernel_rfl) (by kernel_rfl) (by kernel_rfl) (fun _ _ _ h => h) (Or.inl ⟨by rfl, ?_⟩) hHeld ?_
        rotate_left 1
        · (intro w hSw; go_simp; first | done | with_reducible rfl)
        (try simp only [Act.put, List.setIfInBounds_toArray, List.set_cons_zero, List.set_cons_succ])
        refine wpAnyH_take (i := 2) (v := ?_) rfl (by kernel_rfl) (by kernel_rfl) (by kernel_rfl) (fun _ _ _ h => h) (Or.inl ⟨by rfl, ?_⟩) hHeld ?_
        rotate_left 1
        · (intro w hSw; go_simp; first | done | with_reducible rfl)
        (try simp only [Act.put, List.setIfInBounds_toArray, List.set_cons_zero, List.set_cons_succ])
        refine wpAnyH_ready (rs := [1, 3]) (by kernel_rfl) (by simp) ?_
        refine AllReadyH.cons rfl (fun K hK => ?_) (AllReadyH.cons rfl (fun K hK => ?_) (AllReadyH.nil))
        · go_simp
          refine hK.out _ _ trivial (fun hHeld => ?_)
          clear hK K
          (try simp only [Act.put, List.setIfInBounds_toArray, List.set_cons_zero, List.set_cons_succ])
          refine wpAnyH_ready (rs := [3]) (by kernel_rfl) (by simp) ?_
          refine AllReadyH.cons rfl (fun K hK => ?_) (AllReadyH.nil)
          · go_simp
            go_at_call 71
            refine (metaRText wr.drew br Q0 A' c' l' false HG.out.rd.drew).mono ?_
            rintro e w6 ⟨rfl, ⟨A6, c6, rd6⟩, ho6⟩
            obtain ⟨s6, l6, e6, hT⟩ : ∃ s l e, mtext l' false = (s, l, e) := ⟨_, _, _, rfl⟩
            rw [hT] at rd6 ⊢
            dsimp only at rd6 ⊢
            have HT := hide hT
            have HG6 := hide (HG.out.drew.go rd6 ho6)
            have s1 := HG6.out.bx.cell 6 _ rfl
            have HL := hide (HG6.out.lit s6)
            have hz6 : bs + 1 ≤ w6.heap.size := HG6.out.bx.z
            have hbL := (Below.refl w6.heap.size w6).alloc (Nat.le_refl _) (.cells #[.string s6] 9)
            have s2 := (HG6.out.bx.keep hbL HG6.out.bx.z).cell 6 _ rfl
            clear hT hbL rd6 ho6
            (try dsimp only)
            refine hK.out _ _ trivial (fun hHeld => ?_)
            clear hK K
            (try simp only [Act.put, List.setIfInBounds_toArray, List.set_cons_zero, List.set_cons_succ])
            refine wpAnyH_ready (rs := [4]) (by kernel_rfl) (by simp) ?_
            refine AllReadyH.cons rfl (fun K hK => ?_) (AllReadyH.nil)
            · go_simp
              refine hK.out _ _ trivial (fun hHeld => ?_)
              clear hK K
              (try simp only [Act.put, List.setIfInBounds_toArray, List.set_cons_zero, List.set_cons_succ])
              refine wpAnyH_ready (rs := [5]) (by kernel_rfl) (by simp) ?_
              refine AllReadyH.cons rfl (fun K hK => ?_) (AllReadyH.nil)
              · refine step_append_lies _ rfl (.tmp 46) (.tmp 49) 28 rfl (bs + 1) 9 ti _ 1 16 Tryd.underlying28 hti hti1 hti2 hti3 tyStrs.zs (by decide) _ ms.length (strsV ms) (by simp [Act.eval, Act.put]) HL.out.1 _ 1 1 [.string s6] (by simp [Act.eval, Act.put]) rfl HL.out.2 (strsV_one [s6]) (by omega) (by unfold maxLen <;> omega) (by omega) (by simp <;> omega) _ rfl ?_
                intro g cap w8 hown8 hg8 _ _
                obtain ⟨d1, d2, hG8⟩ := HG6.out.grown hown8 hg8
                have HG8 := hide hG8
                clear hown8 hg8 hG8
                refine hK.out _ _ trivial (fun hHeld => ?_)
                clear hK K
                (try simp only [Act.put, List.setIfInBounds_toArray, List.set_cons_zero, List.set_cons_succ])
                refine wpAnyH_take (i := 6) (v := ?_) rfl (by kernel_rfl) (by kernel_rfl) (by kernel_rfl) (fun _ _ _ h => h) (Or.inl ⟨by rfl, ?_⟩) hHeld ?_
                rotate_left 1
                · (intro w hSw; go_simp; first | done | with_reducible rfl)
                (try simp only [Act.put, List.setIfInBounds_toArray, List.set_cons_zero, List.set_cons_succ])
                refine wpAnyH_ready (rs := [7]) (by kernel_rfl) (by simp) ?_
                refine AllReadyH.cons rfl (fun K hK => ?_) (AllReadyH.nil)
                · go_simp
                  refine hK.out _ _ trivial (fun hHeld => ?_)
                  clear hK K
                  (try simp only [Act.put, List.setIfInBounds_toArray, List.set_cons_zero, List.set_cons_succ])
                  refine wpAnyH_done (by kernel_rfl) ?_ _
                  refine hK1 _ _ ?_
                  go_meet
                  exact ⟨A6, c6, _, cap, by rw [HT.out]; exact HG8.out⟩
        · go_simp
          go_at_call 71
          refine (metaRText wr.drew br Q0 A' c' l' false HG.out.rd.drew).mono ?_
          rintro e w6 ⟨rfl, ⟨A6, c6, rd6⟩, ho6⟩
          obtain ⟨s6, l6, e6, hT⟩ : ∃ s l e, mtext l' false = (s, l, e) := ⟨_, _, _, rfl⟩
          rw [hT] at rd6 ⊢
          dsimp only at rd6 ⊢
          have HT := hide hT
          have HG6 := hide (HG.out.drew.go rd6 ho6)
          have s1 := HG6.out.bx.cell 6 _ rfl
          have HL := hide (HG6.out.lit s6)
          have hz6 : bs + 1 ≤ w6.heap.size := HG6.out.bx.z
          have hbL := (Below.refl w6.heap.size w6).alloc (Nat.le_refl _) (.cells #[.string s6] 9)
          have s2 := (HG6.out.bx.keep hbL HG6.out.bx.z).cell 6 _ rfl
          clear hT hbL rd6 ho6
          (try dsimp only)
          refine hK.out _ _ trivial (fun hHeld => ?_)
          clear hK K
          (try simp only [Act.put, List.setIfInBounds_toArray, List.set_cons_zero, List.set_cons_succ])
          refine wpAnyH_ready (rs := [1, 4]) (by kernel_rfl) (by simp) ?_
          refine AllReadyH.cons rfl (fun K hK => ?_) (AllReadyH.cons rfl (fun K hK => ?_) (AllReadyH.nil))
          · go_simp
            refine hK.out _ _ trivial (fun hHeld => ?_)
            clear hK K
            (try simp only [Act.put, List.setIfInBounds_toArray, List.set_cons_zero, List.set_cons_succ])
            refine wpAnyH_ready (rs := [4]) (by kernel_rfl) (by simp) ?_
            refine AllReadyH.cons rfl (fun K hK => ?_) (AllReadyH.nil)
            · go_simp
              refine hK.out _ _ trivial (fun hHeld => ?_)
              clear hK K
              (try simp only [Act.put, List.setIfInBounds_toArray, List.set_cons_zero, List.set_cons_succ])
              refine wpAnyH_ready (rs := [5]) (by kernel_rfl) (by simp) ?_
              refine AllReadyH.cons rfl (fun K hK => ?_) (AllReadyH.nil)
              · refine step_append_lies _ rfl (.tmp 46) (.tmp 49) 28 rfl (bs + 1) 9 ti _ 1 16 Tryd.underlying28 hti hti1 hti2 hti3 tyStrs.zs (by decide) _ ms.length (strsV ms) (by simp [Act.eval, Act.put]) HL.out.1 _ 1 1 [.string s6] (by simp [Act.eval, Act.put]) rfl HL.out.2 (strsV_one [s6]) (by omega) (by unfold maxLen <;> omega) (by omega) (by simp <;> omega) _ rfl ?_
                intro g cap w8 hown8 hg8 _ _
                obtain ⟨d1, d2, hG8⟩ := HG6.out.grown hown8 hg8
                have HG8 := hide hG8
                clear hown8 hg8 hG8
                refine hK.out _ _ trivial (fun hHeld => ?_)
                clear hK K
                (try simp only [Act.put, List.setIfInBounds_toArray, List.set_cons_zero, List.set_cons_succ])
                refine wpAnyH_take (i := 6) (v := ?_) rfl (by kernel_rfl) (by kernel_rfl) (by kernel_rfl) (fun _ _ _ h => h) (Or.inl ⟨by rfl, ?_⟩) hHeld ?_
                rotate_left 1
                · (intro w hSw; go_simp; first | done | with_reducible rfl)
                (try simp only [Act.put, List.setIfInBounds_toArray, List.set_cons_zero, List.set_cons_succ])
                refine wpAnyH_ready (rs := [7]) (by kernel_rfl) (by simp) ?_
                refine AllReadyH.cons rfl (fun K hK => ?_) (AllReadyH.nil)
                · go_simp
                  refine hK.out _ _ trivial (fun hHeld => ?_)
                  clear hK K
                  (try simp only [Act.put, List.setIfInBounds_toArray, List.set_cons_zero, List.set_cons_succ])
                  refine wpAnyH_done (by kernel_rfl) ?_ _
                  refine hK1 _ _ ?_
                  go_meet
                  exact ⟨A6, c6, _, cap, by rw [HT.out]; exact HG8.out⟩
          · go_simp
            refine hK.out _ _ trivial (fun hHeld => ?_)
            clear hK K
            (try simp only [Act.put, List.setIfInBounds_toArray, List.set_cons_zero, List.set_cons_succ])
            refine wpAnyH_ready (rs := [1]) (by kernel_rfl) (by simp) ?_
            refine AllReadyH.cons rfl (fun K hK => ?_) (AllReadyH.nil)
            · go_simp
              refine hK.out _ _ trivial (fun hHeld => ?_)
              clear hK K
              (try simp only [Act.put, List.setIfInBounds_toArray, List.set_cons_zero, List.set_cons_succ])
              refine wpAnyH_ready (rs := [5]) (by kernel_rfl) (by simp) ?_
              refine AllReadyH.cons rfl (fun K hK => ?_) (AllReadyH.nil)
              · refine step_append_lies _ rfl (.tmp 46) (.tmp 49) 28 rfl (bs + 1) 9 ti _ 1 16 Tryd.underlying28 hti hti1 hti2 hti3 tyStrs.zs (by decide) _ ms.length (strsV ms) (by simp [Act.eval, Act.put]) HL.out.1 _ 1 1 [.string s6] (by simp [Act.eval, Act.put]) rfl HL.out.2 (strsV_one [s6]) (by omega) (by unfold maxLen <;> omega) (by omega) (by simp <;> omega) _ rfl ?_
                intro g cap w8 hown8 hg8 _ _
                obtain ⟨d1, d2, hG8⟩ := HG6.out.grown hown8 hg8
                have HG8 := hide hG8
                clear hown8 hg8 hG8
                refine hK.out _ _ trivial (fun hHeld => ?_)
                clear hK K
                (try simp only [Act.put, List.setIfInBounds_toArray, List.set_cons_zero, List.set_cons_succ])
                refine wpAnyH_take (i := 6) (v := ?_) rfl (by kernel_rfl) (by kernel_rfl) (by kernel_rfl) (fun _ _ _ h => h) (Or.inl ⟨by rfl, ?_⟩) hHeld ?_
                rotate_left 1
                · (intro w hSw; go_simp; first | done | with_reducible rfl)
                (try simp only [Act.put, List.setIfInBounds_toArray, List.set_cons_zero, List.set_cons_succ])
                refine wpAnyH_ready (rs := [7]) (by kernel_rfl) (by simp) ?_
                refine AllReadyH.cons rfl (fun K hK => ?_) (AllReadyH.nil)
                · go_simp
                  refine hK.out _ _ trivial (fun hHeld => ?_)
                  clear hK K
                  (try simp only [Act.put, List.setIfInBounds_toArray, List.set_cons_zero, List.set_cons_succ])
                  refine wpAnyH_done (by kernel_rfl) ?_ _
                  refine hK1 _ _ ?_
                  go_meet
                  exact ⟨A6, c6, _, cap, by rw [HT.out]; exact HG8.out⟩
      case rest =>
        obtain ⟨A8, c8, g, cap, G8⟩ := hcut
        obtain ⟨s8, l8, e8, hT⟩ : ∃ s l e, mtext l' false = (s, l, e) := ⟨_, _, _, rfl⟩
        rw [hT] at G8
        dsimp only at G8
        have HQ3 := HQ2.out
        rw [hT] at HQ3
        dsimp only at HQ3
        have k8 := G8.rd.c1
        have j8 := G8.rd.f1
        have r8 := G8.bx.cell 6 _ rfl
        have e1 : (ms ++ [s8]).length = ms.length + 1 := by simp
        rw [e1] at r8
        obtain ⟨tc, htc⟩ : ∃ tc, tc = decide (8 < ms.length + 1) := ⟨_, rfl⟩
        have t3 : decide ((8 : Int) < ((ms.length + 1 : Nat) : Int)) = tc := by rw [htc, Bool.eq_iff_iff]; simp only [decide_eq_true_eq]; omega
        have t4 : decide ((8 : Int) < (ms.length : Int) + 1) = tc := by rw [htc, Bool.eq_iff_iff]; simp only [decide_eq_true_eq]; omega
        rw [← htc] at HQ3
        have HQ4 := hide HQ3
        have HTC := hide htc
        have HG8 := hide G8
        have hw1 : IntKind.u64.wrap ((m : Int) - 1) = (m : Int) - 1 := by have := HM.out; rw [IntKind.wrap_u64]; omega
        have hw2 : ((m : Int) - 1) % 18446744073709551616 = (m : Int) - 1 := by have := HM.out; omega
        clear HQ3 htc G8 k1 s0 f6 HQ2 hT HG
        cases e8 with
        | true =>
          go_wp2_with fail
          go_roundw
          case rel => exact ⟨m - 1, A8, c8, l8, true, _, cap, ms ++ [s8], by have := HM.out; congr 1; omega, by omega, (fun hh => by cases hh), HQ4, HG8.out.why true⟩
          case measure => have := HM.out; simp [intOf]; omega
        | false =>
          go_wp2_with fail
          go_roundw
          case rel => exact ⟨m - 1, A8, c8, l8, tc, _, cap, ms ++ [s8], by have := HM.out; congr 1; omega, by omega, (fun hh => by rw [HTC.out] at hh; simp at hh; simp; omega), HQ4, HG8.out.why tc⟩
          case measure => have := HM.out; simp [intOf]; omega
end Go.Proofs.YtlccpchlclpnaaaDoor
