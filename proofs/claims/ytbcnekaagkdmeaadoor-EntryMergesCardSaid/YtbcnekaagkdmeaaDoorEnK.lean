/- BOXES THAT entry's reader fills; THE WALKS of its small and cell. No statement of the seat is proved here; no condition. -/
import Derived.Test.YtbcnekaagkdmeaaDoorEnQ
import Derived.BigRegion
namespace Go.Proofs.YtbcnekaagkdmeaaDoor
open Go.RowKit

/-- the reader at br, the result's box at B0 -/
structure GK0 (w0 : World) (B0 br : Nat) (P : Nat → Prop) (zs : List Value) (A : Option Addr) (c : Nat) (l : List UInt8) (e : Bool) (wr : World) : Prop where
  rd : RdrB wr br (fun k => P k ∧ k < B0) A c l e
  rb : BoxN wr B0 zs
  oth : Oth br w0 wr
  o3 : br < B0
  o4 : w0.heap.size ≤ B0
  nP : ¬ P br
/-- and a box of one's own at bs -/
structure GK (w0 : World) (B0 br bs : Nat) (P : Nat → Prop) (cs zs : List Value) (A : Option Addr) (c : Nat) (l : List UInt8) (e : Bool) (wr : World) : Prop where
  g0 : GK0 w0 B0 br P zs A c l e wr
  bx : BoxN wr bs cs
  o2 : B0 < bs
section
variable {w0 wr w7 : World} {B0 br bs c c2 : Nat} {P : Nat → Prop} {cs zs : List Value} {A A2 : Option Addr} {l l2 : List UInt8} {e e2 : Bool}
theorem gk0_new {w : World} (h : RdrB w br P A c l e) (zs : Array Value) (t : TypeId) : GK0 w w.heap.size br P zs.toList A c l e (w.alloc (.cells zs t)) := by
  have hb := (Below.refl w.heap.size w).alloc (Nat.le_refl _) (.cells zs t)
  exact ⟨(h.imp (Q := fun k => P k ∧ k < w.heap.size) (fun k hk hl => ⟨hk, hl⟩) (fun q => h.nP q.1)).keep hb, boxN_new w zs t, .of hb, h.z, Nat.le_refl _, h.nP⟩
theorem GK0.go (h : GK0 w0 B0 br P zs A c l e wr) (hr : RdrB w7 br (fun k => P k ∧ k < B0) A2 c2 l2 e2) (ho : Oth br wr w7) : GK0 w0 B0 br P zs A2 c2 l2 e2 w7 :=
  ⟨hr, h.rb.oth ho (by have := h.o3; omega), h.oth.trans ho, h.o3, h.o4, h.nP⟩
theorem GK0.new (h : GK0 w0 B0 br P zs A c l e wr) (cs : Array Value) (t : TypeId) : GK w0 B0 br wr.heap.size P cs.toList zs A c l e (wr.alloc (.cells cs t)) := by
  have hb := (Below.refl wr.heap.size wr).alloc (Nat.le_refl _) (.cells cs t)
  exact ⟨h.go (h.rd.keep hb) (.of hb), boxN_new wr cs t, h.rb.z⟩
theorem GK0.ends (h : GK0 w0 B0 br P zs A c l e wr) : ∃ A c, RdrB wr br P A c l e := ⟨A, c, h.rd.imp (fun k hk _ => hk.1) h.nP⟩
theorem GK0.res (h : GK0 w0 B0 br P zs A c l e wr) (j : Nat) (x : Value) {u : Value} (hj : zs[j]? = some u) : GK0 w0 B0 br P (zs.set j x) A c l e (wr.setCell ⟨B0, j, none⟩ x) :=
  ⟨h.rd.elsewhere (p := ⟨B0, j, none⟩) (Nat.ne_of_lt h.o3) (fun q => Nat.lt_irrefl _ q.2) x, h.rb.set (j := j) x hj, h.oth.setNew (p := ⟨B0, j, none⟩) h.o4 x, h.o3, h.o4, h.nP⟩
theorem GK.nb1 (h : GK w0 B0 br bs P cs zs A c l e wr) : bs ≠ B0 := by have := h.o2; omega
theorem GK.nb2 (h : GK w0 B0 br bs P cs zs A c l e wr) : B0 ≠ bs := by have := h.o2; omega
theorem GK.nb3 (h : GK w0 B0 br bs P cs zs A c l e wr) : br ≠ bs := by have := h.o2; have := h.g0.o3; omega
theorem GK.nb4 (h : GK w0 B0 br bs P cs zs A c l e wr) : bs ≠ br := by have := h.o2; have := h.g0.o3; omega
theorem GK.nb5 (h : GK w0 B0 br bs P cs zs A c l e wr) : br ≠ B0 := by have := h.g0.o3; omega
theorem GK.go (h : GK w0 B0 br bs P cs zs A c l e wr) (hr : RdrB w7 br (fun k => P k ∧ k < B0) A2 c2 l2 e2) (ho : Oth br wr w7) : GK w0 B0 br bs P cs zs A2 c2 l2 e2 w7 :=
  ⟨h.g0.go hr ho, h.bx.oth ho h.nb4, h.o2⟩
theorem GK.drew (h : GK w0 B0 br bs P cs zs A c l e wr) : GK w0 B0 br bs P cs zs A c l e wr.drew := h.go h.g0.rd.drew (Oth.refl br wr).drew
theorem GK.why (h : GK w0 B0 br bs P cs zs A c l e wr) (e2 : Bool) : GK w0 B0 br bs P cs zs A c l e2 (wr.setCell ⟨br, 1, none⟩ (.bool e2)) := h.go (h.g0.rd.set1 e2) ((Oth.refl br wr).set 1 _)
theorem GK.cut (h : GK w0 B0 br bs P cs zs A c l e wr) (hr : RdP wr (fun k => P k ∧ k < B0) A2 l2.length c2 l2) : GK w0 B0 br bs P cs zs A2 c2 l2 e (wr.setCell ⟨br, 0, none⟩ (.slice A2 l2.length c2)) := h.go (h.g0.rd.set0 hr) ((Oth.refl br wr).set 0 _)
theorem GK.put (h : GK w0 B0 br bs P cs zs A c l e wr) (j : Nat) (x : Value) {u : Value} (hj : cs[j]? = some u) : GK w0 B0 br bs P (cs.set j x) zs A c l e (wr.setCell ⟨bs, j, none⟩ x) :=
  ⟨⟨h.g0.rd.elsewhere (p := ⟨bs, j, none⟩) h.nb3 (fun q => by have h3 : bs < B0 := q.2; have := h.o2; omega) x, h.g0.rb.else (p := ⟨bs, j, none⟩) h.nb1 x, h.g0.oth.setNew (p := ⟨bs, j, none⟩) (by show w0.heap.size ≤ bs; have := h.g0.o4; have := h.o2; omega) x, h.g0.o3, h.g0.o4, h.g0.nP⟩, h.bx.set (j := j) x hj, h.o2⟩
theorem RdP.drewR {Q : Nat → Prop} {n : Nat} (h : RdP wr Q A n c l) : RdP wr.drew Q A n c l := h.keep (Nat.le_refl _) (fun _ _ _ => rfl)
theorem GK.putcut (h : GK w0 B0 br bs P cs zs A c l e wr) (j : Nat) (x : Value) {u : Value} (hj : cs[j]? = some u) (hr : RdP wr (fun k => P k ∧ k < B0) A2 l2.length c2 l2) : GK w0 B0 br bs P (cs.set j x) zs A2 c2 l2 e ((wr.setCell ⟨bs, j, none⟩ x).setCell ⟨br, 0, none⟩ (.slice A2 l2.length c2)) := by
  refine (h.put j x hj).cut (hr.keep (by simp) fun p hp _ => (cell_else (p := ⟨bs, j, none⟩) (q := p) (fun r => ?_) x).1)
  have h2 : p.block = bs := r
  have h3 : p.block < B0 := hp.2
  rw [h2] at h3
  have := h.o2
  omega
theorem GK.res (h : GK w0 B0 br bs P cs zs A c l e wr) (j : Nat) (x : Value) {u : Value} (hj : zs[j]? = some u) : GK w0 B0 br bs P cs (zs.set j x) A c l e (wr.setCell ⟨B0, j, none⟩ x) :=
  ⟨h.g0.res j x hj, h.bx.else (p := ⟨B0, j, none⟩) h.nb2 x, h.o2⟩
end
def MSmEnd (w : World) (b : Nat) (P : Nat → Prop) (r : MNum) (e : Ending) (w' : World) : Prop :=
  e = .returned (.int .i64 (r.1 : Int)) ∧ (∃ A c, RdrB w' b P A c r.2.1 r.2.2) ∧ Oth b w w'
set_option maxRecDepth 100000 in
theorem entSmall (w : World) (b : Nat) (P : Nat → Prop) (A : Option Addr) (c : Nat) (l : List UInt8) (bad : Bool) (h : RdrB w b P A c l bad) (most : Nat) (hm : most ≤ 4294967295) :
    Calls Tryd.prog 32 #[.pointer (some ⟨b, 0, none⟩), .int .u64 (most : Int)] w (MSmEnd w b P (rsm most l bad)) := by
  go_enter Tryd.func32, Tryd.ntmps32
  go_wp2_with fail
  refine (entNum w b P A c l bad h).mono ?_
  rintro e w1 ⟨rfl, ⟨A1, c1, h1⟩, ho⟩
  have HS : Hid (rsm most l bad = if most < (mnum l bad).1 then (0, (mnum l bad).2.1, true) else mnum l bad) := hide rfl
  obtain ⟨n, l1, b1, hn⟩ : ∃ n l1 b1, mnum l bad = (n, l1, b1) := ⟨_, _, _, rfl⟩
  rw [hn] at h1 HS ⊢
  dsimp only at h1 HS ⊢
  have d1 := h1.c1
  have f1 := h1.f1
  clear hn
  by_cases hlt : most < n
  · have HR := hide (HS.out.trans (if_pos hlt))
    have t10 : decide ((most : Int) < (n : Int)) = true := decide_eq_true (by omega)
    have t11 : decide (most < n) = true := decide_eq_true hlt
    go_wp2_with fail
    go_ret
    exact ⟨by rw [HR.out]; rfl, ⟨A1, c1, by rw [HR.out]; exact h1.set1 true⟩, ho.set 1 _⟩
  · have HR := hide (HS.out.trans (if_neg hlt))
    have t10 : decide ((most : Int) < (n : Int)) = false := decide_eq_false (by omega)
    have t11 : decide (most < n) = false := decide_eq_false hlt
    have e16 : wrap64 (n : Int) = (n : Int) := IntWalk.wrap64_in _ ⟨by omega, by omega⟩
    go_wp2_with fail
    go_ret
    exact ⟨by rw [HR.out]; rfl, ⟨A1, c1, by rw [HR.out]; exact h1⟩, ho⟩
theorem unzig_range {g : Nat} (h : g < 18446744073709551616) : -9223372036854775808 ≤ unzig g ∧ unzig g < 9223372036854775808 := by
  unfold unzig
  split <;> omega
def ceV (x : Ce) : Array Value := #[.int .u8 (x.kind.toNat : Int), .int .i64 x.n.toInt, .string x.s]
set_option maxRecDepth 100000 in
theorem load_ce (w : World) (b : Nat) (x y z : Value) (c0 : w.cell? ⟨b, 0, none⟩ = some x) (c1 : w.cell? ⟨b, 1, none⟩ = some y) (c2 : w.cell? ⟨b, 2, none⟩ = some z) : (loadVar 51 ⟨b, 0, none⟩).run Tryd.prog w = .ok (.agg #[x, y, z]) w := by
  go_simp
set_option maxRecDepth 100000 in
theorem ret_ce {fn : Func} {p : Tmp} (h : fn.results = #[.cell p 51]) (tmps : Array Value) (w : World) {b : Nat} {x y z : Value} (hp : tmps.getD p undef = .pointer (some ⟨b, 0, none⟩)) (hb : BoxN w b [x, y, z]) :
    (results fn tmps).run Tryd.prog w = .ok (.agg #[x, y, z]) w := by
  rw [results_cell h, hp]
  have := load_ce w b _ _ _ (hb.cell 0 _ rfl) (hb.cell 1 _ rfl) (hb.cell 2 _ rfl)
  simp [asAddr, Result.andThen, this]
def CeEnd (w : World) (b : Nat) (P : Nat → Prop) (r : MCe) (e : Ending) (w' : World) : Prop :=
  e = .returned (.agg (ceV r.1)) ∧ (∃ A c, RdrB w' b P A c r.2.1 r.2.2) ∧ Oth b w w'
theorem ceEnd_of {w0 wr : World} {B0 br : Nat} {P : Nat → Prop} {zs : List Value} {A : Option Addr} {c : Nat} {l : List UInt8} {e : Bool} {r : MCe} (h : GK0 w0 B0 br P zs A c l e wr) {k : UInt8} {n : Int64} {s : ByteArray} (hr : r = (⟨k, n, s⟩, l, e)) : CeEnd w0 br P r (.returned (.agg #[.int .u8 (k.toNat : Int), .int .i64 n.toInt, .string s])) wr := by
  subst hr
  exact ⟨rfl, h.ends, h.oth⟩
set_option maxRecDepth 100000 in
set_option maxHeartbeats 2000000 in
theorem entRCell (w : World) (b : Nat) (P : Nat → Prop) (A : Option Addr) (c : Nat) (l : List UInt8) (bad : Bool) (h : RdrB w b P A c l bad) (k : UInt8) :
    Calls Tryd.prog 56 #[.pointer (some ⟨b, 0, none⟩), .int .u8 (k.toNat : Int)] w (CeEnd w b P (rcell k l bad)) := by
  have HC : Hid (rcell k l bad = if k.toNat = 1 then (if (Var.get l).2.2 ≠ 0 ∨ bad = true then (ceZ, l, true) else (⟨1, Int64.ofInt (unzig (Var.get l).1), ByteArray.empty⟩, l.drop (Var.get l).2.1, false))
    else if k.toNat = 2 then (⟨k, Int64.ofNat (rsm 1 l bad).1, ByteArray.empty⟩, (rsm 1 l bad).2)
    else (⟨k, 0, (mtext l bad).1⟩, (mtext l bad).2)) := hide rfl
  obtain ⟨R, hR⟩ : ∃ R, rcell k l bad = R := ⟨_, rfl⟩
  rw [hR] at HC ⊢
  clear hR
  obtain ⟨kn, hkn⟩ : ∃ kn : Nat, k.toNat = kn := ⟨_, rfl⟩
  rw [hkn] at HC ⊢
  have HK := hide hkn
  clear hkn
  have g0 := gk0_new h #[.int .u8 0, .int .i64 0, .string ⟨#[]⟩] 51
  have gA := g0.new #[.int .u8 (kn : Int), .int .i64 0, .string ⟨#[]⟩] 51
  go_enter Tryd.func56, Tryd.ntmps56
  go_upto_region 2 with fail
  generalize (w.alloc (.cells #[.int .u8 0, .int .i64 0, .string ⟨#[]⟩] 51)).alloc (.cells #[.int .u8 (kn : Int), .int .i64 0, .string ⟨#[]⟩] 51) = wA at *
  have hbs : (w.alloc (.cells #[.int .u8 0, .int .i64 0, .string ⟨#[]⟩] 51)).heap.size = w.heap.size + 1 := by simp
  rw [hbs] at gA
  obtain ⟨B0, hB0⟩ : ∃ B, B = w.heap.size := ⟨_, rfl⟩
  obtain ⟨bs, hbs2⟩ : ∃ B, B = w.heap.size + 1 := ⟨_, rfl⟩
  rw [← hbs2, ← hB0] at gA
  rw [← hbs2, ← hB0]
  have n3 := gA.nb3
  have n4 := gA.nb4
  have n1 := gA.nb1
  have n2 := gA.nb2
  have n5 := gA.nb5
  clear g0 hbs hB0 hbs2 h
  by_cases k1 : kn = 1
  · subst k1
    have HC1 := hide (HC.out.trans (if_pos rfl))
    have hk1 : k = 1 := UInt8.toNat_inj.1 (by rw [HK.out]; rfl)
    have HK1 := hide hk1
    have r0 := gA.g0.rd.c0
    have r1 := gA.g0.rd.c1
    have q0 := gA.g0.rd.f0
    have q1 := gA.g0.rd.f1
    have hrd := gA.g0.rd.rd.rd
    clear HC hk1
    go_wp2_with fail
    refine (varGetInt wA wA.heap.size _ c A l hrd).mono ?_
    rintro e w1 ⟨rfl, rfl⟩
    have hil : IntGet l = .tuple #[.int .i64 (unzig (Var.get l).1), .int .i64 ((Var.get l).2.1 : Int), .int .i64 ((Var.get l).2.2 : Int)] := rfl
    rw [hil]
    by_cases hg : (Var.get l).2.2 = 0 ∧ bad = false
    · obtain ⟨hg, rfl⟩ := hg
      have HR := hide (HC1.out.trans (if_neg (by rw [hg]; simp)))
      have hk : (Var.get l).2.1 ≤ l.length := (Var.get_ok (l := l) (n := (Var.get l).1) (k := (Var.get l).2.1) (by rw [← hg])).2.1
      obtain ⟨A2, l2, hl2, s1, s2, hr2⟩ := gA.g0.rd.rd.lo hk
      rw [← hl2] at HR
      obtain ⟨N, hN⟩ : ∃ N : Int64, N.toInt = unzig (Var.get l).1 := ⟨Int64.ofInt (unzig (Var.get l).1), by
        have := unzig_range (Var.get_lt l)
        rw [Int64.toInt_ofInt_of_le (by have := this.1; simpa using this) (by have := this.2; simpa using this)]⟩
      have HR2 : Hid (R = (⟨1, N, ByteArray.empty⟩, l2, false)) := hide (by rw [HR.out, ← hN, Int64.ofInt_toInt])
      rw [hg, ← hN]
      generalize (Var.get l).2.1 = g2 at *
      have HG := hide gA
      have HRD := hide hr2
      have x1 := gA.bx.cell 1 _ rfl
      have fx1 := gA.bx.free 1 (by simp)
      clear hg hN hl2 hk hil hr2 gA HR HC1
      go_upto_region 9 with fail
      go_region
      have G := (HG.out.putcut 1 (.int .i64 N.toInt) rfl HRD.out).drew
      generalize ((wA.setCell ⟨bs, 1, none⟩ (.int .i64 N.toInt)).setCell ⟨b, 0, none⟩ (.slice A2 l2.length (c - g2))).drew = wB at *
      have x0 := G.bx.cell 0 _ rfl
      have x1 := G.bx.cell 1 _ rfl
      have x2 := G.bx.cell 2 _ rfl
      have z0 := G.g0.rb.cell 0 _ rfl
      have z1 := G.g0.rb.cell 1 _ rfl
      have z2 := G.g0.rb.cell 2 _ rfl
      have fz0 := G.g0.rb.free 0 (by simp)
      have fz1 := G.g0.rb.free 1 (by simp)
      have fz2 := G.g0.rb.free 2 (by simp)
      have HG2 := hide G
      clear r0 r1 q0 q1 fx1 G HG HRD s1 s2
      go_wp2_with fail
      (try simp only [Exit.inBlock, Exit.then])
      have G3 := ((HG2.out.res 0 (.int .u8 ((1 : Nat) : Int)) rfl).res 1 (.int .i64 N.toInt) rfl).res 2 (.string ⟨#[]⟩) rfl
      refine bodyPost_ret (ret_ce (b := B0) rfl _ _ rfl G3.g0.rb) rfl ?_
      exact ceEnd_of (k := 1) (n := N) (s := ByteArray.empty) G3.g0 HR2.out
    · have HR := hide (HC1.out.trans (if_pos (by
        apply Decidable.byContradiction
        intro q
        apply hg
        refine ⟨Decidable.byContradiction fun r => q (.inl r), ?_⟩
        cases bad with
        | false => rfl
        | true => exact absurd (.inr rfl) q)))
      have z0 := gA.g0.rb.cell 0 _ rfl
      have z1 := gA.g0.rb.cell 1 _ rfl
      have z2 := gA.g0.rb.cell 2 _ rfl
      have fz0 := gA.g0.rb.free 0 (by simp)
      have fz1 := gA.g0.rb.free 1 (by simp)
      have fz2 := gA.g0.rb.free 2 (by simp)
      have HG := hide gA
      obtain ⟨g3, hg3⟩ : ∃ g, g = (Var.get l).2.2 := ⟨_, rfl⟩
      rw [← hg3] at hg ⊢
      generalize (Var.get l).2.1 = g2 at *
      generalize unzig (Var.get l).1 = g1 at *
      clear hg3 hil gA HC1
      have G3 := (((HG.out.why true).res 0 (.int .u8 0) rfl).res 1 (.int .i64 0) rfl).res 2 (.string ⟨#[]⟩) rfl
      have HG3 := hide G3
      clear G3
      by_cases hg0 : g3 = 0
      · subst hg0
        obtain rfl : bad = true := by cases bad <;> simp_all
        clear hg
        go_wp2_with fail
        (try simp only [Exit.inBlock, Exit.then])
        refine bodyPost_ret (ret_ce (b := B0) rfl _ _ rfl HG3.out.g0.rb) rfl ?_
        exact ceEnd_of (k := 0) (n := 0) (s := ByteArray.empty) HG3.out.g0 HR.out
      · have t2 : ((g3 : Int) != 0) = true := by rw [bne_iff_ne]; omega
        clear hg hg0
        go_wp2_with fail
        (try simp only [Exit.inBlock, Exit.then])
        refine bodyPost_ret (ret_ce (b := B0) rfl _ _ rfl HG3.out.g0.rb) rfl ?_
        exact ceEnd_of (k := 0) (n := 0) (s := ByteArray.empty) HG3.out.g0 HR.out
  · have HC2 := hide (HC.out.trans (if_neg k1))
    have t16 : ((kn : Int) == 1) = false := by rw [beq_eq_false_iff_ne]; omega
    clear HC
    have t17 : (kn == 1) = false := by rw [beq_eq_false_iff_ne]; exact k1
    by_cases k2 : kn = 2
    · have HR := hide (HC2.out.trans (if_pos k2))
      subst k2
      clear k1 HC2
      go_wp2_with fail
      refine (entSmall wA b _ A c l bad gA.g0.rd 1 (by decide)).mono ?_
      rintro e w1 ⟨rfl, ⟨A1, c1, h1⟩, ho1⟩
      have hle := rsm_le 1 l bad
      obtain ⟨n, l1, b1, hn⟩ : ∃ n l1 b1, rsm 1 l bad = (n, l1, b1) := ⟨_, _, _, rfl⟩
      rw [hn] at h1 hle ⊢
      dsimp only at h1 hle ⊢
      have G := gA.go h1 ho1
      have HR2 : Hid (R = (⟨k, Int64.ofNat n, ByteArray.empty⟩, l1, b1)) := hide (by rw [HR.out, hn])
      have en : (Int64.ofNat n).toInt = (n : Int) := i64_small (by omega)
      clear hn h1 HR
      have x0 := G.bx.cell 0 _ rfl
      have x1 := G.bx.cell 1 _ rfl
      have x2 := G.bx.cell 2 _ rfl
      have z0 := G.g0.rb.cell 0 _ rfl
      have z1 := G.g0.rb.cell 1 _ rfl
      have z2 := G.g0.rb.cell 2 _ rfl
      have fz0 := G.g0.rb.free 0 (by simp)
      have fz1 := G.g0.rb.free 1 (by simp)
      have fz2 := G.g0.rb.free 2 (by simp)
      have fx1 := G.bx.free 1 (by simp)
      have fx2 := G.bx.free 2 (by simp)
      have HG := hide G
      clear G gA ho1
      go_wp2_with fail
      (try simp only [Exit.inBlock, Exit.then])
      have G3 := (((HG.out.put 1 (.int .i64 (n : Int)) rfl).res 0 (.int .u8 ((2 : Nat) : Int)) rfl).res 1 (.int .i64 (n : Int)) rfl).res 2 (.string ⟨#[]⟩) rfl
      refine bodyPost_ret (ret_ce (b := B0) rfl _ _ rfl G3.g0.rb) rfl ?_
      have := ceEnd_of (k := k) (n := Int64.ofNat n) (s := ByteArray.empty) G3.g0 HR2.out
      rw [HK.out, en] at this
      exact this
    · have HR := hide (HC2.out.trans (if_neg k2))
      have t18 : ((kn : Int) == 2) = false := by rw [beq_eq_false_iff_ne]; omega
      clear k1 HC2
      go_wp2_with fail
      refine (entText wA b _ A c l bad gA.g0.rd).mono ?_
      rintro e w1 ⟨rfl, ⟨A1, c1, h1⟩, ho1⟩
      obtain ⟨s, l1, b1, hn⟩ : ∃ s l1 b1, mtext l bad = (s, l1, b1) := ⟨_, _, _, rfl⟩
      rw [hn] at h1 ⊢
      dsimp only at h1 ⊢
      have G := gA.go h1 ho1
      have HR2 : Hid (R = (⟨k, 0, s⟩, l1, b1)) := hide (by rw [HR.out, hn])
      clear hn h1 HR
      have x0 := G.bx.cell 0 _ rfl
      have x1 := G.bx.cell 1 _ rfl
      have x2 := G.bx.cell 2 _ rfl
      have z0 := G.g0.rb.cell 0 _ rfl
      have z1 := G.g0.rb.cell 1 _ rfl
      have z2 := G.g0.rb.cell 2 _ rfl
      have fz0 := G.g0.rb.free 0 (by simp)
      have fz1 := G.g0.rb.free 1 (by simp)
      have fz2 := G.g0.rb.free 2 (by simp)
      have fx1 := G.bx.free 1 (by simp)
      have fx2 := G.bx.free 2 (by simp)
      have HG := hide G
      clear G gA ho1
      go_wp2_with fail
      (try simp only [Exit.inBlock, Exit.then])
      have G3 := (((HG.out.put 2 (.string s) rfl).res 0 (.int .u8 (kn : Int)) rfl).res 1 (.int .i64 0) rfl).res 2 (.string s) rfl
      refine bodyPost_ret (ret_ce (b := B0) rfl _ _ rfl G3.g0.rb) rfl ?_
      have := ceEnd_of (k := k) (n := 0) (s := s) G3.g0 HR2.out
      rw [HK.out] at this
      exact this
end Go.Proofs.YtbcnekaagkdmeaaDoor
