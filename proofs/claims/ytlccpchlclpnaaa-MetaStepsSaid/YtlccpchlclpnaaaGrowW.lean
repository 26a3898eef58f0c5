/- THE WALK's WORDS for schemas that grow: a box that is written over beside rows, texts, rows that are alike. No statement of the seat is proved here; no condition. -/
import Derived.Test.YtlccpchlclpnaaaGrow
import Derived.Test.YtlccpchlclpnaaaAlive
import Derived.Deep.CutRange
import Derived.Deep.RegionWith
import Derived.Deep.RegionHeld3
namespace Go.Proofs.Ytlccpchlclpnaaa
open Go.RowKit

/-! ### texts -/
def strsV (l : List ByteArray) : List Value := l.map .string
theorem Rd.lenT {w : World} {B n c : Nat} {A : Option Addr} {l : List ByteArray} (h : Rd w B 1 A n c (strsV l)) : n = l.length := by
  have := h.len
  simp [strsV] at this
  omega
theorem Rd.st {w : World} {B n c : Nat} {A : Option Addr} {l : List ByteArray} (h : Rd w B 1 A n c (strsV l)) {k : Nat} (hk : k < l.length) :
    ∃ b off, A = some ⟨b, off, none⟩ ∧ b < B ∧ w.cell? ⟨b, off + k, none⟩ = some (.string (l.getD k default)) := by
  obtain ⟨b, off, e, hb, hc⟩ := h.cellAt (k := k) (by simp [strsV]; exact hk)
  refine ⟨b, off, e, hb, hc.trans ?_⟩
  simp [strsV, List.getD, hk]
theorem Rd.lenB {w : World} {B n c : Nat} {A : Option Addr} {l : List UInt8} (h : Rd w B 1 A n c (bytesV l)) : n = l.length := by
  have := h.len
  rw [bytesV_length] at this
  omega
theorem Rd.by_ {w : World} {B n c : Nat} {A : Option Addr} {l : List UInt8} (h : Rd w B 1 A n c (bytesV l)) {k : Nat} (hk : k < l.length) :
    ∃ b off, A = some ⟨b, off, none⟩ ∧ b < B ∧ w.cell? ⟨b, off + k, none⟩ = some (.int .u8 ((l.getD k default).toNat : Int)) := by
  obtain ⟨b, off, e, hb, hc⟩ := h.cellAt (k := k) (by rw [bytesV_length]; exact hk)
  refine ⟨b, off, e, hb, hc.trans ?_⟩
  simp [bytesV, byteV, List.getD, hk]

/-! ### a row that does not lie in a box -/
def Away (b : Nat) (A : Option Addr) (n : Nat) : Prop := 0 < n → ∀ b' off s, A = some ⟨b', off, s⟩ → b' ≠ b
theorem Rd.away {w : World} {B sz n c : Nat} {A : Option Addr} {xs : List Value} (h : Rd w B sz A n c xs) {b : Nat} (hb : B ≤ b) : Away b A n := fun hn b' off s e => by
  obtain ⟨b2, o2, e2, hlt, _⟩ := h.at_ hn
  rw [e] at e2
  injection e2 with e2
  injection e2 with e2
  omega
theorem Rd.set {w : World} {B sz n c : Nat} {A : Option Addr} {xs : List Value} (h : Rd w B sz A n c xs) {b : Nat} (ha : Away b A n) (j : Nat) (x : Value) : Rd (w.setCell ⟨b, j, none⟩ x) B sz A n c xs :=
  ⟨h.len, h.le, h.cap, fun hn => by
    obtain ⟨b2, off, e, hb, hc⟩ := h.at_ hn
    have hne := ha hn _ _ _ e
    refine ⟨b2, off, e, hb, fun j2 u hu => ?_⟩
    have h3 := hc j2 u hu
    rw [World.cell?_setCell_other]
    · exact h3
    · intro q
      injection q with q
      exact hne q.symm⟩
theorem Rd.of_own2 {w : World} {base sz n : Nat} {e : TypeId} {v : Value} {xs : List Value} {b : Nat} (h : w.ownsRow base e sz v n xs) (hb : b < base) : ∃ A c, v = .slice A n c ∧ Rd w w.heap.size sz A n c xs ∧ Away b A n := by
  obtain ⟨A, c, rfl, hr⟩ := Rd.of_own h
  refine ⟨A, c, rfl, hr, fun hn b' off s e2 => ?_⟩
  rcases h.2 with ⟨q, rfl⟩ | ⟨g, cap, cur, q, hbg, _⟩
  · omega
  · injection q with q
    rw [e2] at q
    injection q with q
    injection q with q
    omega
/-- fields do not lie in a schema's box -/
theorem away_box {w : World} {B n c : Nat} {A : Option Addr} {l : List Fd} {b : Nat} {x : UInt32} {A2 : Option Addr} {n2 c2 : Nat} (h : Rd w B 4 A n c (fdsV l)) (h0 : w.cell? ⟨b, 0, none⟩ = some (.int .u32 (x.toNat : Int))) (h1 : w.cell? ⟨b, 1, none⟩ = some (.slice A2 n2 c2)) (h2 : ∀ j, 2 ≤ j → w.cell? ⟨b, j, none⟩ = none) : Away b A n := fun hn b' off s e q => by
  subst q
  have hl := h.lenF
  obtain ⟨b3, off3, e3, _, f0, f1, _, _⟩ := h.fd (k := 0) (by omega)
  rw [e] at e3
  injection e3 with e3
  injection e3 with q1 q2 q3
  subst q1 q2
  rcases Nat.lt_or_ge off 2 with q | q
  · rcases (show off = 0 ∨ off = 1 by omega) with rfl | rfl
    · have := f1
      rw [show 0 + 0 * 4 + 1 = 1 by omega, h1] at this
      cases this
    · have := f0
      rw [show 1 + 0 * 4 = 1 by omega, h1] at this
      cases this
  · have := f0
    rw [show off + 0 * 4 = off by omega, h2 off q] at this
    cases this

/-! ### what holds at each round -/
structure GI (wL : World) (bt : Nat) (l : List Fd) (rv : List Vl) (tid : UInt32) (tA : Option Addr) (tc : Nat) (tl ext : List Fd) (nA : Option Addr) (nc : Nat) (now : List Vl) (wr : World) : Prop where
  tl_ : tl = l ++ ext
  now_ : now = rv ++ List.replicate ext.length .none
  chk : check tid tl = 0
  c0 : wr.cell? ⟨bt, 0, none⟩ = some (.int .u32 (tid.toNat : Int))
  c1 : wr.cell? ⟨bt, 1, none⟩ = some (.slice tA tl.length tc)
  c2 : ∀ j, 2 ≤ j → wr.cell? ⟨bt, j, none⟩ = none
  f0 : wr.frozen? ⟨bt, 0, none⟩ = false
  f1 : wr.frozen? ⟨bt, 1, none⟩ = false
  z : bt < wr.heap.size
  rt : Rd wr wr.heap.size 4 tA tl.length tc (fdsV tl)
  rn : Rd wr wr.heap.size 1 nA now.length nc (vlsV now)
  an : Away bt nA now.length
  below : Below bt wL wr
section
variable {wL : World} {bt : Nat} {l : List Fd} {rv : List Vl} {tid : UInt32} {tA : Option Addr} {tc : Nat} {tl ext : List Fd} {nA : Option Addr} {nc : Nat} {now : List Vl} {wr w' : World}
theorem GI.call (h : GI wL bt l rv tid tA tc tl ext nA nc now wr) (hb : Below wr.heap.size wr w') : GI wL bt l rv tid tA tc tl ext nA nc now w' where
  tl_ := h.tl_
  now_ := h.now_
  chk := h.chk
  c0 := (hb.cell (p := ⟨bt, 0, none⟩) h.z).trans h.c0
  c1 := (hb.cell (p := ⟨bt, 1, none⟩) h.z).trans h.c1
  c2 := fun j hj => (hb.cell (p := ⟨bt, j, none⟩) h.z).trans (h.c2 j hj)
  f0 := (hb.frozen (p := ⟨bt, 0, none⟩) h.z).trans h.f0
  f1 := (hb.frozen (p := ⟨bt, 1, none⟩) h.z).trans h.f1
  z := Nat.lt_of_lt_of_le h.z hb.size
  rt := (h.rt.below hb).more hb.size
  rn := (h.rn.below hb).more hb.size
  an := h.an
  below := below_call h.below (Nat.le_of_lt h.z) hb
/-- the old ones, later -/
theorem GI.old (h : GI wL bt l rv tid tA tc tl ext nA nc now wr) {sz n c : Nat} {A : Option Addr} {xs : List Value} (hr : Rd wL bt sz A n c xs) : Rd wr wr.heap.size sz A n c xs := (hr.below h.below).more (Nat.le_of_lt h.z)
/-- a longer one is stored -/
theorem GI.store (h : GI wL bt l rv tid tA tc tl ext nA nc now wr) {uid : UInt32} {uA : Option Addr} {uc : Nat} {f : Fd} {mA : Option Addr} {mc : Nat} (hc : check uid (tl ++ [f]) = 0)
    (ru : Rd wr wr.heap.size 4 uA (tl ++ [f]).length uc (fdsV (tl ++ [f]))) (rm : Rd wr wr.heap.size 1 mA (now ++ [Vl.none]).length mc (vlsV (now ++ [Vl.none]))) (am : Away bt mA (now ++ [Vl.none]).length) :
    GI wL bt l rv uid uA uc (tl ++ [f]) (ext ++ [f]) mA mc (now ++ [Vl.none]) ((wr.setCell ⟨bt, 0, none⟩ (.int .u32 (uid.toNat : Int))).setCell ⟨bt, 1, none⟩ (.slice uA (tl ++ [f]).length uc)) := by
  have hs : ((wr.setCell ⟨bt, 0, none⟩ (.int .u32 (uid.toNat : Int))).setCell ⟨bt, 1, none⟩ (.slice uA (tl ++ [f]).length uc)).heap.size = wr.heap.size := by simp
  have au := away_box ru h.c0 h.c1 h.c2
  obtain ⟨q0, q1⟩ := set2 wr bt _ _ (.int .u32 (uid.toNat : Int)) (.slice uA (tl ++ [f]).length uc) h.c0 h.c1
  have f0 := h.f0
  have f1 := h.f1
  refine ⟨by rw [h.tl_, List.append_assoc], ?_, hc, q0, q1, fun j hj => ?_, by go_simp, by go_simp, by rw [hs]; exact h.z, by rw [hs]; exact (ru.set au 0 _).set au 1 _, by rw [hs]; exact (rm.set am 0 _).set am 1 _, am, below_set2 h.below bt (Nat.le_refl _) _ _⟩
  · rw [h.now_, List.append_assoc, List.length_append]
    simp [List.replicate_succ']
  · rw [World.cell?_setCell_other, World.cell?_setCell_other]
    · exact h.c2 j hj
    · intro q; injection q with _ q; omega
    · intro q; injection q with _ q; omega
end

/-! ### rows that are alike -/
set_option maxRecDepth 100000 in
theorem lawAlike (w : World) (n1 c1 n2 c2 : Nat) (A1 A2 : Option Addr) (l : List Vl) (hr1 : Rd w w.heap.size 1 A1 n1 c1 (vlsV l)) (hr2 : Rd w w.heap.size 1 A2 n2 c2 (vlsV l)) (hmax : l.length ≤ 1000000) :
    Calls Try.prog 28 #[.slice A1 n1 c1, .slice A2 n2 c2] w fun e w' => e = .returned (.bool true) ∧ Below w.heap.size w w' := by
  obtain rfl := hr1.lenV
  obtain rfl := hr2.lenV
  go_enter Try.func28, Try.ntmps28
  go_wp2_with fail
  refine (lawCells w _ _ c1 A1 l hr1 (Nat.le_refl _) hmax).mono ?_
  rintro e w1 ⟨v1, rfl, ho1, hb1⟩
  obtain ⟨B1, d1, rfl, hs1⟩ := Rd.of_own ho1
  have hr3 := (hr2.below hb1).more hb1.size
  clear ho1
  go_wp2_with fail
  refine (lawCells w1 _ _ c2 A2 l hr3 (Nat.le_refl _) hmax).mono ?_
  rintro e w2 ⟨v2, rfl, ho2, hb2⟩
  obtain ⟨B2, d2, rfl, hs2⟩ := Rd.of_own ho2
  have hs3 := (hs1.below hb2).more hb2.size
  have hB2 : Below w.heap.size w w2 := below_call hb1 hb1.size hb2
  clear ho2
  go_wp2_with fail
  refine (refSameRow w2 _ d1 _ d2 B1 B2 (l.map cellOf) hs3 hs2).mono ?_
  rintro e w3 ⟨rfl, hb3⟩
  have hB3 : Below w.heap.size w w3 := below_call hB2 hB2.size hb3
  go_wp2_with fail
  go_ret
  exact ⟨rfl, hB3⟩
/-- a schema with a field more, as one word -/
def AddR (id : UInt32) (l : List Fd) (name : ByteArray) (k : Nat) (v : Value) (w : World) : Prop :=
  ∃ A c, v = .tuple #[.agg #[.int .u32 ((addId id l name k).toNat : Int), .slice A (addFds id l name k).length c], .int .i64 (addErr id l name k : Int)] ∧ Rd w w.heap.size 4 A (addFds id l name k).length c (fdsV (addFds id l name k))
theorem mono_addR (id : UInt32) (l : List Fd) (name : ByteArray) (k : Nat) : (Slot.has (AddR id l name k)).mono Ext := fun _ _ _ he ⟨A, c, e, h⟩ => ⟨A, c, e, (h.below he).more he.size⟩
theorem addR_ret {id : UInt32} {l : List Fd} {name : ByteArray} {k : Nat} {e : Ending} {w w' : World} (h : AddEnd w id l name k e w') : ∃ v, e = .returned v ∧ Ext w w' ∧ (Slot.has (AddR id l name k)).holds v w' := by
  obtain ⟨v, rfl, ⟨A, c, rfl, hr⟩, hb⟩ := h
  exact ⟨_, rfl, hb, A, c, rfl, hr⟩
/-- what holds at each round, of the loop's slots -/
def GR (wL : World) (bt : Nat) (l : List Fd) (rv : List Vl) (nv iv : Value) (wr : World) : Prop :=
  ∃ (k : Nat) (tid : UInt32) (tA : Option Addr) (tc : Nat) (tl ext : List Fd) (nA : Option Addr) (nc : Nat) (now : List Vl), iv = .int .i64 (k : Int) ∧ nv = .slice nA now.length nc ∧ k ≤ 12 ∧ GI wL bt l rv tid tA tc tl ext nA nc now wr
/-- what stands behind the statement 'u, e := schema.Add(t, ..)' -/
def AddDone (wL : World) (bt : Nat) (l : List Fd) (rv : List Vl) (tid : UInt32) (tA : Option Addr) (tc : Nat) (tl ext : List Fd) (nA : Option Addr) (nc : Nat) (now : List Vl) (name : ByteArray) (k : Nat) (uv ev : Value) (wx : World) : Prop :=
  ∃ bu uA uc, uv = .pointer (some ⟨bu, 0, none⟩) ∧ ev = .int .i64 (addErr tid tl name k : Int) ∧ wx.cell? ⟨bu, 0, none⟩ = some (.int .u32 ((addId tid tl name k).toNat : Int)) ∧ wx.cell? ⟨bu, 1, none⟩ = some (.slice uA (addFds tid tl name k).length uc) ∧ bu < wx.heap.size ∧
    Rd wx wx.heap.size 4 uA (addFds tid tl name k).length uc (fdsV (addFds tid tl name k)) ∧ GI wL bt l rv tid tA tc tl ext nA nc now wx
section
variable {wL : World} {bt : Nat} {l : List Fd} {rv : List Vl} {tid : UInt32} {tA : Option Addr} {tc : Nat} {tl ext : List Fd} {nA : Option Addr} {nc : Nat} {now : List Vl} {wr w1 : World} {name : ByteArray} {k : Nat}
theorem add_after (G : GI wL bt l rv tid tA tc tl ext nA nc now wr) (hb : Below wr.drew.heap.size wr.drew w1) {uA : Option Addr} {uc : Nat} (hru : Rd w1 w1.heap.size 4 uA (addFds tid tl name k).length uc (fdsV (addFds tid tl name k))) :
    AddDone wL bt l rv tid tA tc tl ext nA nc now name k (.pointer (some ⟨w1.heap.size, 0, none⟩)) (.int .i64 (addErr tid tl name k : Int)) (w1.alloc (.cells #[.int .u32 ((addId tid tl name k).toNat : Int), .slice uA (addFds tid tl name k).length uc] 25)) := by
  have x := box_new w1 #[.int .u32 ((addId tid tl name k).toNat : Int), .slice uA (addFds tid tl name k).length uc] 25
  obtain ⟨cs, _, z, hb2⟩ := x.lift (Below.refl _ _)
  exact ⟨_, uA, uc, rfl, rfl, cs 0 _ rfl, cs 1 _ rfl, z, (hru.below hb2).more hb2.size, (G.call (below_of_drew hb)).call hb2⟩
theorem pre_box {W : World} {x y : Value} {t : TypeId} (hb : Below (W.drew.alloc (.cells #[x, y] t)).heap.size (W.drew.alloc (.cells #[x, y] t)) w1) :
    w1.cell? ⟨W.heap.size, 0, none⟩ = some x ∧ w1.cell? ⟨W.heap.size, 1, none⟩ = some y ∧ w1.frozen? ⟨W.heap.size, 0, none⟩ = false ∧ w1.frozen? ⟨W.heap.size, 1, none⟩ = false ∧ (∀ j, 2 ≤ j → w1.cell? ⟨W.heap.size, j, none⟩ = none) ∧ W.heap.size < w1.heap.size ∧ Below W.heap.size W w1 := by
  have x1 := box_new W.drew #[x, y] t
  obtain ⟨cs, fz, z, hb2⟩ := x1.lift hb
  refine ⟨cs 0 _ rfl, cs 1 _ rfl, fz 0, fz 1, fun j hj => ?_, z, below_of_drew hb2⟩
  have hz : W.drew.heap.size < (W.drew.alloc (.cells #[x, y] t)).heap.size := by simp
  refine (hb.cell (p := ⟨W.drew.heap.size, j, none⟩) hz).trans ?_
  rw [cell_of_row _ _ _ #[x, y] t (0, 0) (heap_alloc_new _ _)]
  simp
  omega
theorem add_before (G : GI wL bt l rv tid tA tc tl ext nA nc now wr) {t : TypeId} (hb : Below (wr.drew.alloc (.cells #[.int .u32 0, .slice none 0 0] t)).heap.size (wr.drew.alloc (.cells #[.int .u32 0, .slice none 0 0] t)) w1) {uA : Option Addr} {uc : Nat} (hru : Rd w1 w1.heap.size 4 uA (addFds tid tl name k).length uc (fdsV (addFds tid tl name k))) :
    AddDone wL bt l rv tid tA tc tl ext nA nc now name k (.pointer (some ⟨wr.heap.size, 0, none⟩)) (.int .i64 (addErr tid tl name k : Int)) ((w1.setCell ⟨wr.heap.size, 0, none⟩ (.int .u32 ((addId tid tl name k).toNat : Int))).setCell ⟨wr.heap.size, 1, none⟩ (.slice uA (addFds tid tl name k).length uc)) := by
  obtain ⟨k0, k1, _, _, k4, z, hb2⟩ := pre_box hb
  obtain ⟨q0, q1⟩ := set2 w1 wr.heap.size _ _ (.int .u32 ((addId tid tl name k).toNat : Int)) (.slice uA (addFds tid tl name k).length uc) k0 k1
  have hs : ((w1.setCell ⟨wr.heap.size, 0, none⟩ (.int .u32 ((addId tid tl name k).toNat : Int))).setCell ⟨wr.heap.size, 1, none⟩ (.slice uA (addFds tid tl name k).length uc)).heap.size = w1.heap.size := by simp
  have au := away_box (x := 0) hru k0 k1 k4
  exact ⟨_, uA, uc, rfl, rfl, q0, q1, by rw [hs]; exact z, by rw [hs]; exact (hru.set au 0 _).set au 1 _, G.call (below_set2 hb2 _ (Nat.le_refl _) _ _)⟩
end
end Go.Proofs.Ytlccpchlclpnaaa
