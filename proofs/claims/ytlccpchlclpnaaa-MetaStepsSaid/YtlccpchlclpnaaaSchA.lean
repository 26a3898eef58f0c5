/- THE WALK of the program's Add of a field. No statement of the seat is proved here; no condition. -/
import Derived.Test.YtlccpchlclpnaaaSchK
import Derived.Test.YtlccpchlclpnaaaAbs
import Derived.Laws.ResultCell
namespace Go.Proofs.Ytlccpchlclpnaaa
open Go.RowKit

theorem load_sch (w : World) (b : Nat) (x y : Value) (c0 : w.cell? ⟨b, 0, none⟩ = some x) (c1 : w.cell? ⟨b, 1, none⟩ = some y) : (loadVar 25 ⟨b, 0, none⟩).run Try.prog w = .ok (.agg #[x, y]) w := by
  go_simp
theorem ret_sch {fn : Func} {p u : Tmp} (h : fn.results = #[.cell p 25, .tmp u]) (tmps : Array Value) (w : World) {b : Nat} {x y : Value} (hp : tmps.getD p undef = .pointer (some ⟨b, 0, none⟩)) (c0 : w.cell? ⟨b, 0, none⟩ = some x) (c1 : w.cell? ⟨b, 1, none⟩ = some y) :
    (results fn tmps).run Try.prog w = .ok (.tuple #[.agg #[x, y], tmps.getD u undef]) w := by
  rw [results_cell_tmp h, hp]
  have := load_sch w b x y c0 c1
  simp [asAddr, Result.andThen, this]
structure Box (w w' : World) (cs : Array Value) : Prop where
  below : Below w.heap.size w w'
  size : w'.heap.size = w.heap.size + 1
  cell : ∀ j v, cs[j]? = some v → w'.cell? ⟨w.heap.size, j, none⟩ = some v
  free : ∀ j, w'.frozen? ⟨w.heap.size, j, none⟩ = false
theorem box_new (w : World) (cs : Array Value) (t : TypeId) : Box w (w.alloc (.cells cs t)) cs where
  below := (Below.refl _ _).alloc (Nat.le_refl _) _
  size := by simp
  cell := fun j v h => by
    rw [cell_of_row _ _ _ cs t (0, 0) (heap_alloc_new w _)]
    exact h
  free := fun j => by
    simp
theorem Box.lift {w w' w2 : World} {cs : Array Value} (h : Box w w' cs) (hb : Below w'.heap.size w' w2) : (∀ j v, cs[j]? = some v → w2.cell? ⟨w.heap.size, j, none⟩ = some v) ∧ (∀ j, w2.frozen? ⟨w.heap.size, j, none⟩ = false) ∧ w.heap.size < w2.heap.size ∧ Below w.heap.size w w2 := by
  have hz := h.size
  refine ⟨fun j v hj => (hb.cell (p := ⟨w.heap.size, j, none⟩) (show w.heap.size < w'.heap.size by omega)).trans (h.cell j v hj), fun j => (hb.frozen (p := ⟨w.heap.size, j, none⟩) (show w.heap.size < w'.heap.size by omega)).trans (h.free j), ?_, below_call h.below h.below.size hb⟩
  have := hb.size
  omega
theorem set2 (W : World) (b : Nat) (u v x y : Value) (c0 : W.cell? ⟨b, 0, none⟩ = some u) (c1 : W.cell? ⟨b, 1, none⟩ = some v) :
    ((W.setCell ⟨b, 0, none⟩ x).setCell ⟨b, 1, none⟩ y).cell? ⟨b, 0, none⟩ = some x ∧ ((W.setCell ⟨b, 0, none⟩ x).setCell ⟨b, 1, none⟩ y).cell? ⟨b, 1, none⟩ = some y := by
  constructor <;> go_simp
theorem below_set2 {B : Nat} {w W : World} (h : Below B w W) (b : Nat) (hb : B ≤ b) (x y : Value) : Below B w ((W.setCell ⟨b, 0, none⟩ x).setCell ⟨b, 1, none⟩ y) := (h.setCell hb x).setCell hb y
theorem rd_set2 {W : World} {B sz n c : Nat} {A : Option Addr} {xs : List Value} (h : Rd W B sz A n c xs) (b : Nat) (hb : B ≤ b) (x y : Value) : Rd ((W.setCell ⟨b, 0, none⟩ x).setCell ⟨b, 1, none⟩ y) B sz A n c xs :=
  h.keep fun _p hp => (below_set2 (Below.refl B W) b hb x y).cell hp
theorem set2a (W : World) (b : Nat) (u v x y : Value) (hb : b < W.heap.size) (c0 : W.cell? ⟨b, 0, none⟩ = some u) (c1 : W.cell? ⟨b, 1, none⟩ = some v) (o : Obj) :
    (((W.setCell ⟨b, 0, none⟩ x).setCell ⟨b, 1, none⟩ y).alloc o).cell? ⟨b, 0, none⟩ = some x ∧ (((W.setCell ⟨b, 0, none⟩ x).setCell ⟨b, 1, none⟩ y).alloc o).cell? ⟨b, 1, none⟩ = some y := by
  obtain ⟨h0, h1⟩ := set2 W b u v x y c0 c1
  have hs : ((W.setCell ⟨b, 0, none⟩ x).setCell ⟨b, 1, none⟩ y).heap.size = W.heap.size := by simp
  have hB := (Below.refl ((W.setCell ⟨b, 0, none⟩ x).setCell ⟨b, 1, none⟩ y).heap.size ((W.setCell ⟨b, 0, none⟩ x).setCell ⟨b, 1, none⟩ y)).alloc (Nat.le_refl _) o
  exact ⟨(hB.cell (p := ⟨b, 0, none⟩) (by rw [hs]; exact hb)).trans h0, (hB.cell (p := ⟨b, 1, none⟩) (by rw [hs]; exact hb)).trans h1⟩
/-- a row of fields of one's own -/
def OwnF (B : Nat) (xs : List Value) (v : Value) (w : World) : Prop := ∃ n, n * 4 = xs.length ∧ w.ownsRow B 96 4 v n xs
theorem mono_ownF (B : Nat) (xs : List Value) : (Slot.has (OwnF B xs)).mono Ext := fun _ _ _ he ⟨n, e, h⟩ => ⟨n, e, own_below h he⟩
theorem ownF_ret {w w' : World} {B n : Nat} {xs : List Value} {e : Ending} (h : RetRow w 96 4 n xs e w') (hB : B ≤ w.heap.size) : ∃ v, e = .returned v ∧ Ext w w' ∧ (Slot.has (OwnF B xs)).holds v w' := by
  obtain ⟨v, rfl, ho, hb⟩ := h
  exact ⟨v, rfl, hb, n, by rw [ho.1], own_base ho hB⟩
/-- one field, of which a slice was made -/
def LitF (xs : List Value) (v : Value) (w : World) : Prop := ∃ A, v = .slice A 1 1 ∧ Rd w w.heap.size 4 A 1 1 xs
theorem mono_litF (xs : List Value) : (Slot.has (LitF xs)).mono Ext := fun _ _ _ he ⟨A, e, h⟩ => ⟨A, e, (h.below he).more he.size⟩
theorem litF_new (w : World) (cs : Array Value) {xs : List Value} (h : cs.toList = xs) (hs : cs.size = 1 * 4) : (Slot.has (LitF xs)).holds (.slice (some ⟨w.heap.size, 0, none⟩) 1 1) (w.alloc (.cells cs 96)) := by
  refine ⟨_, rfl, ?_⟩
  have := Rd.lit w 96 cs (n := 1) (sz := 4) hs (by decide)
  rw [h] at this
  exact this.more (by simp)

def AddEnd (w : World) (id : UInt32) (l : List Fd) (name : ByteArray) (k : Nat) (e : Ending) (w' : World) : Prop :=
  ∃ v, e = .returned (.tuple #[v, .int .i64 (addErr id l name k : Int)]) ∧ SchR w' v (addId id l name k) (addFds id l name k) ∧ Below w.heap.size w w'
theorem AddEnd.bad {w w' : World} {id : UInt32} {l : List Fd} {name : ByteArray} {k er : Nat} (h1 : addErr id l name k = er) (h2 : addId id l name k = 0) (h3 : addFds id l name k = []) (hb : Below w.heap.size w w') :
    AddEnd w id l name k (.returned (.tuple #[.agg #[.int .u32 0, .slice none 0 0], .int .i64 (er : Int)])) w' := ⟨_, by rw [h1], by rw [h2, h3]; exact SchR.none _, hb⟩

set_option maxRecDepth 100000 in
set_option maxHeartbeats 2000000 in
theorem schAdd (w : World) (id : UInt32) (n c : Nat) (A : Option Addr) (l : List Fd) (hr : Rd w w.heap.size 4 A n c (fdsV l)) (name : ByteArray) (k : Nat) (hk : k < 256) :
    Calls Try.prog 13 #[.agg #[.int .u32 (id.toNat : Int), .slice A n c], .string name, .int .u8 (k : Int)] w (AddEnd w id l name k) := by
  obtain rfl := hr.lenF
  have hidb : id.toNat < 4294967296 := id.toNat_lt
  go_enter Try.func13, Try.ntmps13
  go_wp2_with fail
  have x1 := box_new w #[.int .u32 (id.toNat : Int), .slice A l.length c] 25
  generalize hwa : w.alloc (.cells #[.int .u32 (id.toNat : Int), .slice A l.length c] 25) = wa at *
  have x2 := box_new wa #[.string name] 9
  generalize hwb : wa.alloc (.cells #[.string name] 9) = wb at *
  have x3 := box_new wb #[.int .u32 0, .slice none 0 0] 25
  generalize hwc : wb.alloc (.cells #[.int .u32 0, .slice none 0 0] 25) = w2 at *
  have za := x1.size
  have zb := x2.size
  obtain ⟨cs, _, zs, hb2⟩ := x1.lift (below_call x2.below x2.below.size x3.below)
  obtain ⟨cn, _, zn, _⟩ := x2.lift x3.below
  obtain ⟨cr, fr, zr, _⟩ := x3.lift (Below.refl _ _)
  have s0 := cs 0 _ rfl
  have s1 := cs 1 _ rfl
  have n0 := cn 0 _ rfl
  have r0 := cr 0 _ rfl
  have r1 := cr 1 _ rfl
  have rf0 := fr 0
  have rf1 := fr 1
  have hr2 := (hr.below hb2).more hb2.size
  rw [show w.heap.size + 1 + 1 = wb.heap.size by omega, show w.heap.size + 1 = wa.heap.size by omega]
  have zbr : w.heap.size ≤ wb.heap.size := by omega
  generalize hbs : w.heap.size = bs at *
  generalize hbn : wa.heap.size = bn at *
  generalize hbr : wb.heap.size = br at *
  have HZ := hide (And.intro hbs (And.intro hbn hbr))
  clear hwa hwb hwc cs cn cr fr x1 x2 x3 za zb hbs hbn hbr
  refine (schCheck w2 id _ c A l hr2).mono ?_
  rintro e w3 ⟨rfl, hb3⟩
  have hB3 : Below bs w w3 := below_call hb2 (Nat.le_of_lt zs) hb3
  have s0' := (hb3.cell (p := ⟨bs, 0, none⟩) zs).trans s0
  have s1' := (hb3.cell (p := ⟨bs, 1, none⟩) zs).trans s1
  have n0' := (hb3.cell (p := ⟨bn, 0, none⟩) zn).trans n0
  have r0' := (hb3.cell (p := ⟨br, 0, none⟩) zr).trans r0
  have r1' := (hb3.cell (p := ⟨br, 1, none⟩) zr).trans r1
  have rf0' := (hb3.frozen (p := ⟨br, 0, none⟩) zr).trans rf0
  have rf1' := (hb3.frozen (p := ⟨br, 1, none⟩) zr).trans rf1
  have hr3 := (hr2.below hb3).more hb3.size
  have zs3 : bs < w3.heap.size := Nat.lt_of_lt_of_le zs hb3.size
  have zn3 : bn < w3.heap.size := Nat.lt_of_lt_of_le zn hb3.size
  have zr3 : br < w3.heap.size := Nat.lt_of_lt_of_le zr hb3.size
  clear s0 s1 n0 r0 r1 rf0 rf1 hr2 zs zn zr hb3 hb2
  have hcle := check_le id l
  have sa3 : w3.cell? ⟨bs, 0, none⟩ = some (.int .u32 (id.toNat : Int)) := s0'
  have sb3 : w3.cell? ⟨bs, 1, none⟩ = some (.slice A l.length c) := s1'
  have na3 : w3.cell? ⟨bn, 0, none⟩ = some (.string name) := n0'
  have r03 : w3.cell? ⟨br, 0, none⟩ = some (.int .u32 0) := r0'
  have r13 : w3.cell? ⟨br, 1, none⟩ = some (.slice none 0 0) := r1'
  have f03 := rf0'
  have f13 := rf1'
  clear s0' s1' n0' r0' r1' rf0' rf1'
  by_cases hck : check id l = 0
  · obtain ⟨hid1, hl1, hl8⟩ := check_len hck
    have t1 : ((check id l : Int) != 0) = false := by rw [hck]; rfl
    have HCK := hide hck
    obtain ⟨m, hm⟩ : ∃ m, m = l.length - 1 := ⟨_, rfl⟩
    have hml : m < l.length := by omega
    have hm1 : ((l.length : Int) - 1) = (m : Int) := by omega
    obtain ⟨b, off, rfl, hb, f0, f1, f2, f3⟩ := hr3.fd hml
    obtain ⟨f, hff⟩ : ∃ f, f = l.getD m default := ⟨_, rfl⟩
    rw [← hff] at f0 f1 f2 f3
    have hlid : lastId l = f.id.toNat := by unfold lastId; rw [← hm, ← hff]
    have hlidb : f.id.toNat < 4294967296 := f.id.toNat_lt
    clear hm hff hcle
    generalize check id l = ck at t1
    obtain ⟨lid, hld⟩ : ∃ lid, lid = f.id.toNat := ⟨_, rfl⟩
    rw [← hld] at f0 hlid hlidb
    have HLD := hide hlid
    clear hlid hld
    have hBsz := hB3.size
    have hzz : bs ≤ w3.heap.size := Nat.le_of_lt zs3
    by_cases g8 : l.length = 8
    · have y1 : decide ((8 : Int) ≤ (l.length : Int)) = true := decide_eq_true (by omega)
      obtain ⟨q1, q2, q3⟩ := add_4 (name := name) (k := k) HCK.out (by left; exact g8)
      have HG := hide g8
      clear g8
      have HQ := hide (And.intro q1 (And.intro q2 q3))
      clear q1 q2 q3
      go_wp2_with fail
      (try simp only [Exit.inBlock, Exit.then])
      refine bodyPost_ret (ret_sch (b := br) (x := .int .u32 0) (y := .slice none 0 0) rfl _ _ rfl (set2a w3 br _ _ _ _ zr3 r03 r13 _).1 (set2a w3 br _ _ _ _ zr3 r03 r13 _).2) rfl ?_
      exact AddEnd.bad HQ.out.1 HQ.out.2.1 HQ.out.2.2 (by rw [HZ.out.1]; first | exact (below_set2 hB3 br zbr _ _).alloc (by simp; omega) _)
    · have y1 : decide ((8 : Int) ≤ (l.length : Int)) = false := decide_eq_false (by omega)
      by_cases gl : lid = 4294967295
      · have y2 : ((lid : Int) == 4294967295) = true := by rw [beq_iff_eq]; omega
        obtain ⟨q1, q2, q3⟩ := add_4 (name := name) (k := k) HCK.out (by right; left; rw [HLD.out]; exact gl)
        have HQ := hide (And.intro q1 (And.intro q2 q3))
        clear q1 q2 q3
        have HG := hide gl
        clear gl
        go_wp2_with fail
        (try simp only [Exit.inBlock, Exit.then])
        refine bodyPost_ret (ret_sch (b := br) (x := .int .u32 0) (y := .slice none 0 0) rfl _ _ rfl (set2a w3 br _ _ _ _ zr3 r03 r13 _).1 (set2a w3 br _ _ _ _ zr3 r03 r13 _).2) rfl ?_
        exact AddEnd.bad HQ.out.1 HQ.out.2.1 HQ.out.2.2 (by rw [HZ.out.1]; first | exact (below_set2 hB3 br zbr _ _).alloc (by simp; omega) _)
      · have y2 : ((lid : Int) == 4294967295) = false := by rw [beq_eq_false_iff_ne]; omega
        by_cases gi : id.toNat = 4294967295
        · have y3 : ((id.toNat : Int) == 4294967295) = true := by rw [beq_iff_eq]; omega
          obtain ⟨q1, q2, q3⟩ := add_4 (name := name) (k := k) HCK.out (by right; right; exact gi)
          have HQ := hide (And.intro q1 (And.intro q2 q3))
          clear q1 q2 q3
          have HG := hide gi
          clear gi gl
          go_wp2_with fail
          (try simp only [Exit.inBlock, Exit.then])
          refine bodyPost_ret (ret_sch (b := br) (x := .int .u32 0) (y := .slice none 0 0) rfl _ _ rfl (set2a w3 br _ _ _ _ zr3 r03 r13 _).1 (set2a w3 br _ _ _ _ zr3 r03 r13 _).2) rfl ?_
          exact AddEnd.bad HQ.out.1 HQ.out.2.1 HQ.out.2.2 (by rw [HZ.out.1]; first | exact (below_set2 hB3 br zbr _ _).alloc (by simp; omega) _)
        · have y3 : ((id.toNat : Int) == 4294967295) = false := by rw [beq_eq_false_iff_ne]; omega
          have h4 : Hid (¬ (l.length = 8 ∨ lastId l = 4294967295 ∨ id.toNat = 4294967295)) := hide (by rw [HLD.out]; omega)
          have hlid2 : lid + 1 < 4294967296 := by omega
          have hid2 : id.toNat + 1 < 4294967296 := by omega
          clear g8 gl gi
          go_wp2_with fail
          obtain ⟨w4, hw4⟩ : ∃ w4, w4 = w3.alloc (.cells #[.int .u32 (lid : Int), .string f.name, .int .u8 (f.kind.toNat : Int), .bool f.need] 96) := ⟨_, rfl⟩
          have xb := box_new w3 #[.int .u32 (lid : Int), .string f.name, .int .u8 (f.kind.toNat : Int), .bool f.need] 96
          rw [← hw4] at xb ⊢
          have l4 := xb.cell 0 _ rfl
          have zl4 : w3.heap.size < w4.heap.size := by have := xb.size; omega
          have hb34 := xb.below
          have sa4 := (hb34.cell (p := ⟨bs, 0, none⟩) zs3).trans sa3
          have sb4 := (hb34.cell (p := ⟨bs, 1, none⟩) zs3).trans sb3
          have na4 := (hb34.cell (p := ⟨bn, 0, none⟩) zn3).trans na3
          have r04 := (hb34.cell (p := ⟨br, 0, none⟩) zr3).trans r03
          have r14 := (hb34.cell (p := ⟨br, 1, none⟩) zr3).trans r13
          have f04 := (hb34.frozen (p := ⟨br, 0, none⟩) zr3).trans f03
          have f14 := (hb34.frozen (p := ⟨br, 1, none⟩) zr3).trans f13
          have zs4 := Nat.lt_of_lt_of_le zs3 hb34.size
          have zn4 := Nat.lt_of_lt_of_le zn3 hb34.size
          have zr4 := Nat.lt_of_lt_of_le zr3 hb34.size
          have hB4 : Below bs w w4 := below_call hB3 hzz hb34
          have hr4 := (hr3.below hb34).more hb34.size
          obtain ⟨bl, hbl⟩ : ∃ bl, bl = w3.heap.size := ⟨_, rfl⟩
          rw [← hbl] at l4 zl4 ⊢
          clear hw4 xb hbl hb34 sa3 sb3 na3 r03 r13 f03 f13 zs3 zn3 zr3 hr3 f0 f1 f2 f3 hB3 hBsz hzz hb
          refine (schNamed w4 name).mono ?_
          rintro e w5 ⟨rfl, hb5⟩
          have sa5 := (hb5.cell (p := ⟨bs, 0, none⟩) zs4).trans sa4
          have sb5 := (hb5.cell (p := ⟨bs, 1, none⟩) zs4).trans sb4
          have na5 := (hb5.cell (p := ⟨bn, 0, none⟩) zn4).trans na4
          have r05 := (hb5.cell (p := ⟨br, 0, none⟩) zr4).trans r04
          have r15 := (hb5.cell (p := ⟨br, 1, none⟩) zr4).trans r14
          have f05 := (hb5.frozen (p := ⟨br, 0, none⟩) zr4).trans f04
          have f15 := (hb5.frozen (p := ⟨br, 1, none⟩) zr4).trans f14
          have zs5 := Nat.lt_of_lt_of_le zs4 hb5.size
          have zn5 := Nat.lt_of_lt_of_le zn4 hb5.size
          have zr5 := Nat.lt_of_lt_of_le zr4 hb5.size
          have l5 := (hb5.cell (p := ⟨bl, 0, none⟩) zl4).trans l4
          have zl5 := Nat.lt_of_lt_of_le zl4 hb5.size
          have hB5 : Below bs w w5 := below_call hB4 (Nat.le_of_lt zs4) hb5
          have hr5 := (hr4.below hb5).more hb5.size
          clear sa4 sb4 na4 r04 r14 f04 f14 zs4 zn4 zr4 l4 zl4 hB4 hr4 hb5
          obtain ⟨hv, hhas⟩ : ∃ hv, hv = hasName l name := ⟨_, rfl⟩
          have hcon2 : Calls Try.prog 52 #[.slice (some ⟨b, off, none⟩) l.length c, .func (.func 53) #[] #[.pointer (some ⟨bn, 0, none⟩)]] w5 fun e w' => e = .returned (.bool hv) ∧ Below w5.heap.size w5 w' := by
            rw [hhas]
            exact containsF w5 _ l.length c _ l hr5 (Nat.le_refl _) (by omega) 53 #[.pointer (some ⟨bn, 0, none⟩)] _ enter53 (predName2 w5 bn name zn5 na5)
          have HHAS := hide hhas
          clear hhas
          cases hnm : named name with
          | false =>
            obtain ⟨q1, q2, q3⟩ := add_80 (name := name) (k := k) HCK.out h4.out (by rw [hnm]; rfl)
            have HQ := hide (And.intro q1 (And.intro q2 q3))
            clear q1 q2 q3 hcon2
            go_wp2_with fail
            (try simp only [Exit.inBlock, Exit.then])
            refine bodyPost_ret (ret_sch (b := br) (x := .int .u32 0) (y := .slice none 0 0) rfl _ _ rfl (set2 w5 br _ _ _ _ r05 r15).1 (set2 w5 br _ _ _ _ r05 r15).2) rfl ?_
            exact AddEnd.bad HQ.out.1 HQ.out.2.1 HQ.out.2.2 (by rw [HZ.out.1]; exact below_set2 hB5 br zbr _ _)
          | true =>
            go_wp2_with fail
            refine hcon2.mono ?_
            rintro e w8 ⟨rfl, hb8⟩
            have sa8 := (hb8.cell (p := ⟨bs, 0, none⟩) zs5).trans sa5
            have sb8 := (hb8.cell (p := ⟨bs, 1, none⟩) zs5).trans sb5
            have na8 := (hb8.cell (p := ⟨bn, 0, none⟩) zn5).trans na5
            have r08 := (hb8.cell (p := ⟨br, 0, none⟩) zr5).trans r05
            have r18 := (hb8.cell (p := ⟨br, 1, none⟩) zr5).trans r15
            have f08 := (hb8.frozen (p := ⟨br, 0, none⟩) zr5).trans f05
            have f18 := (hb8.frozen (p := ⟨br, 1, none⟩) zr5).trans f15
            have zs8 := Nat.lt_of_lt_of_le zs5 hb8.size
            have zn8 := Nat.lt_of_lt_of_le zn5 hb8.size
            have zr8 := Nat.lt_of_lt_of_le zr5 hb8.size
            have l8 := (hb8.cell (p := ⟨bl, 0, none⟩) zl5).trans l5
            have zl8 := Nat.lt_of_lt_of_le zl5 hb8.size
            have hB8 : Below bs w w8 := below_call hB5 (Nat.le_of_lt zs5) hb8
            have hr8 := (hr5.below hb8).more hb8.size
            clear hcon2 sa5 sb5 na5 r05 r15 f05 f15 zs5 zn5 zr5 l5 zl5 hB5 hr5 hb8
            have hhas := HHAS.out.symm
            cases hv with
            | true =>
              obtain ⟨q1, q2, q3⟩ := add_80 (name := name) (k := k) HCK.out h4.out (by rw [hnm, hhas]; rfl)
              have HQ := hide (And.intro q1 (And.intro q2 q3))
              clear q1 q2 q3
              go_wp2_with fail
              (try simp only [Exit.inBlock, Exit.then])
              refine bodyPost_ret (ret_sch (b := br) (x := .int .u32 0) (y := .slice none 0 0) rfl _ _ rfl (set2 w8 br _ _ _ _ r08 r18).1 (set2 w8 br _ _ _ _ r08 r18).2) rfl ?_
              exact AddEnd.bad HQ.out.1 HQ.out.2.1 HQ.out.2.2 (by rw [HZ.out.1]; exact below_set2 hB8 br zbr _ _)
            | false =>
              have h80 : Hid ((!named name || hasName l name) = false) := hide (by rw [hnm, hhas]; rfl)
              clear hnm hhas
              go_wp2_with fail
              refine (schRight w8 k hk).mono ?_
              rintro e w9 ⟨rfl, rfl⟩
              by_cases g1 : k < 1 ∨ 3 < k
              · rw [decide_eq_false (show ¬ (1 ≤ k ∧ k ≤ 3) by omega)]
                obtain ⟨q1, q2, q3⟩ := add_10 (name := name) (k := k) HCK.out h4.out h80.out g1
                have HQ := hide (And.intro q1 (And.intro q2 q3))
                clear q1 q2 q3 g1
                go_wp2_with fail
                (try simp only [Exit.inBlock, Exit.then])
                refine bodyPost_ret (ret_sch (b := br) (x := .int .u32 0) (y := .slice none 0 0) rfl _ _ rfl (set2 w8 br _ _ _ _ r08 r18).1 (set2 w8 br _ _ _ _ r08 r18).2) rfl ?_
                exact AddEnd.bad HQ.out.1 HQ.out.2.1 HQ.out.2.2 (by rw [HZ.out.1]; exact below_set2 hB8 br zbr _ _)
              · rw [decide_eq_true (show 1 ≤ k ∧ k ≤ 3 by omega)]
                obtain ⟨q1, q2, q3⟩ := add_0 (name := name) (k := k) HCK.out h4.out h80.out g1
                have HQ := hide (And.intro q1 (And.intro q2 q3))
                clear q1 q2 q3 g1
                have hwrap : IntKind.u32.wrap ((lid : Int) + 1) = ((lid + 1 : Nat) : Int) := by rw [IntKind.wrap_u32]; omega
                have hnf : (#[.int .u32 ((lid + 1 : Nat) : Int), .string name, .int .u8 (k : Int), .bool false] : Array Value).toList = fdV (newFd l name k) := by rw [newFd_V l name k (by rw [HLD.out]; exact hlid2) hk, HLD.out]
                have hid3 : ((id.toNat : Int) + 1) % 4294967296 = ((id.toNat + 1 : Nat) : Int) := by omega
                go_wp2_with fail
                refine wp_region_abs_tail 10 ext_grow (by kernel_rfl) (by kernel_rfl) ?_
                simp only [List.map_cons, List.map_nil, List.take_succ_cons, List.take_zero, List.drop_succ_cons, List.drop_zero]
                refine wpA_value ext_grow ?_ (fun _ _ h => by cases h) rfl rfl ?_ ?_
                rotate_left 1
                · intro w' hw' C hC
                  go_simp
                  try go_bits
                  exact hC
                simp only [putS, List.set_cons_succ, List.set_cons_zero]
                refine wpA_value ext_grow ?_ (fun _ _ h => by cases h) rfl rfl ?_ ?_
                rotate_left 1
                · intro w' hw' C hC
                  have q := (hw'.cell (p := ⟨bs, 1, none⟩) zs8).trans sb8
                  go_simp
                  try go_bits
                  exact hC
                simp only [putS, List.set_cons_succ, List.set_cons_zero]
                refine wpA_known (.has (OwnF w8.heap.size (fdsV l))) (fun _ _ h => by cases h) rfl rfl (mono_ownF _ _) (fun w' hw' => ?_) ?_
                · go_simp
                  exact ⟨Below.refl _ _, (cloneF w' w8.heap.size l.length c (some ⟨b, off, none⟩) _ (hr8.keep fun p hp => hw'.cell hp) (fdsV_one l) (by omega) hw'.size).mono fun e w'' h => ownF_ret h hw'.size⟩
                simp only [putS, List.set_cons_succ, List.set_cons_zero]
                refine wpA_value ext_grow ?_ (fun _ _ h => by cases h) rfl rfl ?_ ?_
                rotate_left 1
                · intro w' hw' C hC
                  go_simp
                  try go_bits
                  exact hC
                simp only [putS, List.set_cons_succ, List.set_cons_zero]
                refine wpA_value ext_grow ?_ (fun _ _ h => by cases h) rfl rfl ?_ ?_
                rotate_left 1
                · intro w' hw' C hC
                  have q := (hw'.cell (p := ⟨bl, 0, none⟩) zl8).trans l8
                  go_simp
                  try go_bits
                  exact hC
                simp only [putS, List.set_cons_succ, List.set_cons_zero]
                refine wpA_value ext_grow ?_ (fun _ _ h => by cases h) rfl rfl ?_ ?_
                rotate_left 1
                · intro w' hw' C hC
                  have q := hwrap
                  go_simp
                  try go_bits
                  exact hC
                simp only [putS, List.set_cons_succ, List.set_cons_zero]
                refine wpA_value ext_grow ?_ (fun _ _ h => by cases h) rfl rfl ?_ ?_
                rotate_left 1
                · intro w' hw' C hC
                  have q := (hw'.cell (p := ⟨bn, 0, none⟩) zn8).trans na8
                  go_simp
                  try go_bits
                  exact hC
                simp only [putS, List.set_cons_succ, List.set_cons_zero]
                refine wpA_value ext_grow ?_ (fun _ _ h => by cases h) rfl rfl ?_ ?_
                rotate_left 1
                · intro w' hw' C hC
                  go_simp
                  try go_bits
                  exact hC
                simp only [putS, List.set_cons_succ, List.set_cons_zero]
                refine wpA_value ext_grow ?_ (fun _ _ h => by cases h) rfl rfl ?_ ?_
                rotate_left 1
                · intro w' hw' C hC
                  go_simp
                  try go_bits
                  exact hC
                simp only [putS, List.set_cons_succ, List.set_cons_zero]
                refine wpA_known (.has (LitF (fdV (newFd l name k)))) (fun _ _ h => by cases h) rfl rfl (mono_litF _) (fun w' hw' => ?_) ?_
                · go_simp
                  exact ⟨(Below.refl _ _).alloc (Nat.le_refl _) _, litF_new w' _ hnf rfl⟩
                simp only [putS, List.set_cons_succ, List.set_cons_zero]
                intro wA hwA
                simp only [openS]
                intro vo hvo vl hvl
                obtain ⟨no, eo, ho⟩ := hvo
                obtain ⟨Al, rfl, hl⟩ := hvl
                obtain rfl : no = l.length := by rw [fdsV_length] at eo; omega
                have hbA : Below w8.heap.size w8 wA := below_of_drew hwA
                have hone : ∀ u ∈ fdV (newFd l name k), u.oneCell' = true := fun u hu => fdsV_one [newFd l name k] u (by simpa [fdsV] using hu)
                go_wp2_with (at_builtin; refine wpList_app _ tyFields rfl (.tmp 59) (.tmp 66) rfl w8.heap.size _ _ _ rfl ho wA.heap.size Al _ 1 _ rfl hl hone (by omega) hbA.size ?_; intro v2 wB hown hg _; have hbB := below_app hbA (Nat.le_refl _) ho hg hbA.size; have saB := (hbB.cell (p := ⟨bs, 0, none⟩) zs8).trans sa8; have r0B := (hbB.cell (p := ⟨br, 0, none⟩) zr8).trans r08; have r1B := (hbB.cell (p := ⟨br, 1, none⟩) zr8).trans r18; have f0B := (hbB.frozen (p := ⟨br, 0, none⟩) zr8).trans f08; have f1B := (hbB.frozen (p := ⟨br, 1, none⟩) zr8).trans f18; clear ho hg hl; obtain ⟨gv, capv, rfl, _, _⟩ := hown.form (Nat.succ_pos _))
                (try simp only [Exit.inBlock, Exit.then])
                refine bodyPost_ret (ret_sch (b := br) (x := .int .u32 ((id.toNat + 1 : Nat) : Int)) (y := .slice (some ⟨gv, 0, none⟩) (l.length + 1) capv) rfl _ _ rfl (set2 wB br _ _ _ _ r0B r1B).1 (set2 wB br _ _ _ _ r0B r1B).2) rfl ?_
                have hown3 := ownsRow_setCell_below (ownsRow_setCell_below hown (a := ⟨br, 0, none⟩) zr8 (.int .u32 ((id.toNat + 1 : Nat) : Int))) (a := ⟨br, 1, none⟩) zr8 (.slice (some ⟨gv, 0, none⟩) (l.length + 1) capv)
                have hfin : fdsV l ++ fdV (newFd l name k) = fdsV (l ++ [newFd l name k]) := by rw [fdsV_append]; simp [fdsV]
                rw [hfin] at hown3
                obtain ⟨Ao, co, hAo, hro⟩ := Rd.of_own hown3
                injection hAo with q1 q2 q3
                subst q1 q3
                refine ⟨_, by rw [HQ.out.1]; rfl, ?_, by rw [HZ.out.1]; exact below_set2 (below_call hB8 (Nat.le_of_lt zs8) hbB) br zbr _ _⟩
                rw [HQ.out.2.1, HQ.out.2.2]
                refine ⟨some ⟨gv, 0, none⟩, capv, ?_, ?_⟩
                · rw [ofNat32 hid2, List.length_append]; rfl
                · rw [List.length_append]; exact hro
  · obtain ⟨q1, q2, q3⟩ := add_check (name := name) (k := k) hck
    have HQ := hide (And.intro q1 (And.intro q2 q3))
    clear q1 q2 q3
    have t1 : ((check id l : Int) != 0) = true := by rw [bne_iff_ne]; omega
    generalize check id l = ck at *
    go_wp2_with fail
    (try simp only [Exit.inBlock, Exit.then])
    refine bodyPost_ret (ret_sch (b := br) (x := .int .u32 0) (y := .slice none 0 0) rfl _ _ rfl (set2 w3 br _ _ _ _ r03 r13).1 (set2 w3 br _ _ _ _ r03 r13).2) rfl ?_
    exact AddEnd.bad HQ.out.1 HQ.out.2.1 HQ.out.2.2 (by rw [HZ.out.1]; exact below_set2 hB3 br zbr _ _)
end Go.Proofs.Ytlccpchlclpnaaa
