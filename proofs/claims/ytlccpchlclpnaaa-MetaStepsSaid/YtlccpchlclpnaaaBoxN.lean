/- BOXES: a block of one's own whose cells are known; what leaves it as it is. No statement of the seat is proved here; no condition. -/
import Derived.Test.YtlccpchlclpnaaaRdr
namespace Go.Proofs.Ytlccpchlclpnaaa
open Go.RowKit

structure BoxN (w : World) (b : Nat) (cs : List Value) : Prop where
  cell : ∀ j v, cs[j]? = some v → w.cell? ⟨b, j, none⟩ = some v
  free : ∀ j, j < cs.length → w.frozen? ⟨b, j, none⟩ = false
  z : b < w.heap.size
section
variable {w w' : World} {b : Nat} {cs : List Value}
theorem boxN_new (w : World) (cs : Array Value) (t : TypeId) : BoxN (w.alloc (.cells cs t)) w.heap.size cs.toList := by
  have x := box_new w cs t
  exact ⟨fun j v h => x.cell j v (by simpa using h), fun j _ => x.free j, by rw [x.size]; omega⟩
theorem BoxN.keep (h : BoxN w b cs) {B : Nat} (hb : Below B w w') (hz : b < B) : BoxN w' b cs :=
  ⟨fun j v hj => (hb.cell (p := ⟨b, j, none⟩) hz).trans (h.cell j v hj), fun j hj => (hb.frozen (p := ⟨b, j, none⟩) hz).trans (h.free j hj), Nat.lt_of_lt_of_le h.z hb.size⟩
theorem BoxN.oth (h : BoxN w b cs) {b2 : Nat} (ho : Oth b2 w w') (hne : b ≠ b2) : BoxN w' b cs :=
  ⟨fun j v hj => (ho.cell (p := ⟨b, j, none⟩) h.z hne).trans (h.cell j v hj), fun j hj => (ho.frozen (p := ⟨b, j, none⟩) h.z hne).trans (h.free j hj), Nat.lt_of_lt_of_le h.z ho.size⟩
theorem BoxN.set (h : BoxN w b cs) {j : Nat} (x : Value) {u : Value} (hj : cs[j]? = some u) : BoxN (w.setCell ⟨b, j, none⟩ x) b (cs.set j x) := by
  have cu := h.cell j u hj
  have hjl : j < cs.length := (List.getElem?_eq_some_iff.1 hj).1
  refine ⟨fun i v hi => ?_, fun i hi => ?_, by simpa using h.z⟩
  · by_cases hij : j = i
    · subst hij
      have : v = x := by rw [List.getElem?_set_self hjl] at hi; exact (Option.some.inj hi).symm
      subst this
      go_simp
    · rw [List.getElem?_set_ne hij] at hi
      rw [World.cell?_setCell_other]
      · exact h.cell i v hi
      · intro q; injection q with _ q; exact hij q
  · have := h.free i (by simpa using hi)
    go_simp
theorem BoxN.else (h : BoxN w b cs) {p : Addr} (hp : p.block ≠ b) (x : Value) : BoxN (w.setCell p x) b cs := by
  refine ⟨fun i v hi => ?_, fun i hi => ?_, by simpa using h.z⟩
  · rw [World.cell?_setCell_other]
    · exact h.cell i v hi
    · intro q; exact hp (by rw [q])
  · have := h.free i hi
    go_simp
end
theorem RdrA.keepB {w w' : World} {b c : Nat} {A : Option Addr} {l : List UInt8} {e B : Nat} (h : RdrA w b A c l e) (hb : Below B w w') (hz : b < B) : RdrA w' b A c l e where
  c0 := (hb.cell (p := ⟨b, 0, none⟩) hz).trans h.c0
  c1 := (hb.cell (p := ⟨b, 1, none⟩) hz).trans h.c1
  f0 := (hb.frozen (p := ⟨b, 0, none⟩) hz).trans h.f0
  f1 := (hb.frozen (p := ⟨b, 1, none⟩) hz).trans h.f1
  z := Nat.lt_of_lt_of_le h.z hb.size
  rd := h.rd.below' hb (Nat.le_of_lt hz)
theorem Oth.belowB {b B : Nat} {w w' : World} (h : Oth b w w') (hB : B ≤ b) (hz : B ≤ w.heap.size) : Below B w w' := ⟨h.os, h.tape, h.output, h.size, fun k hk => h.block k (by omega) (by omega)⟩

/-! ### what Unpack and the document's Schema give -/
def uId (l : List UInt8) : UInt32 := if (rdS l 0).err = 0 then (rdS l 0).id else 0
def uFs (l : List UInt8) : List Fd := if (rdS l 0).err = 0 then (rdS l 0).fs else []
def uLeft (l : List UInt8) : List UInt8 := if (rdS l 0).err = 0 then (rdS l 0).left else []
def UnpEnd (w : World) (l : List UInt8) (e : Ending) (w' : World) : Prop :=
  ∃ F fc A c, e = .returned (.tuple #[.agg #[.int .u32 ((uId l).toNat : Int), .slice F (uFs l).length fc], .slice A (uLeft l).length c, .int .i64 ((rdS l 0).err : Int)]) ∧
    Rd w' w'.heap.size 4 F (uFs l).length fc (fdsV (uFs l)) ∧ Rd w' w'.heap.size 1 A (uLeft l).length c (bytesV (uLeft l)) ∧ Below w.heap.size w w'
theorem results_cell_tmp2 {fn : Func} {p u u2 : Tmp} {ty : TypeId} (h : fn.results = #[.cell p ty, .tmp u, .tmp u2]) (tmps : Array Value) (P : Program) (w : World) :
    (results fn tmps).run P w =
      ((asAddr (tmps.getD p undef)).run P w).andThen fun a w₁ => ((loadVar ty a).run P w₁).andThen fun v w₂ => .ok (.tuple #[v, tmps.getD u undef, tmps.getD u2 undef]) w₂ := by
  simp only [results, h]
  simp [Sem.run_bind, Result.andThen]
theorem ret_sch3 {fn : Func} {p u u2 : Tmp} (h : fn.results = #[.cell p 25, .tmp u, .tmp u2]) (tmps : Array Value) (w : World) {b : Nat} {x y : Value} (hp : tmps.getD p undef = .pointer (some ⟨b, 0, none⟩)) (c0 : w.cell? ⟨b, 0, none⟩ = some x) (c1 : w.cell? ⟨b, 1, none⟩ = some y) :
    (results fn tmps).run Try.prog w = .ok (.tuple #[.agg #[x, y], tmps.getD u undef, tmps.getD u2 undef]) w := by
  rw [results_cell_tmp2 h, hp]
  have := load_sch w b x y c0 c1
  simp [asAddr, Result.andThen, this]
theorem results_cell {fn : Func} {p : Tmp} {ty : TypeId} (h : fn.results = #[.cell p ty]) (tmps : Array Value) (P : Program) (w : World) :
    (results fn tmps).run P w =
      ((asAddr (tmps.getD p undef)).run P w).andThen fun a w₁ => (loadVar ty a).run P w₁ := by
  simp only [results, h]
  simp [Sem.run_bind, Result.andThen]
theorem ret_sch1 {fn : Func} {p : Tmp} (h : fn.results = #[.cell p 25]) (tmps : Array Value) (w : World) {b : Nat} {x y : Value} (hp : tmps.getD p undef = .pointer (some ⟨b, 0, none⟩)) (c0 : w.cell? ⟨b, 0, none⟩ = some x) (c1 : w.cell? ⟨b, 1, none⟩ = some y) :
    (results fn tmps).run Try.prog w = .ok (.agg #[x, y]) w := by
  rw [results_cell h, hp]
  have := load_sch w b x y c0 c1
  simp [asAddr, Result.andThen, this]

/-! ### what holds at each round -/
structure GU (w0 : World) (B0 br bs : Nat) (uid : UInt32) (A : Option Addr) (c : Nat) (l : List UInt8) (e : Nat) (fA : Option Addr) (fc : Nat) (fs : List Fd) (wr : World) : Prop where
  rd : RdrA wr br A c l e
  bx : BoxN wr bs [.int .u32 (uid.toNat : Int), .slice fA fs.length fc]
  own : wr.ownsRow (bs + 1) 96 4 (.slice fA fs.length fc) fs.length (fdsV fs)
  rb : BoxN wr B0 [.int .u32 0, .slice none 0 0]
  oth : Oth br w0 wr
  o1 : br < bs
  o2 : B0 < bs
  o3 : B0 ≠ br
  o4 : w0.heap.size ≤ bs
section
variable {w0 wr w7 : World} {B0 br bs c fc e : Nat} {uid : UInt32} {A fA : Option Addr} {l : List UInt8} {fs : List Fd}
/-- the reader has gone on; all else is as it was -/
theorem GU.go (h : GU w0 B0 br bs uid A c l e fA fc fs wr) {A2 : Option Addr} {c2 : Nat} {l2 : List UInt8} {e2 : Nat} (hr : RdrA w7 br A2 c2 l2 e2) (ho : Oth br wr w7) : GU w0 B0 br bs uid A2 c2 l2 e2 fA fc fs w7 :=
  ⟨hr, h.bx.oth ho (by have := h.o1; omega), own_oth h.own ho (by have := h.o1; omega), h.rb.oth ho h.o3, h.oth.trans ho, h.o1, h.o2, h.o3, h.o4⟩
theorem GU.lit (h : GU w0 B0 br bs uid A c l e fA fc fs wr) (f : Fd) {cs : Array Value} (hcs : cs.toList = fdV f) (hs : cs.size = 1 * 4) :
    (wr.alloc (.cells cs 96)).ownsRow (bs + 1) 96 4 (.slice fA fs.length fc) fs.length (fdsV fs) ∧ Rd (wr.alloc (.cells cs 96)) (wr.heap.size + 1) 4 (some ⟨wr.heap.size, 0, none⟩) 1 1 (fdV f) := by
  refine ⟨h.own.alloc _, ?_⟩
  have := Rd.lit wr 96 cs (n := 1) (sz := 4) hs (by decide)
  rw [hcs] at this
  exact this
theorem GU.grown (h : GU w0 B0 br bs uid A c l e fA fc fs wr) {f : Fd} {cs : Array Value} {w8 : World} {v : Value} (hown : w8.ownsRow (bs + 1) 96 4 v (fs.length + 1) (fdsV fs ++ fdV f))
    (hg : (wr.alloc (.cells cs 96)).grownBy w8 (Value.slice fA fs.length fc).ownBlock) :
    ∃ g cap, v = .slice (some ⟨g, 0, none⟩) (fs.length + 1) cap ∧ w8.cell? ⟨bs, 1, none⟩ = some (.slice fA fs.length fc) ∧ w8.frozen? ⟨bs, 1, none⟩ = false ∧
      GU w0 B0 br bs uid A c l e (some ⟨g, 0, none⟩) cap (fs ++ [f]) (w8.setCell ⟨bs, 1, none⟩ (.slice (some ⟨g, 0, none⟩) (fs.length + 1) cap)) := by
  have hz := h.bx.z
  have h1 := h.o1
  have h2 := h.o2
  have hb : Below (bs + 1) wr w8 := below_app ((Below.refl (bs + 1) wr).alloc (by omega) (.cells cs 96)) (Nat.le_refl _) (h.own.alloc _) hg (by simp; omega)
  obtain ⟨g, cap, rfl, _, _⟩ := hown.form (Nat.succ_pos _)
  have bx := h.bx.keep hb (Nat.lt_succ_self bs)
  have e1 : (fs ++ [f]).length = fs.length + 1 := by simp
  have e2 : fdsV fs ++ fdV f = fdsV (fs ++ [f]) := by rw [fdsV_append]; simp [fdsV]
  refine ⟨g, cap, rfl, bx.cell 1 _ rfl, bx.free 1 (by simp), ?_, ?_, ?_, ?_, ?_, h1, h2, h.o3, h.o4⟩
  · exact (h.rd.keepB hb (by omega)).elsewhere h1 _
  · rw [e1]; exact bx.set _ rfl
  · rw [e1, ← e2]; exact ownsRow_setCell_below hown (Nat.lt_succ_self _) _
  · exact (h.rb.keep hb (by omega)).else (by show bs ≠ B0; omega) _
  · refine Oth.setNew ?_ h.o4 _
    have ho := h.oth
    exact ⟨hb.os.trans ho.os, hb.tape.trans ho.tape, hb.output.trans ho.output, Nat.le_trans ho.size hb.size, fun k hk hne => (hb.block k (by have := h.o4; omega)).trans (ho.block k hk hne)⟩
theorem GU.rdF (h : GU w0 B0 br bs uid A c l e fA fc fs wr) : Rd wr wr.heap.size 4 fA fs.length fc (fdsV fs) := by
  obtain ⟨A', c', q, hr⟩ := Rd.of_own h.own
  injection q with q1 q2 q3
  subst q1 q3
  exact hr
theorem GU.call (h : GU w0 B0 br bs uid A c l e fA fc fs wr) (hb : Below wr.heap.size wr w7) : GU w0 B0 br bs uid A c l e fA fc fs w7 := h.go (h.rd.keep hb) (.of hb)
theorem GU.why (h : GU w0 B0 br bs uid A c l e fA fc fs wr) (e2 : Nat) : GU w0 B0 br bs uid A c l e2 fA fc fs (wr.setCell ⟨br, 1, none⟩ (.int .i64 (e2 : Int))) := h.go (h.rd.set1 e2) ((Oth.refl br wr).set 1 _)
/-- the schema is laid into the result -/
theorem GU.fin (h : GU w0 B0 br bs uid A c l e fA fc fs wr) (x y : Value) :
    Rd ((wr.setCell ⟨B0, 0, none⟩ x).setCell ⟨B0, 1, none⟩ y) ((wr.setCell ⟨B0, 0, none⟩ x).setCell ⟨B0, 1, none⟩ y).heap.size 4 fA fs.length fc (fdsV fs) ∧ (br < B0 → RdrA ((wr.setCell ⟨B0, 0, none⟩ x).setCell ⟨B0, 1, none⟩ y) br A c l e) ∧
      (w0.heap.size ≤ B0 → Oth br w0 ((wr.setCell ⟨B0, 0, none⟩ x).setCell ⟨B0, 1, none⟩ y)) ∧ ((wr.setCell ⟨B0, 0, none⟩ x).setCell ⟨B0, 1, none⟩ y).cell? ⟨B0, 0, none⟩ = some x ∧ ((wr.setCell ⟨B0, 0, none⟩ x).setCell ⟨B0, 1, none⟩ y).cell? ⟨B0, 1, none⟩ = some y := by
  have h2 := h.o2
  obtain ⟨q0, q1⟩ := set2 wr B0 _ _ x y (h.rb.cell 0 _ rfl) (h.rb.cell 1 _ rfl)
  refine ⟨?_, fun hz => (h.rd.elsewhere (p := ⟨B0, 0, none⟩) hz x).elsewhere (p := ⟨B0, 1, none⟩) hz y, fun hz => (h.oth.setNew (p := ⟨B0, 0, none⟩) hz x).setNew (p := ⟨B0, 1, none⟩) hz y, q0, q1⟩
  obtain ⟨A', c', q, hr⟩ := Rd.of_own (ownsRow_setCell_below (ownsRow_setCell_below h.own (a := ⟨B0, 0, none⟩) (Nat.lt_succ_of_lt h2) x) (a := ⟨B0, 1, none⟩) (Nat.lt_succ_of_lt h2) y)
  injection q with q1 q2 q3
  subst q1 q3
  exact hr
end
theorem rdF_of {l l1 l3 l4 : List UInt8} {e1 e3 e4 q : Nat} {fid : UInt32} {kd : UInt8} {r : RdN} (h1 : num 4294967295 l 0 = (fid.toNat, l1, e1)) (h2 : num 16 l1 e1 = r) (h3 : num 255 (textL r) (textE r) = (kd.toNat, l3, e3)) (h4 : num 1 l3 e3 = (q, l4, e4)) :
    rdF l 0 = (⟨fid, textS r, kd, decide (q = 1)⟩, l4, e4) := by
  unfold rdF
  simp only [h1, h2, h3, h4, UInt32.ofNat_toNat, UInt8.ofNat_toNat]
theorem rdS_of {l l1 l2 l' : List UInt8} {er e1 e2 e' N : Nat} {id : UInt32} {fs : List Fd} (hA : (id.toNat, l1, e1) = num 4294967295 l er) (hN : (N, l2, e2) = num 8 l1 e1) (hQ : rdFs N l2 e2 [] = (fs, l', e')) :
    rdS l er = ⟨id, fs, l', if e' = 0 then check id fs else e'⟩ := by
  unfold rdS
  simp only [← hA, ← hN, hQ, UInt32.ofNat_toNat]
def GUR (w0 : World) (B0 br bs : Nat) (uid : UInt32) (R : List Fd × List UInt8 × Nat) (nv : Value) (wr : World) : Prop :=
  ∃ (m : Nat) (A : Option Addr) (c : Nat) (l : List UInt8) (e : Nat) (fA : Option Addr) (fc : Nat) (fs : List Fd), nv = .int .u64 (m : Int) ∧ m + fs.length ≤ 8 ∧ Hid (rdFs m l e fs = R) ∧ GU w0 B0 br bs uid A c l e fA fc fs wr
def GURr (w0 : World) (B0 br bs : Nat) (uid : UInt32) (N : Nat) (R : List Fd × List UInt8 × Nat) (nv : Value) (wr : World) : Prop :=
  ∃ (k m : Nat) (A : Option Addr) (c : Nat) (l : List UInt8) (e : Nat) (fA : Option Addr) (fc : Nat) (fs : List Fd), nv = .int .u64 (k : Int) ∧ k + m = N ∧ m + fs.length ≤ 8 ∧ Hid (rdFs m l e fs = R) ∧ GU w0 B0 br bs uid A c l e fA fc fs wr
theorem rdFs_end {m : Nat} {l : List UInt8} {e : Nat} {fs : List Fd} (h : m = 0 ∨ e ≠ 0) : rdFs m l e fs = (fs, l, e) := by
  cases m with
  | zero => rfl
  | succ m => unfold rdFs; rw [if_pos (by omega)]
theorem rdFs_on {m : Nat} {l : List UInt8} {fs : List Fd} : rdFs (m + 1) l 0 fs = rdFs m (rdF l 0).2.1 (rdF l 0).2.2 (fs ++ [(rdF l 0).1]) := by
  rw [rdFs, if_neg (by simp)]
/-- what the document's Schema leaves -/
def SchEnd (w : World) (b : Nat) (r : RdS) (e : Ending) (w' : World) : Prop :=
  ∃ F fc, e = .returned (.agg #[.int .u32 (r.id.toNat : Int), .slice F r.fs.length fc]) ∧ Rd w' w'.heap.size 4 F r.fs.length fc (fdsV r.fs) ∧ (∃ A c, RdrA w' b A c r.left r.err) ∧ Oth b w w'
/-- what reading a text leaves -/
def TextEnd (w : World) (b : Nat) (r : RdN) (e : Ending) (w' : World) : Prop :=
  e = .returned (.string (textS r)) ∧ (∃ A c, RdrA w' b A c (textL r) (textE r)) ∧ Oth b w w'
theorem text_e {r : RdN} (h : r.2.2 ≠ 0) : textE r = r.2.2 ∧ textS r = ByteArray.empty ∧ textL r = r.2.1 := by
  have h1 : textE r = r.2.2 := by unfold textE; rw [if_neg (by omega)]
  refine ⟨h1, ?_, ?_⟩
  · unfold textS; rw [if_neg (by omega)]
  · unfold textL; rw [if_neg (by omega)]
theorem text_30 {r : RdN} (h : r.2.2 = 0) (h2 : r.2.1.length < r.1) : textE r = 30 ∧ textS r = ByteArray.empty ∧ textL r = r.2.1 := by
  have h1 : textE r = 30 := by unfold textE; rw [if_pos ⟨h, h2⟩]
  refine ⟨h1, ?_, ?_⟩
  · unfold textS; rw [if_neg (by omega)]
  · unfold textL; rw [if_neg (by omega)]
theorem text_0 {r : RdN} (h : r.2.2 = 0) (h2 : ¬ r.2.1.length < r.1) : textE r = 0 ∧ textS r = ⟨(r.2.1.take r.1).toArray⟩ ∧ textL r = r.2.1.drop r.1 := by
  have h1 : textE r = 0 := by unfold textE; rw [if_neg (by omega), h]
  refine ⟨h1, ?_, ?_⟩
  · unfold textS; rw [if_pos h1]
  · unfold textL; rw [if_pos h1]
/-- the beginning of bytes, as a text -/
theorem rd_hi {w : World} {B c : Nat} {A : Option Addr} {l : List UInt8} (hr : Rd w B 1 A l.length c (bytesV l)) {hi : Nat} (hhi : hi ≤ l.length) :
    (∀ k W, (Instr.sliceAt 54 (.slice A l.length c) none (some (.int k (hi : Int))) none).run Try.prog W = .ok (.slice A hi c) W) ∧
    (∀ k W, (Instr.slice 54 (.slice A l.length c) none (some (.int k (hi : Int))) none).run Try.prog W = .ok (.slice A hi c) W) ∧
    Rd w B 1 A hi c (bytesV (l.take hi)) := by
  have hc : hi ≤ c := Nat.le_trans hhi hr.le
  refine ⟨fun k W => cut_hi tyBytes A l.length c k (hi : Int) hi rfl hc W, fun k W => run_cut_hi tyBytes A l.length c k (hi : Int) hi rfl hc W, ?_⟩
  have := hr.pre hhi
  simpa [bytesV, List.map_take] using this
end Go.Proofs.Ytlccpchlclpnaaa
