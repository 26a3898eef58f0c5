/- READERS OF BYTES: the words (a reader's box, what a reading leaves as it was), the plain laws (numbers and fields read off bytes). No statement of the seat is proved here; no condition. -/
import Derived.Test.YtlccpchlclpnaaaVarG
import Derived.Test.YtlccpchlclpnaaaSch
import Derived.Test.YtlccpchlclpnaaaSchA
import Derived.Deep.RegionHeld3
namespace Go.Proofs.Ytlccpchlclpnaaa
open Go.RowKit

/-! ### all but one block is as it was -/
structure Oth (b : Nat) (w w' : World) : Prop where
  os : w'.os = w.os
  tape : w'.tape = w.tape
  output : w'.output = w.output
  size : w.heap.size ≤ w'.heap.size
  block : ∀ k, k < w.heap.size → k ≠ b → w'.heap[k]? = w.heap[k]?
theorem Oth.refl (b : Nat) (w : World) : Oth b w w := ⟨rfl, rfl, rfl, Nat.le_refl _, fun _ _ _ => rfl⟩
theorem Oth.trans {b : Nat} {u v w : World} (h : Oth b u v) (k : Oth b v w) : Oth b u w :=
  ⟨k.os.trans h.os, k.tape.trans h.tape, k.output.trans h.output, Nat.le_trans h.size k.size, fun i hi hne => (k.block i (Nat.lt_of_lt_of_le hi h.size) hne).trans (h.block i hi hne)⟩
theorem Oth.of {b : Nat} {w w' : World} (h : Below w.heap.size w w') : Oth b w w' := ⟨h.os, h.tape, h.output, h.size, fun k hk _ => h.block k hk⟩
theorem Oth.drew {b : Nat} {u w : World} (h : Oth b u w) : Oth b u w.drew := ⟨h.os, h.tape, h.output, h.size, h.block⟩
theorem Oth.alloc {b : Nat} {u w : World} (h : Oth b u w) (o : Obj) : Oth b u (w.alloc o) := h.trans (.of ((Below.refl _ _).alloc (Nat.le_refl _) o))
theorem Oth.set {b : Nat} {u w : World} (h : Oth b u w) (j : Nat) (x : Value) : Oth b u (w.setCell ⟨b, j, none⟩ x) :=
  h.trans ⟨rfl, rfl, rfl, by simp [World.setCell], fun k _ hne => Below.heap_setCell _ _ _ _ hne⟩
/-- a store into a block that is new -/
theorem Oth.setNew {b : Nat} {u w : World} (h : Oth b u w) {p : Addr} (hp : u.heap.size ≤ p.block) (x : Value) : Oth b u (w.setCell p x) :=
  ⟨h.os, h.tape, h.output, by simp [World.setCell]; exact h.size, fun k hk hne => (Below.heap_setCell _ _ _ _ (by omega)).trans (h.block k hk hne)⟩
theorem Oth.cell {b : Nat} {w w' : World} (h : Oth b w w') {p : Addr} (hp : p.block < w.heap.size) (hne : p.block ≠ b) : w'.cell? p = w.cell? p := World.cell?_of_block (w := w) (h.block p.block hp hne)
theorem Oth.frozen {b : Nat} {w w' : World} (h : Oth b w w') {p : Addr} (hp : p.block < w.heap.size) (hne : p.block ≠ b) : w'.frozen? p = w.frozen? p := World.frozen?_of_block (w := w) (h.block p.block hp hne)
theorem Oth.below {b : Nat} {w w' : World} (h : Oth b w w') (hb : b ≤ w.heap.size) : Below b w w' := ⟨h.os, h.tape, h.output, h.size, fun k hk => h.block k (by omega) (by omega)⟩
theorem own_oth {base b : Nat} {w w' : World} {v : Value} {n : Nat} {xs : List Value} {e : TypeId} {sz : Nat} (h : w.ownsRow base e sz v n xs) (ho : Oth b w w') (hb : b < base) : w'.ownsRow base e sz v n xs := by
  refine h.kept (row := some b) ⟨ho.os, ho.tape, ho.output, ho.size, fun k hk hne => ho.block k hk (fun q => hne (by rw [q]))⟩ ?_
  cases hv : v.ownBlock with
  | none => exact .inl rfl
  | some k =>
    refine .inr fun q => ?_
    have := (h.lt k hv).1
    injection q with q
    omega

/-! ### a cut of bytes -/
theorem rd_lo {w : World} {B c : Nat} {A : Option Addr} {l : List UInt8} (hr : Rd w B 1 A l.length c (bytesV l)) {lo : Nat} (hlo : lo ≤ l.length) : ∃ A2 l2, l2 = l.drop lo ∧
    (∀ k W, (Instr.sliceAt 54 (.slice A l.length c) (some (.int k (lo : Int))) none none).run Try.prog W = .ok (.slice A2 l2.length (c - lo)) W) ∧
    (∀ k W, (Instr.slice 54 (.slice A l.length c) (some (.int k (lo : Int))) none none).run Try.prog W = .ok (.slice A2 l2.length (c - lo)) W) ∧ Rd w B 1 A2 l2.length (c - lo) (bytesV l2) := by
  refine ⟨(if c = lo then A else A.map (·.add (lo * 1))), l.drop lo, rfl, fun k W => ?_, fun k W => ?_, ?_⟩
  · rw [List.length_drop]; exact cut_lo tyBytes A l.length c k (lo : Int) lo rfl hlo hr.le W
  · rw [List.length_drop]; exact run_cut_lo tyBytes A l.length c k (lo : Int) lo rfl hlo hr.le W
  · have := hr.cut hlo (Nat.le_refl _)
    rw [List.length_drop]
    rw [List.take_of_length_le (by simp [bytesV])] at this
    simpa [bytesV, List.map_drop] using this

/-! ### a reader's box -/
structure RdrA (w : World) (b : Nat) (A : Option Addr) (c : Nat) (l : List UInt8) (e : Nat) : Prop where
  c0 : w.cell? ⟨b, 0, none⟩ = some (.slice A l.length c)
  c1 : w.cell? ⟨b, 1, none⟩ = some (.int .i64 (e : Int))
  f0 : w.frozen? ⟨b, 0, none⟩ = false
  f1 : w.frozen? ⟨b, 1, none⟩ = false
  z : b < w.heap.size
  rd : Rd w b 1 A l.length c (bytesV l)
section
variable {w w' : World} {b c : Nat} {A : Option Addr} {l : List UInt8} {e : Nat}
theorem RdrA.keep (h : RdrA w b A c l e) (hb : Below w.heap.size w w') : RdrA w' b A c l e where
  c0 := (hb.cell (p := ⟨b, 0, none⟩) h.z).trans h.c0
  c1 := (hb.cell (p := ⟨b, 1, none⟩) h.z).trans h.c1
  f0 := (hb.frozen (p := ⟨b, 0, none⟩) h.z).trans h.f0
  f1 := (hb.frozen (p := ⟨b, 1, none⟩) h.z).trans h.f1
  z := Nat.lt_of_lt_of_le h.z hb.size
  rd := h.rd.below' hb (Nat.le_of_lt h.z)
/-- a store elsewhere, not below it -/
theorem RdrA.elsewhere (h : RdrA w b A c l e) {p : Addr} (hp : b < p.block) (x : Value) : RdrA (w.setCell p x) b A c l e := by
  have hne : ∀ j, (⟨b, j, none⟩ : Addr) ≠ p := fun j q => by subst q; exact Nat.lt_irrefl _ hp
  have hB : Below p.block w (w.setCell p x) := (Below.refl _ _).setCell (Nat.le_refl _) x
  exact ⟨(hB.cell (p := ⟨b, 0, none⟩) hp).trans h.c0, (hB.cell (p := ⟨b, 1, none⟩) hp).trans h.c1, (hB.frozen (p := ⟨b, 0, none⟩) hp).trans h.f0, (hB.frozen (p := ⟨b, 1, none⟩) hp).trans h.f1,
    by simpa using h.z, h.rd.below' hB (Nat.le_of_lt hp)⟩
theorem RdrA.set0 (h : RdrA w b A c l e) {A2 : Option Addr} {c2 : Nat} {l2 : List UInt8} (hr : Rd w b 1 A2 l2.length c2 (bytesV l2)) : RdrA (w.setCell ⟨b, 0, none⟩ (.slice A2 l2.length c2)) b A2 c2 l2 e := by
  have c0 := h.c0
  have c1 := h.c1
  have f0 := h.f0
  have f1 := h.f1
  exact ⟨by go_simp, by go_simp, by go_simp, by go_simp, by simpa using h.z, hr.below ((Below.refl b w).setCell (p := ⟨b, 0, none⟩) (Nat.le_refl _) _)⟩
theorem RdrA.set1 (h : RdrA w b A c l e) (e2 : Nat) : RdrA (w.setCell ⟨b, 1, none⟩ (.int .i64 (e2 : Int))) b A c l e2 := by
  have c0 := h.c0
  have c1 := h.c1
  have f0 := h.f0
  have f1 := h.f1
  exact ⟨by go_simp, by go_simp, by go_simp, by go_simp, by simpa using h.z, h.rd.below ((Below.refl b w).setCell (p := ⟨b, 1, none⟩) (Nat.le_refl _) _)⟩
end
/-- a new one -/
theorem rdr_new (w : World) {c : Nat} {A : Option Addr} {l : List UInt8} (hr : Rd w w.heap.size 1 A l.length c (bytesV l)) (t : TypeId) : RdrA (w.alloc (.cells #[.slice A l.length c, .int .i64 0] t)) w.heap.size A c l 0 := by
  have x := box_new w #[.slice A l.length c, .int .i64 0] t
  exact ⟨x.cell 0 _ rfl, x.cell 1 _ rfl, x.free 0, x.free 1, by rw [x.size]; omega, hr.below x.below⟩

/-! ### plain: numbers, texts, fields -/
abbrev RdN := Nat × List UInt8 × Nat
def num (most : Nat) (l : List UInt8) (e : Nat) : RdN :=
  if e ≠ 0 then (0, l, e) else if (Var.get l).2.2 ≠ 0 then (0, l, (Var.get l).2.2) else if most < (Var.get l).1 then (0, l, 40) else ((Var.get l).1, l.drop (Var.get l).2.1, 0)
theorem num_e {most : Nat} {l : List UInt8} {e : Nat} (h : e ≠ 0) : num most l e = (0, l, e) := by unfold num; rw [if_pos h]
theorem num_g {most : Nat} {l : List UInt8} (h : (Var.get l).2.2 ≠ 0) : num most l 0 = (0, l, (Var.get l).2.2) := by unfold num; rw [if_neg (by simp), if_pos h]
theorem num_m {most : Nat} {l : List UInt8} (h : (Var.get l).2.2 = 0) (h2 : most < (Var.get l).1) : num most l 0 = (0, l, 40) := by unfold num; rw [if_neg (by simp), if_neg (by simp [h]), if_pos h2]
theorem num_0 {most : Nat} {l : List UInt8} (h : (Var.get l).2.2 = 0) (h2 : ¬ most < (Var.get l).1) : num most l 0 = ((Var.get l).1, l.drop (Var.get l).2.1, 0) := by unfold num; rw [if_neg (by simp), if_neg (by simp [h]), if_neg h2]
theorem num_le (most : Nat) (l : List UInt8) (e : Nat) : (num most l e).1 ≤ most := by
  unfold num; split
  · simp
  · split
    · simp
    · split
      · simp
      · omega
theorem num_len (most : Nat) (l : List UInt8) (e : Nat) : (num most l e).2.1.length ≤ l.length := by
  unfold num; split
  · simp
  · split
    · simp
    · split
      · simp
      · simp
theorem num_err (most : Nat) (l : List UInt8) (e : Nat) (h : e ≤ 100) : (num most l e).2.2 ≤ 100 := by
  have := Var.get_err l
  unfold num; split
  · exact h
  · split
    · show (Var.get l).2.2 ≤ 100; omega
    · split
      · simp
      · simp
/-- a text of at most so many bytes: the size that was read, the bytes behind it -/
def textE (r : RdN) : Nat := if r.2.2 = 0 ∧ r.2.1.length < r.1 then 30 else r.2.2
def textS (r : RdN) : ByteArray := if textE r = 0 then ⟨(r.2.1.take r.1).toArray⟩ else ByteArray.empty
def textL (r : RdN) : List UInt8 := if textE r = 0 then r.2.1.drop r.1 else r.2.1
def rdF (l : List UInt8) (e : Nat) : Fd × List UInt8 × Nat :=
  let a := num 4294967295 l e
  let s := num 16 a.2.1 a.2.2
  let k := num 255 (textL s) (textE s)
  let q := num 1 k.2.1 k.2.2
  (⟨UInt32.ofNat a.1, textS s, UInt8.ofNat k.1, decide (q.1 = 1)⟩, q.2.1, q.2.2)
def rdFs : Nat → List UInt8 → Nat → List Fd → List Fd × List UInt8 × Nat
  | 0, l, e, acc => (acc, l, e)
  | n + 1, l, e, acc => if e ≠ 0 then (acc, l, e) else rdFs n (rdF l e).2.1 (rdF l e).2.2 (acc ++ [(rdF l e).1])
structure RdS where
  id : UInt32
  fs : List Fd
  left : List UInt8
  err : Nat
def rdS (l : List UInt8) (e : Nat) : RdS :=
  let a := num 4294967295 l e
  let n := num 8 a.2.1 a.2.2
  let r := rdFs n.1 n.2.1 n.2.2 []
  ⟨UInt32.ofNat a.1, r.1, r.2.1, if r.2.2 = 0 then check (UInt32.ofNat a.1) r.1 else r.2.2⟩
theorem rdFs_len : ∀ n l e acc, (rdFs n l e acc).1.length ≤ acc.length + n := by
  intro n
  induction n with
  | zero => intro l e acc; simp [rdFs]
  | succ n ih =>
    intro l e acc
    simp only [rdFs]
    split
    · simp
    · have := ih (rdF l e).2.1 (rdF l e).2.2 (acc ++ [(rdF l e).1])
      simp at this
      omega

/-- what reading a number leaves -/
def NumEnd (w : World) (b : Nat) (r : RdN) (e : Ending) (w' : World) : Prop :=
  e = .returned (.int .u64 (r.1 : Int)) ∧ (∃ A c, RdrA w' b A c r.2.1 r.2.2) ∧ Oth b w w'
end Go.Proofs.Ytlccpchlclpnaaa
