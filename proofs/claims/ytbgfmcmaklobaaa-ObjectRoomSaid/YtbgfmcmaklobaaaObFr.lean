/- THE FRAME's HELPERS for the law's ops: an argument that is a list of them, opened to what the walks are told of it. No statement of the seat is proved here; no condition. -/
import Derived.Test.YtbgfmcmaklobaaaObW
import Derived.Deep.Slices
import Derived.Deep.Fields
namespace Go.Proofs.Ytbgfmcmaklobaaa
open Go.ChangeShapes Go.WideShapes Go.ChangeAt Go.RowKit Go.Deep Go.Joins

section
variable {H : Type} {enc : TypeId × Value → H} {w : World} {base : Nat} {spare : Nat → Bool} {held : Bool} {fuel : Nat}
/-- a row of things of k cells, each of which opens -/
theorem open_rows {α : Type} [Inhabited α] {P : Program} (encA : α → List Value) (k : Nat) (hk : ∀ a, (encA a).length = k) {ts te : TypeId} (hts : P.underlying ts = some (.slice te)) (hcl : P.cellsOf te = k) (hk0 : 0 < k) (Q : α → Prop)
    (hopen : ∀ (F : Nat) (cs : List Value) (x : DataW H × List MemPlace), cs.length = k → DataW.trod enc P w base (fun _ => true) held F te cs = some x → ∃ a, cs = encA a ∧ Q a)
    {cs : List Value} {x : DataW H × List MemPlace} (h : DataW.trod enc P w base (fun _ => true) held fuel ts cs = some x) :
    ∃ (A : Option Addr) (n c : Nat) (l : List α), cs = [.slice A n c] ∧ Rd w w.heap.size k A n c (l.flatMap encA) ∧ ∀ a ∈ l, Q a := by
  rcases open_slice hts h with ⟨h0, _⟩ | ⟨a, len, cap, m, n, D, Pl, hcs, hb, hl, hm, hmm, hx, hi⟩
  · exact ⟨none, 0, 0, [], h0, Rd.nil _ _ _, by simp⟩
  · rw [if_pos rfl] at hmm
    have each : ∀ i, i < len → ∃ f : α, (∀ j, j < k → w.cell? (a.add (i * k + j)) = (encA f)[j]?) ∧ Q f := by
      intro i him
      obtain ⟨cs', hc, ht'⟩ := hi i (by omega)
      rw [hcl] at hc
      obtain ⟨_, hcl', hat⟩ := World.cells?_some hc
      obtain ⟨f, rfl, hq⟩ := hopen _ _ _ hcl' ht'
      refine ⟨f, fun j hj => ?_, hq⟩
      have := hat j hj
      rwa [Go.Deep.add_add] at this
    obtain ⟨F, hF⟩ := choose_lt each
    refine ⟨some a, len, cap, (List.range len).map F, hcs, ?_, fun f hf => ?_⟩
    · refine ⟨by rw [flat_len encA k hk]; simp, hl, hm, fun hn => ?_⟩
      obtain ⟨b, off, spot⟩ := a
      have hc0 := (hF 0 hn).1 0 hk0
      have hx0 : ∃ v, (encA (F 0))[0]? = some v := ⟨_, List.getElem?_eq_getElem (by rw [hk]; exact hk0)⟩
      obtain ⟨v0, hv0⟩ := hx0
      have hspot : spot = none := by
        have := World.cell?_spot (hc0.trans hv0)
        simpa [Addr.add] using this
      subst hspot
      have hblk : b < w.heap.size := by
        have := World.block_lt_of_cell? w _ (hc0.trans hv0)
        rw [Addr.add_lit] at this
        exact this
      refine ⟨b, off, rfl, hblk, fun j u hu => ?_⟩
      have hjl : j < len * k := by
        have := (List.getElem?_eq_some_iff.1 hu).1
        rw [flat_len encA k hk] at this
        simpa using this
      have hd : j / k < len := Nat.div_lt_of_lt_mul (by rw [Nat.mul_comm]; exact hjl)
      have hm : j % k < k := Nat.mod_lt _ hk0
      have hjk : j / k * k + j % k = j := by rw [Nat.mul_comm]; exact Nat.div_add_mod j k
      have e := flat_get encA k hk ((List.range len).map F) (j / k) (j % k) (by simpa using hd) hm
      rw [hjk] at e
      have e2 := (hF (j / k) hd).1 (j % k) hm
      rw [hjk, Addr.add_lit] at e2
      rw [e2, ← hu, e]
      simp
    · obtain ⟨i, hi', rfl⟩ := List.mem_map.1 hf
      exact (hF i (by simpa using hi')).2
/-- a field of a struct of one-cell fields, by its place -/
theorem trod_at {P : Program} {t : TypeId} {fs : Array Field} {cs : List Value} {x : DataW H × List MemPlace} {F : Nat} (ht : P.underlying t = some (.struct fs)) (hone : oneCellFields P fs = true) (h : DataW.trod enc P w base spare held F t cs = some x) (hl : cs.length = fs.size) :
    ∃ n, ∀ (i : Nat) (f : Field) (c : Value), fs[i]? = some f → cs[i]? = some c → ∃ y, DataW.trod enc P w base spare held n f.type [c] = some y := by
  obtain ⟨ys, n, _, _, _, hyl, hf⟩ := DataW.trod_struct ht h
  refine ⟨n, fun i f c hi hc => ?_⟩
  obtain ⟨ho, hk⟩ := hone_of hone i f hi
  have h1 := hf i f hi
  rw [ho, hk] at h1
  have hil : i < cs.length := (List.getElem?_eq_some_iff.1 hc).1
  have e : (cs.drop i).take 1 = [c] := by
    rw [List.drop_eq_getElem_cons hil]
    have := (List.getElem?_eq_some_iff.1 hc).2
    simp [this]
  rw [e] at h1
  have hys : i < ys.length := by rw [hyl]; rw [← hl]; exact hil
  exact ⟨_, h1.trans (List.getElem?_eq_getElem hys)⟩
theorem listE {α : Type} {cs : List α} (h : cs.length = 6) : ∃ a b c d e f, cs = [a, b, c, d, e, f] := by
  match cs, h with
  | [a, b, c, d, e, f], _ => exact ⟨a, b, c, d, e, f, rfl⟩
theorem cells_u8 : Try.prog.cellsOf 5 = 1 := by kernel_rfl
theorem cells_int : Try.prog.cellsOf 3 = 1 := by kernel_rfl
theorem cells_op : Try.prog.cellsOf 41 = 6 := by kernel_rfl
theorem list1 {α : Type} {cs : List α} (h : cs.length = 1) : ∃ a, cs = [a] := by
  match cs, h with
  | [a], _ => exact ⟨a, rfl⟩
theorem flatOne {α : Type} (f : α → Value) (l : List α) : (l.flatMap fun a => [f a]) = l.map f := by
  induction l with
  | nil => rfl
  | cons a l ih => rw [List.flatMap_cons, ih]; rfl
theorem open_bytes {cs : List Value} {x : DataW H × List MemPlace} (h : DataW.trod enc Try.prog w base (fun _ => true) held fuel 22 cs = some x) :
    ∃ (A : Option Addr) (c : Nat) (l : List UInt8), cs = [.slice A l.length c] ∧ Rd w w.heap.size 1 A l.length c (bytesV l) := by
  obtain ⟨A, n, c, l, e, hr, _⟩ := open_rows (fun a : UInt8 => [byteV a]) 1 (fun _ => rfl) Try.underlying22 cells_u8 (by omega) (fun _ => True) (fun F cs x hl h => by
    obtain ⟨c0, rfl⟩ := list1 hl
    obtain ⟨a0, e0, _, w0⟩ := DataW.trod_int Try.underlying5 h
    injection e0 with e0
    subst e0
    have b0 := bounds_u8 w0
    refine ⟨UInt8.ofNat a0.toNat, ?_, trivial⟩
    have q0 : ((UInt8.ofNat a0.toNat).toNat : Int) = a0 := by rw [UInt8.toNat_ofNat']; omega
    simp only [byteV, q0]) h
  rw [flatOne] at hr
  obtain rfl : n = l.length := by have := hr.len; simp at this; omega
  exact ⟨A, c, l, e, hr⟩
theorem open_intl {cs : List Value} {x : DataW H × List MemPlace} (h : DataW.trod enc Try.prog w base (fun _ => true) held fuel 39 cs = some x) :
    ∃ (A : Option Addr) (c : Nat) (l : List Int), cs = [.slice A l.length c] ∧ Rd w w.heap.size 1 A l.length c (l.map (.int .i64)) := by
  obtain ⟨A, n, c, l, e, hr, _⟩ := open_rows (fun a : Int => [Value.int .i64 a]) 1 (fun _ => rfl) Try.underlying39 cells_int (by omega) (fun _ => True) (fun F cs x hl h => by
    obtain ⟨c0, rfl⟩ := list1 hl
    obtain ⟨a0, e0, _, w0⟩ := DataW.trod_int Try.underlying3 h
    injection e0 with e0
    subst e0
    exact ⟨a0, rfl, trivial⟩) h
  rw [flatOne] at hr
  obtain rfl : n = l.length := by have := hr.len; simp at this; omega
  exact ⟨A, c, l, e, hr⟩
/-- what an op's rows hold -/
structure OpR (w : World) (B : Nat) (o : Opn) : Prop where
  b : Rd w B 1 o.bA o.bs.length o.bc (bytesV o.bs)
  k : Rd w B 1 o.kA o.keep.length o.kc (o.keep.map (.int .i64))
  n : I64 o.n
  z1 : o.nm.size ≤ 9223372036854775807
  z2 : o.old.size ≤ 9223372036854775807
theorem open_op {cs : List Value} {x : DataW H × List MemPlace} (hl : cs.length = 6) (h : DataW.trod enc Try.prog w base (fun _ => true) held fuel 41 cs = some x) : ∃ o : Opn, cs = opV o ∧ OpR w w.heap.size o := by
  obtain ⟨n, hf⟩ := trod_at Try.underlying41 (by kernel_rfl) h hl
  obtain ⟨c0, c1, c2, c3, c4, c5, rfl⟩ := listE hl
  obtain ⟨y0, h0⟩ := hf 0 _ c0 rfl rfl
  obtain ⟨y1, h1⟩ := hf 1 _ c1 rfl rfl
  obtain ⟨y2, h2⟩ := hf 2 _ c2 rfl rfl
  obtain ⟨y3, h3⟩ := hf 3 _ c3 rfl rfl
  obtain ⟨y4, h4⟩ := hf 4 _ c4 rfl rfl
  obtain ⟨y5, h5⟩ := hf 5 _ c5 rfl rfl
  obtain ⟨a0, e0, _, w0⟩ := DataW.trod_int Try.underlying5 h0
  obtain ⟨a1, e1, _, w1⟩ := DataW.trod_string Try.underlying9 h1
  obtain ⟨a2, e2, _, w2⟩ := DataW.trod_string Try.underlying9 h2
  obtain ⟨A3, k3, l3, e3, r3⟩ := open_bytes h3
  obtain ⟨a4, e4, _, w4⟩ := DataW.trod_int Try.underlying3 h4
  obtain ⟨A5, k5, l5, e5, r5⟩ := open_intl h5
  simp only [List.cons.injEq, and_true] at e0 e1 e2 e3 e4 e5
  subst e0 e1 e2 e3 e4 e5
  have b0 := bounds_u8 w0
  have q0 : ((UInt8.ofNat a0.toNat).toNat : Int) = a0 := by rw [UInt8.toNat_ofNat']; omega
  refine ⟨⟨UInt8.ofNat a0.toNat, a1, a2, l3, A3, k3, a4, l5, A5, k5⟩, ?_, ⟨r3, r5, bounds_i64 w4, by show a1.size ≤ _; unfold maxLen at w1; omega, by show a2.size ≤ _; unfold maxLen at w2; omega⟩⟩
  simp only [opV, q0]
theorem frame_ops {W : World} {r : Reach} {v : Value} {d : DataW H} {ps : List MemPlace} {b0 : Nat} (hv : Value.okWide Try.prog W r b0 35 v) (h : DataW.Trod enc Try.prog W base (fun _ => true) held 35 v d ps) :
    ∃ (A : Option Addr) (c : Nat) (l : List Opn), v = .slice A l.length c ∧ Rd W W.heap.size 6 A l.length c (opsV l) ∧ ∀ o ∈ l, OpR W W.heap.size o := by
  obtain ⟨A, n, c, rfl⟩ := okWide_slice Try.underlying35 hv
  obtain ⟨F, hf⟩ := h
  obtain ⟨A2, n2, c2, l, e, hr, hn⟩ := open_rows opV 6 opV_length Try.underlying35 cells_op (by omega) _ (fun F cs x hl h => open_op hl h) hf
  simp [Value.cells] at e
  obtain ⟨rfl, rfl, rfl⟩ := e
  obtain rfl : n = l.length := by have := hr.len; rw [flat_len opV 6 opV_length] at this; omega
  exact ⟨_, _, l, rfl, hr, hn⟩
end
end Go.Proofs.Ytbgfmcmaklobaaa
