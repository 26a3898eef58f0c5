/- THE FRAME's HELPERS for entries: an argument that is a list of entries, or a list of these, opened to what the walks are told of it. No statement of the seat is proved here; no condition. -/
import Derived.Test.YtbcnekaagkdmeaaDoorEnAl
namespace Go.Proofs.YtbcnekaagkdmeaaDoor
open Go.ChangeShapes Go.WideShapes Go.ChangeAt Go.RowKit Go.Deep Go.Joins

section
variable {H : Type} {enc : TypeId × Value → H} {w : World} {base : Nat} {spare : Nat → Bool} {held : Bool} {fuel : Nat}
/-- a row of things of k cells, each of which opens -/
theorem open_rows {α : Type} [Inhabited α] {P : Program} (encA : α → List Value) (k : Nat) (hk : ∀ a, (encA a).length = k) {ts te : TypeId} (hts : P.underlying ts = some (.slice te)) (hcl : P.cellsOf te = k) (hk0 : 0 < k) (Q : α → Prop)
    (hopen : ∀ (F : Nat) (cs : List Value) (x : DataW H × List MemPlace), cs.length = k → DataW.trod enc P w base (fun _ => true) held F te cs = some x → ∃ a, cs = encA a ∧ Q a)
    {cs : List Value} {x : DataW H × List MemPlace} (h : DataW.trod enc P w base (fun _ => true) held fuel ts cs = some x) :
    ∃ (A : Option Addr) (n c : Nat) (l : List α), cs = [.slice A n c] ∧ Rd w w.heap.size k A n c (l.flatMap encA) ∧ ∀ a ∈ l, Q a := by
  rcases open_slice hts h with ⟨h0, _⟩ | ⟨a, len, cap, m, n, D, Pl, hcs, hb, hl, hm, hmm, hx, hi⟩
  · exact ⟨none, 0, 0, [], h0, Rd.nil _ _ _, by simp⟩
  · rw [if_pos rfl] at hmm
    have each : ∀ i, i < len → ∃ f : α, (∀ j, j < k → w.cell? (a.add (i * k + j)) = (encA f)[j]?) ∧ Q f := by
      intro i him
      obtain ⟨cs', hc, ht'⟩ := hi i (by omega)
      rw [hcl] at hc
      obtain ⟨_, hcl', hat⟩ := World.cells?_some hc
      obtain ⟨f, rfl, hq⟩ := hopen _ _ _ hcl' ht'
      refine ⟨f, fun j hj => ?_, hq⟩
      have := hat j hj
      rwa [Go.Deep.add_add] at this
    obtain ⟨F, hF⟩ := choose_lt each
    refine ⟨some a, len, cap, (List.range len).map F, hcs, ?_, fun f hf => ?_⟩
    · refine ⟨by rw [flat_len encA k hk]; simp, hl, hm, fun hn => ?_⟩
      obtain ⟨b, off, spot⟩ := a
      have hc0 := (hF 0 hn).1 0 hk0
      have hx0 : ∃ v, (encA (F 0))[0]? = some v := ⟨_, List.getElem?_eq_getElem (by rw [hk]; exact hk0)⟩
      obtain ⟨v0, hv0⟩ := hx0
      have hspot : spot = none := by
        have := World.cell?_spot (hc0.trans hv0)
        simpa [Addr.add] using this
      subst hspot
      have hblk : b < w.heap.size := by
        have := World.block_lt_of_cell? w _ (hc0.trans hv0)
        rw [Addr.add_lit] at this
        exact this
      refine ⟨b, off, rfl, hblk, fun j u hu => ?_⟩
      have hjl : j < len * k := by
        have := (List.getElem?_eq_some_iff.1 hu).1
        rw [flat_len encA k hk] at this
        simpa using this
      have hd : j / k < len := Nat.div_lt_of_lt_mul (by rw [Nat.mul_comm]; exact hjl)
      have hm : j % k < k := Nat.mod_lt _ hk0
      have hjk : j / k * k + j % k = j := by rw [Nat.mul_comm]; exact Nat.div_add_mod j k
      have e := flat_get encA k hk ((List.range len).map F) (j / k) (j % k) (by simpa using hd) hm
      rw [hjk] at e
      have e2 := (hF (j / k) hd).1 (j % k) hm
      rw [hjk, Addr.add_lit] at e2
      rw [e2, ← hu, e]
      simp
    · obtain ⟨i, hi', rfl⟩ := List.mem_map.1 hf
      exact (hF i (by simpa using hi')).2
/-- a field of a struct, by its place -/
theorem trod_part {P : Program} {t : TypeId} {fs : Array Field} {cs : List Value} {x : DataW H × List MemPlace} {F : Nat} (ht : P.underlying t = some (.struct fs)) (h : DataW.trod enc P w base spare held F t cs = some x) :
    ∃ n, ∀ (i : Nat) (f : Field), fs[i]? = some f → ∃ y, DataW.trod enc P w base spare held n f.type ((cs.drop f.offset).take (P.cellsOf f.type)) = some y := by
  obtain ⟨ys, n, _, _, _, hyl, hf⟩ := DataW.trod_struct ht h
  refine ⟨n, fun i f hi => ?_⟩
  have h1 := hf i f hi
  have hys : i < ys.length := by rw [hyl]; exact (Array.getElem?_eq_some_iff.1 hi).1
  exact ⟨_, h1.trans (List.getElem?_eq_getElem hys)⟩
theorem listC {α : Type} {cs : List α} (h : cs.length = 3) : ∃ a b c, cs = [a, b, c] := by
  match cs, h with
  | [a, b, c], _ => exact ⟨a, b, c, rfl⟩
theorem listE {α : Type} {cs : List α} (h : cs.length = 6) : ∃ a b c d e f, cs = [a, b, c, d, e, f] := by
  match cs, h with
  | [a, b, c, d, e, f], _ => exact ⟨a, b, c, d, e, f, rfl⟩
theorem listS {α : Type} {cs : List α} (h : cs.length = 10) : ∃ a b c d e f g h i j, cs = [a, b, c, d, e, f, g, h, i, j] := by
  match cs, h with
  | [a, b, c, d, e, f, g, h, i, j], _ => exact ⟨a, b, c, d, e, f, g, h, i, j, rfl⟩
theorem i64Of {a : Int} (h : -9223372036854775808 ≤ a ∧ a ≤ 9223372036854775807) : (Int64.ofInt a).toInt = a := Int64.toInt_ofInt_of_le (by have := h.1; simpa using this) (by have := h.2; simp; omega)
theorem open_ce {cs : List Value} {x : DataW H × List MemPlace} (hl : cs.length = 3) (h : DataW.trod enc Tryd.prog w base spare held fuel 51 cs = some x) : ∃ c : Ce, cs = [.int .u8 (c.kind.toNat : Int), .int .i64 c.n.toInt, .string c.s] := by
  obtain ⟨n, hf⟩ := trod_at Tryd.underlying51 (by kernel_rfl) h hl
  obtain ⟨c0, c1, c2, rfl⟩ := listC hl
  obtain ⟨y0, h0⟩ := hf 0 _ c0 rfl rfl
  obtain ⟨y1, h1⟩ := hf 1 _ c1 rfl rfl
  obtain ⟨y2, h2⟩ := hf 2 _ c2 rfl rfl
  obtain ⟨a0, e0, _, w0⟩ := DataW.trod_int Tryd.underlying49 h0
  obtain ⟨a1, e1, _, w1⟩ := DataW.trod_int Tryd.underlying2 h1
  obtain ⟨a2, e2, _, _⟩ := DataW.trod_string Tryd.underlying9 h2
  injection e0 with e0
  injection e1 with e1
  injection e2 with e2
  subst e0 e1 e2
  have b0 := bounds_u8 w0
  refine ⟨⟨UInt8.ofNat a0.toNat, Int64.ofInt a1, a2⟩, ?_⟩
  have q0 : ((UInt8.ofNat a0.toNat).toNat : Int) = a0 := by rw [UInt8.toNat_ofNat']; omega
  simp only [q0, i64Of (bounds_i64 w1)]
theorem open_st {cs : List Value} {x : DataW H × List MemPlace} (hl : cs.length = 10) (h : DataW.trod enc Tryd.prog w base spare held fuel 53 cs = some x) : ∃ s : St, cs = stV s := by
  obtain ⟨n, hf⟩ := trod_part Tryd.underlying53 h
  obtain ⟨c0, c1, c2, c3, c4, c5, c6, c7, c8, c9, rfl⟩ := listS hl
  obtain ⟨y0, h0⟩ := hf 0 _ rfl
  obtain ⟨y1, h1⟩ := hf 1 _ rfl
  obtain ⟨y2, h2⟩ := hf 2 _ rfl
  obtain ⟨y3, h3⟩ := hf 3 _ rfl
  obtain ⟨y4, h4⟩ := hf 4 _ rfl
  obtain ⟨y5, h5⟩ := hf 5 _ rfl
  have e1c : Tryd.prog.cellsOf 3 = 1 := by kernel_rfl
  have e2c : Tryd.prog.cellsOf 4 = 1 := by kernel_rfl
  have e3c : Tryd.prog.cellsOf 51 = 3 := by kernel_rfl
  replace h0 : DataW.trod enc Tryd.prog w base spare held n 3 (([c0, c1, c2, c3, c4, c5, c6, c7, c8, c9].drop 0).take (Tryd.prog.cellsOf 3)) = some y0 := h0
  replace h1 : DataW.trod enc Tryd.prog w base spare held n 3 (([c0, c1, c2, c3, c4, c5, c6, c7, c8, c9].drop 1).take (Tryd.prog.cellsOf 3)) = some y1 := h1
  replace h2 : DataW.trod enc Tryd.prog w base spare held n 4 (([c0, c1, c2, c3, c4, c5, c6, c7, c8, c9].drop 2).take (Tryd.prog.cellsOf 4)) = some y2 := h2
  replace h3 : DataW.trod enc Tryd.prog w base spare held n 4 (([c0, c1, c2, c3, c4, c5, c6, c7, c8, c9].drop 3).take (Tryd.prog.cellsOf 4)) = some y3 := h3
  replace h4 : DataW.trod enc Tryd.prog w base spare held n 51 (([c0, c1, c2, c3, c4, c5, c6, c7, c8, c9].drop 4).take (Tryd.prog.cellsOf 51)) = some y4 := h4
  replace h5 : DataW.trod enc Tryd.prog w base spare held n 51 (([c0, c1, c2, c3, c4, c5, c6, c7, c8, c9].drop 7).take (Tryd.prog.cellsOf 51)) = some y5 := h5
  simp only [e1c, e2c, e3c, List.drop_zero, List.drop_succ_cons, List.take_succ_cons, List.take_zero] at h0 h1 h2 h3 h4 h5
  obtain ⟨a0, e0, _, w0⟩ := DataW.trod_int Tryd.underlying3 h0
  obtain ⟨a1, e1, _, w1⟩ := DataW.trod_int Tryd.underlying3 h1
  obtain ⟨a2, e2, _⟩ := DataW.trod_bool Tryd.underlying4 h2
  obtain ⟨a3, e3, _⟩ := DataW.trod_bool Tryd.underlying4 h3
  obtain ⟨m1, e4⟩ := open_ce rfl h4
  obtain ⟨m2, e5⟩ := open_ce rfl h5
  simp only [List.cons.injEq, and_true] at e0 e1 e2 e3 e4 e5
  obtain ⟨e4, e41, e42⟩ := e4
  obtain ⟨e5, e51, e52⟩ := e5
  subst e0 e1 e2 e3 e4 e41 e42 e5 e51 e52
  refine ⟨⟨Int64.ofInt a0, Int64.ofInt a1, a2, a3, m1, m2⟩, ?_⟩
  simp only [stV, i64Of (bounds_i64 w0), i64Of (bounds_i64 w1)]
theorem cells_st : Tryd.prog.cellsOf 53 = 10 := by kernel_rfl
theorem cells_en : Tryd.prog.cellsOf 36 = 6 := by kernel_rfl
theorem open_en {cs : List Value} {x : DataW H × List MemPlace} (hl : cs.length = 6) (h : DataW.trod enc Tryd.prog w base (fun _ => true) held fuel 36 cs = some x) : ∃ e : El, cs = elV e ∧ (Rd w w.heap.size 10 e.A e.p.stats.length e.c (stsV e.p.stats) ∧ e.p.name.size ≤ 9223372036854775807) := by
  obtain ⟨n, hf⟩ := trod_at Tryd.underlying36 (by kernel_rfl) h hl
  obtain ⟨c0, c1, c2, c3, c4, c5, rfl⟩ := listE hl
  obtain ⟨y0, h0⟩ := hf 0 _ c0 rfl rfl
  obtain ⟨y1, h1⟩ := hf 1 _ c1 rfl rfl
  obtain ⟨y2, h2⟩ := hf 2 _ c2 rfl rfl
  obtain ⟨y3, h3⟩ := hf 3 _ c3 rfl rfl
  obtain ⟨y4, h4⟩ := hf 4 _ c4 rfl rfl
  obtain ⟨y5, h5⟩ := hf 5 _ c5 rfl rfl
  obtain ⟨a0, e0, _, w0⟩ := DataW.trod_string Tryd.underlying9 h0
  obtain ⟨a1, e1, _⟩ := DataW.trod_bool Tryd.underlying4 h1
  obtain ⟨a2, e2, _, w2⟩ := DataW.trod_int Tryd.underlying32 h2
  obtain ⟨a3, e3, _, w3⟩ := DataW.trod_int Tryd.underlying3 h3
  obtain ⟨a4, e4, _, w4⟩ := DataW.trod_int Tryd.underlying33 h4
  obtain ⟨A, m, c, l, e5, hr, _⟩ := open_rows stV 10 stV_length Tryd.underlying34 cells_st (by omega) (fun _ => True) (fun F cs x hl h => by obtain ⟨s, hs⟩ := open_st hl h; exact ⟨s, hs, trivial⟩) h5
  simp only [List.cons.injEq, and_true] at e0 e1 e2 e3 e4 e5
  subst e0 e1 e2 e3 e4 e5
  obtain rfl := Rd.lenT hr
  have b2 := bounds_u64 w2
  have b4 := bounds_u32 w4
  refine ⟨⟨⟨a0, a1, UInt64.ofNat a2.toNat, Int64.ofInt a3, UInt32.ofNat a4.toNat, l⟩, A, c⟩, ?_, hr, by unfold maxLen at w0; omega⟩
  have q2 : ((UInt64.ofNat a2.toNat).toNat : Int) = a2 := by rw [UInt64.toNat_ofNat']; omega
  have q4 : ((UInt32.ofNat a4.toNat).toNat : Int) = a4 := by rw [UInt32.toNat_ofNat']; omega
  simp only [elV, q2, q4, i64Of (bounds_i64 w3)]
theorem open_ens {cs : List Value} {x : DataW H × List MemPlace} (h : DataW.trod enc Tryd.prog w base (fun _ => true) held fuel 22 cs = some x) : ∃ (A : Option Addr) (c : Nat) (l : List El), cs = [.slice A l.length c] ∧ EnR w w.heap.size A c l ∧ ∀ x ∈ l, x.p.name.size ≤ 9223372036854775807 := by
  obtain ⟨A, n, c, l, rfl, hr, hi⟩ := open_rows elV 6 elV_length Tryd.underlying22 cells_en (by omega) _ (fun F cs x hl h => open_en hl h) h
  obtain rfl := Rd.lenE hr
  exact ⟨A, c, l, rfl, ⟨hr, fun x hx => (hi x hx).1⟩, fun x hx => (hi x hx).2⟩
theorem frame_entries {W : World} {r : Reach} {v : Value} {d : DataW H} {ps : List MemPlace} {b0 : Nat} (hv : Value.okWide Tryd.prog W r b0 22 v) (h : DataW.Trod enc Tryd.prog W base (fun _ => true) held 22 v d ps) :
    ∃ (A : Option Addr) (c : Nat) (l : List El), v = .slice A l.length c ∧ EnR W W.heap.size A c l ∧ ∀ x ∈ l, x.p.name.size ≤ 9223372036854775807 := by
  obtain ⟨A, n, c, rfl⟩ := okWide_slice Tryd.underlying22 hv
  obtain ⟨F, hf⟩ := h
  obtain ⟨A2, c2, l, e, hr, hn⟩ := open_ens hf
  simp [Value.cells] at e
  obtain ⟨rfl, rfl, rfl⟩ := e
  exact ⟨_, _, l, rfl, hr, hn⟩
/-- a list of entries, where it lies -/
structure Ll where
  l : List El
  A : Option Addr
  c : Nat
instance : Inhabited Ll := ⟨⟨[], none, 0⟩⟩
def llV (x : Ll) : List Value := [.slice x.A x.l.length x.c]
theorem llV_length (x : Ll) : (llV x).length = 1 := rfl
def llsV (l : List Ll) : List Value := l.flatMap llV
theorem Rd.lenL {n c B : Nat} {A : Option Addr} {l : List Ll} (h : Rd w B 1 A n c (llsV l)) : n = l.length := h.lenA llV 1 llV_length (by omega)
theorem cells_ens : Tryd.prog.cellsOf 22 = 1 := by kernel_rfl
theorem frame_lists {W : World} {r : Reach} {v : Value} {d : DataW H} {ps : List MemPlace} {b0 : Nat} (hv : Value.okWide Tryd.prog W r b0 46 v) (h : DataW.Trod enc Tryd.prog W base (fun _ => true) held 46 v d ps) :
    ∃ (A : Option Addr) (c : Nat) (l : List Ll), v = .slice A l.length c ∧ Rd W W.heap.size 1 A l.length c (llsV l) ∧ ∀ x ∈ l, EnR W W.heap.size x.A x.c x.l ∧ ∀ y ∈ x.l, y.p.name.size ≤ 9223372036854775807 := by
  obtain ⟨A, n, c, rfl⟩ := okWide_slice Tryd.underlying46 hv
  obtain ⟨F, hf⟩ := h
  obtain ⟨A2, n2, c2, l, e, hr, hi⟩ := open_rows llV 1 llV_length Tryd.underlying46 cells_ens (by omega) (fun x : Ll => EnR W W.heap.size x.A x.c x.l ∧ ∀ y ∈ x.l, y.p.name.size ≤ 9223372036854775807) (fun F cs x hl h => by
    obtain ⟨A, c, l, rfl, hr, hn⟩ := open_ens h
    exact ⟨⟨l, A, c⟩, rfl, hr, hn⟩) hf
  simp [Value.cells] at e
  obtain ⟨rfl, rfl, rfl⟩ := e
  obtain rfl := Rd.lenL hr
  exact ⟨_, _, l, rfl, hr, hi⟩
end
end Go.Proofs.YtbcnekaagkdmeaaDoor
