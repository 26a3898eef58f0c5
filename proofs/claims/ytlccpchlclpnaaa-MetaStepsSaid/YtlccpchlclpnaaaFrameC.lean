/- THE FRAME's HELPERS for rows of cells: an argument opened to what the walks are told of it. No statement of the seat is proved here; no condition. -/
import Derived.Test.YtlccpchlclpnaaaFrameS
import Derived.Test.YtlccpchlclpnaaaCel
namespace Go.Proofs.Ytlccpchlclpnaaa
open Go.ChangeShapes Go.WideShapes Go.ChangeAt Go.RowKit Go.Deep Go.Joins

section
variable {H : Type} {enc : TypeId × Value → H} {w : World} {base : Nat} {spare : Nat → Bool} {held : Bool} {fuel : Nat}
theorem cells_cl : Try.prog.cellsOf 109 = 3 := by kernel_rfl
theorem list3 {α : Type} {cs : List α} (h : cs.length = 3) : ∃ a b c, cs = [a, b, c] := by
  match cs, h with
  | [a, b, c], _ => exact ⟨a, b, c, rfl⟩
theorem open_cl {cs : List Value} {x : DataW H × List MemPlace} (hl : cs.length = 3) (h : DataW.trod enc Try.prog w base spare held fuel 109 cs = some x) : ∃ f : Cl, cs = clV f := by
  obtain ⟨n, hf⟩ := trod_at Try.underlying109 (by kernel_rfl) h hl
  obtain ⟨c0, c1, c2, rfl⟩ := list3 hl
  obtain ⟨y0, h0⟩ := hf 0 _ c0 rfl rfl
  obtain ⟨y1, h1⟩ := hf 1 _ c1 rfl rfl
  obtain ⟨y2, h2⟩ := hf 2 _ c2 rfl rfl
  obtain ⟨a0, e0, _, w0⟩ := DataW.trod_int Try.underlying31 h0
  obtain ⟨a1, e1, _, _⟩ := DataW.trod_int Try.underlying2 h1
  obtain ⟨a2, e2, _, _⟩ := DataW.trod_string Try.underlying9 h2
  injection e0 with e0
  injection e1 with e1
  injection e2 with e2
  subst e0 e1 e2
  have b0 := bounds_u8 w0
  refine ⟨⟨UInt8.ofNat a0.toNat, a1, a2⟩, ?_⟩
  unfold clV
  rw [ofNat8 (by omega)]
  congr 2
  omega
theorem open_cls {cs : List Value} {x : DataW H × List MemPlace} (h : DataW.trod enc Try.prog w base (fun _ => true) held fuel 38 cs = some x) : ∃ (A : Option Addr) (n c : Nat) (l : List Cl), cs = [.slice A n c] ∧ Rd w w.heap.size 3 A n c (clsV l) := by
  rcases open_slice Try.underlying38 h with ⟨h0, _⟩ | ⟨a, len, cap, m, n, D, Pl, hcs, hb, hl, hm, hmm, hx, hi⟩
  · exact ⟨none, 0, 0, [], h0, Rd.nil _ _ _⟩
  · rw [if_pos rfl] at hmm
    have each : ∀ i, i < len → ∃ f : Cl, ∀ j, j < 3 → w.cell? (a.add (i * 3 + j)) = (clV f)[j]? := by
      intro i him
      obtain ⟨cs', hc, ht'⟩ := hi i (by omega)
      rw [cells_cl] at hc
      obtain ⟨_, hcl, hat⟩ := World.cells?_some hc
      obtain ⟨f, rfl⟩ := open_cl hcl ht'
      refine ⟨f, fun j hj => ?_⟩
      have := hat j hj
      rwa [Go.Deep.add_add] at this
    obtain ⟨F, hF⟩ := choose_lt each
    refine ⟨some a, len, cap, (List.range len).map F, hcs, ?_⟩
    refine ⟨by rw [clsV_length]; simp, hl, hm, fun hn => ?_⟩
    obtain ⟨b, off, spot⟩ := a
    have hc0 := hF 0 hn 0 (by omega)
    have hspot : spot = none := by
      have := World.cell?_spot (hc0.trans rfl)
      simpa [Addr.add] using this
    subst hspot
    have hblk : b < w.heap.size := World.block_lt_of_cell? w _ (hc0.trans rfl)
    refine ⟨b, off, rfl, hblk, fun j u hu => ?_⟩
    have hjl : j < len * 3 := by
      have := (List.getElem?_eq_some_iff.1 hu).1
      rw [clsV_length] at this
      simpa using this
    have e := clsV_get ((List.range len).map F) (j / 3) (j % 3) (by simp; omega) (Nat.mod_lt _ (by omega))
    rw [show j / 3 * 3 + j % 3 = j by omega] at e
    have e2 := hF (j / 3) (by omega) (j % 3) (Nat.mod_lt _ (by omega))
    rw [show j / 3 * 3 + j % 3 = j by omega, Addr.add_lit] at e2
    rw [e2, ← hu, e]
    simp
set_option maxRecDepth 100000 in
theorem frame_cells {W : World} {r : Reach} {v : Value} {d : DataW H} {ps : List MemPlace} {b0 : Nat} (hv : Value.okWide Try.prog W r b0 38 v) (h : DataW.Trod enc Try.prog W base (fun _ => true) held 38 v d ps) :
    ∃ (A : Option Addr) (n c : Nat) (l : List Cl), v = .slice A n c ∧ Rd W W.heap.size 3 A n c (clsV l) := by
  obtain ⟨A, n, c, rfl⟩ := okWide_slice Try.underlying38 hv
  obtain ⟨fuel, hf⟩ := h
  obtain ⟨A', n', c', l, e, hr⟩ := open_cls hf
  simp [Value.cells] at e
  obtain ⟨rfl, rfl, rfl⟩ := e
  exact ⟨A, n, c, l, rfl, hr⟩
end
end Go.Proofs.Ytlccpchlclpnaaa
