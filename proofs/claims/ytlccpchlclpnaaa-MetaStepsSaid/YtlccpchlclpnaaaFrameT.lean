/- THE FRAME's HELPERS for rows of texts: an argument opened to what the walks are told of it. No statement of the seat is proved here; no condition. -/
import Derived.Test.YtlccpchlclpnaaaFrameC
import Derived.Test.YtlccpchlclpnaaaGrowW
import Derived.Deep.Strs
namespace Go.Proofs.Ytlccpchlclpnaaa
open Go.ChangeShapes Go.WideShapes Go.ChangeAt Go.RowKit Go.Deep Go.Joins

section
variable {H : Type} {enc : TypeId × Value → H} {w : World} {base : Nat} {spare : Nat → Bool} {held : Bool} {fuel : Nat}
theorem open_sts {cs : List Value} {x : DataW H × List MemPlace} (h : DataW.trod enc Try.prog w base (fun _ => true) held fuel 53 cs = some x) : ∃ (A : Option Addr) (n c : Nat) (l : List ByteArray), cs = [.slice A n c] ∧ Rd w w.heap.size 1 A n c (strsV l) := by
  rcases open_strs Try.underlying53 Try.underlying9 cells_str h with ⟨h0, _⟩ | ⟨a, len, cap, m, Sx, hcs, hb, hl, hm, hmm, hx, hi⟩
  · exact ⟨none, 0, 0, [], h0, Rd.nil _ _ _⟩
  · rw [if_pos rfl] at hmm
    refine ⟨some a, len, cap, (List.range len).map Sx, hcs, ?_⟩
    refine ⟨by simp [strsV], hl, hm, fun hn => ?_⟩
    obtain ⟨b, off, spot⟩ := a
    have hc0 := (hi 0 (by omega)).1
    have hspot : spot = none := by
      have := World.cell?_spot hc0
      simpa [Addr.add] using this
    subst hspot
    have hblk : b < w.heap.size := World.block_lt_of_cell? w _ hc0
    refine ⟨b, off, rfl, hblk, fun j u hu => ?_⟩
    have hjl : j < len := by
      have := (List.getElem?_eq_some_iff.1 hu).1
      simpa [strsV] using this
    have e2 := (hi j (by omega)).1
    rw [Addr.add_lit] at e2
    rw [e2, ← hu]
    simp [strsV, hjl]
set_option maxRecDepth 100000 in
theorem frame_strs {W : World} {r : Reach} {v : Value} {d : DataW H} {ps : List MemPlace} {b0 : Nat} (hv : Value.okWide Try.prog W r b0 53 v) (h : DataW.Trod enc Try.prog W base (fun _ => true) held 53 v d ps) :
    ∃ (A : Option Addr) (n c : Nat) (l : List ByteArray), v = .slice A n c ∧ Rd W W.heap.size 1 A n c (strsV l) := by
  obtain ⟨A, n, c, rfl⟩ := okWide_slice Try.underlying53 hv
  obtain ⟨fuel, hf⟩ := h
  obtain ⟨A', n', c', l, e, hr⟩ := open_sts hf
  simp [Value.cells] at e
  obtain ⟨rfl, rfl, rfl⟩ := e
  exact ⟨A, n, c, l, rfl, hr⟩
end
end Go.Proofs.Ytlccpchlclpnaaa
