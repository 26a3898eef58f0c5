/- WORDS of MetaOwn: rows of one's own that are written into. No statement of the seat is proved here; no condition. -/
import Derived.Test.YtlccpchlclpnaaaDoorMetaWT
namespace Go.Proofs.YtlccpchlclpnaaaDoor
open Go.RowKit

section
variable {w : World} {B sz n c : Nat} {e : TypeId} {A : Option Addr}
/-- a row of one's own, whatever stands in it -/
def WRow (w : World) (B : Nat) (e : TypeId) (sz : Nat) (A : Option Addr) (n c : Nat) : Prop := ∃ xs, w.ownsRow B e sz (.slice A n c) n xs
theorem own_else {v : Value} {xs : List Value} (h : w.ownsRow B e sz v n xs) (b k : Nat) (u : Value) (hne : v.ownBlock ≠ some b) : (w.setCell ⟨b, k, none⟩ u).ownsRow B e sz v n xs := by
  refine h.kept (row := some b) ⟨rfl, rfl, rfl, by simp [World.setCell], fun j _ hj => Below.heap_setCell _ _ _ _ (fun q => hj (by rw [q]))⟩ (.inr hne)
theorem WRow.set (h : WRow w B e sz A n c) (b k : Nat) (u : Value) : WRow (w.setCell ⟨b, k, none⟩ u) B e sz A n c := by
  obtain ⟨xs, h⟩ := h
  by_cases hb : (Value.slice A n c).ownBlock = some b
  · rcases h.2 with ⟨q, _⟩ | ⟨g, cap, cur, q, _⟩
    · rw [q] at hb; cases hb
    · injection q with q1 q2 q3
      subst q1 q3
      simp only [Value.ownBlock] at hb
      injection hb with hb
      subst hb
      exact ⟨_, own_set1 h k u⟩
  · exact ⟨xs, own_else h b k u hb⟩
theorem WRow.keep {w' : World} (h : WRow w B e sz A n c) (hb : Below w.heap.size w w') : WRow w' B e sz A n c := by
  obtain ⟨xs, h⟩ := h
  exact ⟨xs, own_below h hb⟩
theorem WRow.at_ (h : WRow w B e sz A n c) (hn : 0 < n) : ∃ g, A = some ⟨g, 0, none⟩ ∧ B ≤ g ∧ g < w.heap.size ∧ (∀ j, j < n * sz → (w.cell? ⟨g, j, none⟩).isSome = true) ∧ (∀ j, w.frozen? ⟨g, j, none⟩ = false) ∧ ∃ arr, w.heap[g]? = some (.cells arr e (0, 0)) := by
  obtain ⟨xs, h⟩ := h
  rcases h.2 with ⟨q, _⟩ | ⟨g, cap, cur, q, hg, hc, _⟩
  · injection q with _ q; omega
  · injection q with q1 q2 q3
    subst q1 q3
    exact ⟨g, rfl, (own_lt h).1, (own_lt h).2, fun j hj => own_cell h hj, fun j => own_free h j, cur, hc⟩
end
/-- snapshots in rows of one's own that are written into -/
structure SnapW (w : World) (B : Nat) (nA : Option Addr) (nc : Nat) (ns : List Nl) : Prop where
  row : ∃ xs, w.ownsRow B 30 7 (.slice nA ns.length nc) ns.length xs ∧ ∀ i, i < ns.length → xs[i * 7 + 6]? = some (.slice (ns.getD i default).A (ns.getD i default).p.ms.length (ns.getD i default).c)
  ins : ∀ s ∈ ns, WRow w B 9 1 s.A s.p.ms.length s.c
section
variable {w w' : World} {B nc : Nat} {nA : Option Addr} {ns : List Nl}
theorem SnapW.of {sA : Option Addr} {sc : Nat} {ss : List Sl} (h : OwnT w B sA sc ss nA nc ns) : SnapW w B nA nc ns := by
  refine ⟨⟨nlsV ns, h.nown, fun i hi => ?_⟩, fun s hs => ⟨_, h.nin s hs⟩⟩
  unfold nlsV
  rw [flat_get nlV 7 nlV_length ns i 6 hi (by omega), getD_at _ _ hi]
  rfl
theorem SnapW.keep (h : SnapW w B nA nc ns) (hb : Below w.heap.size w w') : SnapW w' B nA nc ns := by
  obtain ⟨xs, h1, h2⟩ := h.row
  exact ⟨⟨xs, own_below h1 hb, h2⟩, fun s hs => (h.ins s hs).keep hb⟩
/-- a store into a block of another type -/
theorem SnapW.setT (h : SnapW w B nA nc ns) {b k : Nat} (u : Value) {arr : Array Value} {t : TypeId} {f : Nat × Nat} (hb : w.heap[b]? = some (.cells arr t f)) (hne : t ≠ 30) : SnapW (w.setCell ⟨b, k, none⟩ u) B nA nc ns := by
  obtain ⟨xs, h1, h2⟩ := h.row
  refine ⟨⟨xs, own_else h1 b k u fun q => ?_, h2⟩, fun s hs => (h.ins s hs).set b k u⟩
  rcases h1.2 with ⟨q2, _⟩ | ⟨g, cap, cur, q2, _, hc, _⟩
  · rw [q2] at q; cases q
  · rw [q2] at q
    simp only [Value.ownBlock] at q
    injection q with q
    subst q
    rw [hb] at hc
    injection hc with hc
    injection hc with _ q3 _
    exact hne q3
/-- a store into the snapshots' row, at no list -/
theorem SnapW.setN (h : SnapW w B nA nc ns) {g i j : Nat} (hg : nA = some ⟨g, 0, none⟩) (hj : j < 6) (u : Value) : SnapW (w.setCell ⟨g, i * 7 + j, none⟩ u) B nA nc ns := by
  obtain ⟨xs, h1, h2⟩ := h.row
  subst hg
  refine ⟨⟨_, own_set1 h1 (i * 7 + j) u, fun k hk => ?_⟩, fun s hs => (h.ins s hs).set g _ u⟩
  rw [List.getElem?_set_ne (by omega)]
  exact h2 k hk
theorem SnapW.wrow (h : SnapW w B nA nc ns) : WRow w B 30 7 nA ns.length nc := by
  obtain ⟨xs, h1, _⟩ := h.row
  exact ⟨xs, h1⟩
theorem SnapW.list (h : SnapW w B nA nc ns) {g : Nat} (hg : nA = some ⟨g, 0, none⟩) {i : Nat} (hi : i < ns.length) : w.cell? ⟨g, i * 7 + 6, none⟩ = some (.slice (ns.getD i default).A (ns.getD i default).p.ms.length (ns.getD i default).c) := by
  obtain ⟨xs, h1, h2⟩ := h.row
  subst hg
  rw [h1.cellAt (i * 7 + 6) (by omega)]
  exact h2 i hi
end
/-- a box stands while another block is written -/
theorem BoxT.setO {w : World} {b g k : Nat} {cs : List Value} {t : TypeId} (h : BoxT w b cs t) (u : Value) {arr : Array Value} {e : TypeId} {f : Nat × Nat} (hb : w.heap[g]? = some (.cells arr e f)) (hne : e ≠ t) : BoxT (w.setCell ⟨g, k, none⟩ u) b cs t := by
  obtain ⟨arr2, ha⟩ := h.ty
  have hn : g ≠ b := by
    intro q
    subst q
    rw [hb] at ha
    injection ha with ha
    injection ha with _ q2 _
    exact hne q2
  exact ⟨h.bx.else (p := ⟨g, k, none⟩) hn u, arr2, by simp [World.setCell, Array.getElem?_modify, hn, ha]⟩
theorem push_own {w w' : World} {ss : List Ps} {ns : List Sn} {p : Sn} {e : Ending} (h : PushEnd w ss ns p e w') : ∃ (er cu : Nat) (sA : Option Addr) (sc : Nat) (ss' : List Sl) (nA : Option Addr) (nc : Nat) (ns' : List Nl), e = .returned (.tuple #[.agg #[.slice sA ss'.length sc, .slice nA ns'.length nc, .int .u64 (cu : Int)], .int .i64 (er : Int)]) ∧ OwnT w' w.heap.size sA sc ss' nA nc ns' ∧ (er = 0 → ss'.map plS = ss) ∧ Below w.heap.size w w' := by
  unfold PushEnd at h
  split at h
  · obtain ⟨sA, sc, ss', nA, nc, ns', rfl, hO, h1, _, hb⟩ := h
    exact ⟨0, _, sA, sc, ss', nA, nc, ns', rfl, hO, fun _ => h1, hb⟩
  · rename_i h0
    obtain ⟨sA, sc, ss', nA, nc, ns', rfl, hO, _, _, hb⟩ := h
    exact ⟨_, 0, sA, sc, ss', nA, nc, ns', rfl, hO, fun q => absurd q h0, hb⟩
end Go.Proofs.YtlccpchlclpnaaaDoor
