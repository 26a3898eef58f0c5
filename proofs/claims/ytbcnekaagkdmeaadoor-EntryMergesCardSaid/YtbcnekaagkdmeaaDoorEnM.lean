/- A SET OF NAMES, a map of one's own from names to bools. No statement of the seat is proved here; no condition but sizes. -/
import Derived.Test.YtbcnekaagkdmeaaDoorEnRt
import Derived.Maps.OwnSet
import Derived.Maps.Views
import Derived.StringKeys
namespace Go.Proofs.YtbcnekaagkdmeaaDoor
open Go.RowKit

theorem kStr : Maps.Keyed Tryd.prog 9 := Maps.string_keyed Tryd.underlying9
theorem kMap : Tryd.prog.underlying 58 = some (.map 9 4) := Tryd.underlying58
theorem hasNm_snoc (l : List ByteArray) (s t : ByteArray) : hasNm (l ++ [s]) t = (hasNm l t || (s.toList == t.toList)) := by
  unfold hasNm
  simp
theorem hasNm_self (l : List ByteArray) (s : ByteArray) : hasNm (l ++ [s]) s = true := by rw [hasNm_snoc]; simp
/-- block b is the set of these names -/
def Met (w : World) (b : Nat) (names : List ByteArray) : Prop :=
  ∃ D : DataW Unit, w.ownsMap Tryd.prog 9 (plainElem Tryd.prog 4) b names.length D ∧ ∀ s : ByteArray, D.atKey (.string s.data.toList) (.lit (.bool false)) = .lit (.bool (hasNm names s))
theorem met_new (w : World) : Met (w.alloc (.map #[] 0)) w.heap.size [] :=
  ⟨.map [], World.ownsMap_made w _ _ _, fun s => WideAt.atKey_none _ (by simp)⟩
section
variable {w w' : World} {b : Nat} {names : List ByteArray}
theorem Met.lt (h : Met w b names) : b < w.heap.size := by
  obtain ⟨D, hD, _⟩ := h
  exact hD.lt
theorem Met.grown {row : Option Nat} (h : Met w b names) (hg : w.grownBy w' row) (hne : some b ≠ row) : Met w' b names := by
  obtain ⟨D, hD, hA⟩ := h
  exact ⟨D, hD.kept hg hne, hA⟩
theorem Met.keep (h : Met w b names) (hb : Below w.heap.size w w') : Met w' b names :=
  h.grown (row := none) ⟨hb.os, hb.tape, hb.output, hb.size, fun k hk _ => hb.block k hk⟩ (by simp)
theorem Met.isMap (h : Met w b names) : ∃ es c, w.heap[b]? = some (.map es c) := by
  obtain ⟨D, hD, _⟩ := h
  obtain ⟨es, c, hb, _⟩ := hD
  exact ⟨es, c, hb⟩
theorem Met.of_block (h : Met w b names) (hb : w'.heap[b]? = w.heap[b]?) : Met w' b names := by
  obtain ⟨D, ⟨es, c, h1, h2, h3, h4⟩, hA⟩ := h
  exact ⟨D, ⟨es, c, hb.trans h1, h2, h3, h4⟩, hA⟩
theorem Met.wz {b2 B : Nat} (h : Met w b names) (hz : Wz b2 B w w') (hne : b ≠ b2) : Met w' b names := by
  obtain ⟨es, c, hb⟩ := h.isMap
  exact h.of_block ((hz.oth b _ hb (fun _ _ q => by cases q) hne).trans hb.symm)
theorem Met.look (h : Met w b names) (s : ByteArray) (hs : s.size ≤ maxLen) : (Instr.lookup 58 (.map (some b)) (.string s) false).run Tryd.prog w = .ok (.bool (hasNm names s)) w := by
  obtain ⟨D, hD, hA⟩ := h
  obtain ⟨v, ps, hrun, hv⟩ := hD.lookup kStr kMap (z := .bool false) rfl (zd := .lit (.bool false)) (zp := []) (plainElem_bool Tryd.underlying4 false) (Go.WideMaps.keyOf_string_mk Tryd.underlying9 hs)
  rw [hrun]
  rw [hA s] at hv
  unfold plainElem at hv
  rw [Tryd.underlying4] at hv
  cases v <;> simp at hv
  obtain ⟨hv, _⟩ := hv
  rw [hv]
theorem Met.put (h : Met w b names) (s : ByteArray) (hs : s.size ≤ maxLen) (hn : names.length < maxLen) : ∃ w', (Instr.mapUpdate 58 (.map (some b)) (.string s) (.bool true)).run Tryd.prog w = .ok () w' ∧ Met w' b (names ++ [s]) ∧ w.grownBy w' (some b) := by
  obtain ⟨D, hD, hA⟩ := h
  obtain ⟨w', hrun, hD2, hg⟩ := hD.update kStr kMap hn (Go.WideMaps.keyOf_string_mk Tryd.underlying9 hs) (plainElem_bool Tryd.underlying4 true)
  refine ⟨w', hrun, ⟨_, by rw [List.length_append]; exact hD2, fun t => ?_⟩, hg⟩
  by_cases ht : s = t
  · subst ht
    rw [Maps.atKey_put_same hD.isMap (by trivial), hasNm_self]
  · rw [Maps.atKey_put_other (by intro q; injection q with q; exact ht (bytes_same (by rw [ByteArray.toList_eq, ByteArray.toList_eq]; exact q.symm))), hA t, hasNm_snoc]
    have : (s.toList == t.toList) = false := by rw [beq_eq_false_iff_ne]; exact fun q => ht (bytes_same q)
    rw [this, Bool.or_false]
end
/-! ### a map's block turns, and others stay -/
section
variable {w w' : World} {b mb B c : Nat} {A : Option Addr} {l : List UInt8}
theorem WB.map (h : WB w b B A c l) {es : Array MapEntry} {clk : Nat} (hm : w.heap[mb]? = some (.map es clk)) (hg : w.grownBy w' (some mb)) : WB w' b B A c l := by
  obtain ⟨arr, ha⟩ := h.bx.ty
  have hne : b ≠ mb := by rintro rfl; rw [ha] at hm; cases hm
  have hbk : w'.heap[b]? = w.heap[b]? := hg.block b h.z (by intro q; injection q with q; exact hne q)
  refine ⟨⟨⟨fun j v hj => (World.cell?_of_block (w := w) (a := ⟨b, j, none⟩) hbk).trans (h.bx.bx.cell j v hj), fun j hj => (World.frozen?_of_block (w := w) (a := ⟨b, j, none⟩) hbk).trans (h.bx.bx.free j hj), Nat.lt_of_lt_of_le h.z hg.size⟩, arr, hbk.trans ha⟩, Nat.le_trans h.le hg.size, ?_⟩
  refine h.own.kept (row := some mb) hg ?_
  rcases h.own.2 with ⟨q, _⟩ | ⟨g, cap, cur, q, _, hc, _⟩
  · rw [q]; exact .inl rfl
  · refine .inr fun r => ?_
    rw [q] at r
    simp only [Value.ownBlock] at r
    injection r with r
    subst r
    rw [hc] at hm
    cases hm
theorem BoxN.map {k : Nat} {cs : List Value} (h : BoxN w k cs) (hg : w.grownBy w' (some mb)) (hne : k ≠ mb) : BoxN w' k cs := by
  have hbk : w'.heap[k]? = w.heap[k]? := hg.block k h.z (by intro q; injection q with q; exact hne q)
  exact ⟨fun j v hj => (World.cell?_of_block (w := w) (a := ⟨k, j, none⟩) hbk).trans (h.cell j v hj), fun j hj => (World.frozen?_of_block (w := w) (a := ⟨k, j, none⟩) hbk).trans (h.free j hj), Nat.lt_of_lt_of_le h.z hg.size⟩
theorem below_map (hg : w.grownBy w' (some mb)) (hB : B ≤ mb) (hz : B ≤ w.heap.size) : Below B w w' := ⟨hg.os, hg.tape, hg.output, hg.size, fun k hk => hg.block k (by omega) (by intro q; injection q with q; omega)⟩
end
end Go.Proofs.YtbcnekaagkdmeaaDoor
