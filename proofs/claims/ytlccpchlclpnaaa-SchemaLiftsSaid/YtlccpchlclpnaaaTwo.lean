/- REGIONS THAT DRAW: an operation that looks at two temporaries of which words are known; rows of values and of cells as such words. No statement of the seat is proved here; no condition. -/
import Derived.Test.YtlccpchlclpnaaaLiftC
namespace Go.Proofs.Ytlccpchlclpnaaa
open Go.RowKit

section
variable {P : Program} {ops : Array Oper} {E : World → World → Prop} {w0 : World} {Q : List Slot → Prop} {o : Oper} {rest : List Oper} {ss : List Slot}
theorem good_two {s : Slot} (t1 t2 : Nat) (p1 p2 : Value → World → Prop) (ht1 : slotAt ss t1 = .has p1) (ht2 : slotAt ss t2 = .has p2) (hl1 : t1 < ss.length) (hl2 : t2 < ss.length) (hsel : ∀ cs b, o.op ≠ .select cs b)
    (hk : (o.looksAt ops).all (fun i => i == t1 || (i == t2 || (slotAt ss i).exact)) = true) (hin1 : (o.looksAt ops).contains t1 = true) (hin2 : (o.looksAt ops).contains t2 = true) (hne : t1 ≠ t2)
    (hg : ∀ u v, Region.wanted o (yielded ops (((lits ss).setIfInBounds t1 u).setIfInBounds t2 v)) = true) (hm : s.mono E)
    (h : ∀ u v w, E w0 w → p1 u w → p2 v w → growAt P E s w ((execOp (Act.eval ⟨((lits ss).setIfInBounds t1 u).setIfInBounds t2 v, []⟩) o).run P w)) : Good P ops E w0 ss o s := by
  refine ⟨hm, fun a w hw hz hl => ?_⟩
  have hp1 : p1 (a.tmps.getD t1 undef) w := by
    have := hl t1 (by simpa using hin1)
    rw [ht1] at this
    exact this
  have hp2 : p2 (a.tmps.getD t2 undef) w := by
    have := hl t2 (by simpa using hin2)
    rw [ht2] at this
    exact this
  have heq : ∀ i ∈ o.looksAt ops, a.tmps.getD i undef = (⟨((lits ss).setIfInBounds t1 (a.tmps.getD t1 undef)).setIfInBounds t2 (a.tmps.getD t2 undef), []⟩ : Act).tmps.getD i undef := fun i hi => by
    by_cases h2 : t2 = i
    · subst h2
      simp [lits_size, hl2]
    · by_cases h1 : t1 = i
      · subst h1
        show _ = (((lits ss).setIfInBounds t1 (a.tmps.getD t1 undef)).setIfInBounds t2 (a.tmps.getD t2 undef)).getD t1 undef
        have e3 : (((lits ss).setIfInBounds t1 (a.tmps.getD t1 undef)).setIfInBounds t2 (a.tmps.getD t2 undef)).getD t1 undef = ((lits ss).setIfInBounds t1 (a.tmps.getD t1 undef)).getD t1 undef := by simp [Array.getElem?_setIfInBounds_ne h2]
        rw [e3]
        simp [lits_size, hl1]
      · have h3 := hl i hi
        have h4 := List.all_eq_true.1 hk i hi
        have e3 : (((lits ss).setIfInBounds t1 (a.tmps.getD t1 undef)).setIfInBounds t2 (a.tmps.getD t2 undef)).getD i undef = (lits ss).getD i undef := by simp [Array.getElem?_setIfInBounds_ne h1, Array.getElem?_setIfInBounds_ne h2]
        have n1 : (i == t1) = false := by simpa using fun e => h1 e.symm
        have n2 : (i == t2) = false := by simpa using fun e => h2 e.symm
        rw [n1, n2, Bool.false_or, Bool.false_or] at h4
        show _ = (((lits ss).setIfInBounds t1 (a.tmps.getD t1 undef)).setIfInBounds t2 (a.tmps.getD t2 undef)).getD i undef
        rw [e3, lits_get]
        cases hs : slotAt ss i with
        | is v => rw [hs] at h3; exact h3
        | has p => rw [hs] at h4; cases h4
  rw [wanted_looks (a' := ⟨((lits ss).setIfInBounds t1 (a.tmps.getD t1 undef)).setIfInBounds t2 (a.tmps.getD t2 undef), []⟩) (by simp [hz, lits_size]) heq, hg, if_pos rfl, execOp_looks hsel heq]
  exact h _ _ w hw hp1 hp2
theorem wpA_two (t1 t2 : Nat) (p1 p2 : Value → World → Prop) (s : Slot) (ht1 : slotAt ss t1 = .has p1) (ht2 : slotAt ss t2 = .has p2) (hl1 : t1 < ss.length) (hl2 : t2 < ss.length) (hsel : ∀ cs b, o.op ≠ .select cs b)
    (hk : (o.looksAt ops).all (fun i => i == t1 || (i == t2 || (slotAt ss i).exact)) = true) (hin1 : (o.looksAt ops).contains t1 = true) (hin2 : (o.looksAt ops).contains t2 = true) (hne : t1 ≠ t2)
    (hg : ∀ u v, Region.wanted o (yielded ops (((lits ss).setIfInBounds t1 u).setIfInBounds t2 v)) = true) (hm : s.mono E)
    (h : ∀ u v w, E w0 w → p1 u w → p2 v w → growAt P E s w ((execOp (Act.eval ⟨((lits ss).setIfInBounds t1 u).setIfInBounds t2 v, []⟩) o).run P w)) (hn : wpA P ops E w0 Q rest (putS ss o.dst s)) : wpA P ops E w0 Q (o :: rest) ss :=
  ⟨s, good_two t1 t2 p1 p2 ht1 ht2 hl1 hl2 hsel hk hin1 hin2 hne hg hm h, hn⟩
end

def VlR (l : List Vl) (v : Value) (w : World) : Prop := ∃ A c, v = .slice A l.length c ∧ Rd w w.heap.size 1 A l.length c (vlsV l)
theorem mono_vlR (l : List Vl) : (Slot.has (VlR l)).mono Ext := fun _ _ _ he ⟨A, c, e, h⟩ => ⟨A, c, e, (h.below he).more he.size⟩
theorem vlR_ret {l : List Vl} {e : Ending} {w w' : World} (h : RetRow w 97 1 l.length (vlsV l) e w') : ∃ v, e = .returned v ∧ Ext w w' ∧ (Slot.has (VlR l)).holds v w' := by
  obtain ⟨v, rfl, ho, hb⟩ := h
  obtain ⟨A, c, rfl, hr⟩ := Rd.of_own ho
  exact ⟨_, rfl, hb, A, c, rfl, hr⟩
def ClR (l : List Cl) (v : Value) (w : World) : Prop := ∃ A c, v = .slice A l.length c ∧ Rd w w.heap.size 3 A l.length c (clsV l)
theorem mono_clR (l : List Cl) : (Slot.has (ClR l)).mono Ext := fun _ _ _ he ⟨A, c, e, h⟩ => ⟨A, c, e, (h.below he).more he.size⟩
theorem clR_ret {l : List Cl} {e : Ending} {w w' : World} (h : RetRow w 109 3 l.length (clsV l) e w') : ∃ v, e = .returned v ∧ Ext w w' ∧ (Slot.has (ClR l)).holds v w' := by
  obtain ⟨v, rfl, ho, hb⟩ := h
  obtain ⟨A, c, rfl, hr⟩ := Rd.of_own ho
  exact ⟨_, rfl, hb, A, c, rfl, hr⟩
end Go.Proofs.Ytlccpchlclpnaaa
