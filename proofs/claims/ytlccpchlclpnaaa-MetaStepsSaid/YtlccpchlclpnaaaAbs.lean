/- REGIONS THAT DRAW THEIR ORDER, WHATEVER THEIR OPERATIONS MAKE: one walk in the order of the text, over what is KNOWN of each temporary (a value, or a word on it that stays true as the world grows), serves every order. General laws of my own; no statement of the seat is proved here; no condition. -/
import Derived.Test.YtlccpchlclpnaaaBase
import Derived.Still
import Derived.StillTail
namespace Go.Proofs.Ytlccpchlclpnaaa
open Go.RowKit

/-- what is known of a temporary: its value, or a word on it -/
inductive Slot where
  | is (v : Value)
  | has (p : Value → World → Prop)

def Slot.holds : Slot → Value → World → Prop
  | .is v, u, _ => u = v
  | .has p, u, w => p u w
@[go_sem] def Slot.lit : Slot → Value
  | .is v => v
  | .has _ => undef
def Slot.exact : Slot → Bool
  | .is _ => true
  | .has _ => false
@[go_sem] def lits (ss : List Slot) : Array Value := (ss.map Slot.lit).toArray
def slotAt (ss : List Slot) (t : Nat) : Slot := ss[t]?.getD (.is undef)
def putS (ss : List Slot) (d : Option Tmp) (s : Slot) : List Slot :=
  match d with
  | some d => ss.set d s
  | none => ss

theorem putS_length (ss : List Slot) (d : Option Tmp) (s : Slot) : (putS ss d s).length = ss.length := by cases d <;> simp [putS]
theorem slotAt_putS_ne {ss : List Slot} {d : Option Tmp} {s : Slot} {t : Nat} (h : d ≠ some t) : slotAt (putS ss d s) t = slotAt ss t := by
  cases d with
  | none => rfl
  | some d =>
    have : d ≠ t := fun e => h (by rw [e])
    simp [slotAt, putS, List.getElem?_set_ne this]
theorem slotAt_putS_eq {ss : List Slot} {s : Slot} {t : Nat} (h : t < ss.length) : slotAt (putS ss (some t) s) t = s := by
  simp [slotAt, putS, h]
theorem putS_comm (ss : List Slot) {x y : Option Tmp} (s u : Slot) (h : ∀ d, x = some d → y ≠ some d) : putS (putS ss x s) y u = putS (putS ss y u) x s := by
  cases x with
  | none => rfl
  | some d =>
    cases y with
    | none => rfl
    | some e =>
      have hne : d ≠ e := fun he => h d rfl (he ▸ rfl)
      simp only [putS]
      exact List.set_comm _ _ hne

/-- how a world may grow: reflexive, transitive -/
structure Grow (E : World → World → Prop) : Prop where
  refl : ∀ w, E w w
  trans : ∀ {a b c}, E a b → E b c → E a c

def Slot.mono (E : World → World → Prop) (s : Slot) : Prop := ∀ u w w', E w w' → s.holds u w → s.holds u w'
theorem mono_is {E : World → World → Prop} (v : Value) : (Slot.is v).mono E := fun _ _ _ _ h => h

def growAt (P : Program) (E : World → World → Prop) (s : Slot) (w : World) : Result Next → Prop
  | .ok (.value v) w' => E w w' ∧ s.holds v w'
  | .ok .skip w' => E w w' ∧ s.holds undef w'
  | .ok (.enter f args) w' => E w w' ∧ Calls P f args w' (fun e w'' => ∃ v, e = .returned v ∧ E w' w'' ∧ s.holds v w'')
  | _ => False

section
variable {P : Program} {ops : Array Oper} {md : Region.Mode} {E : World → World → Prop} {w0 : World}

/-- operation o gives s, in whatever frame and world what is known of the temporaries that it looks at -/
def Good (P : Program) (ops : Array Oper) (E : World → World → Prop) (w0 : World) (ss : List Slot) (o : Oper) (s : Slot) : Prop :=
  s.mono E ∧ ∀ (a : Act) (w : World), E w0 w → a.tmps.size = ss.length → (∀ t ∈ o.looksAt ops, (slotAt ss t).holds (a.tmps.getD t undef) w) →
    if Region.wanted o (yielded ops a.tmps) = true then growAt P E s w ((execOp a.eval o).run P w) else s = .is undef

/-- the walk in the order of the text -/
def wpA (P : Program) (ops : Array Oper) (E : World → World → Prop) (w0 : World) (Q : List Slot → Prop) : List Oper → List Slot → Prop
  | [], ss => Q ss
  | o :: rest, ss => ∃ s, Good P ops E w0 ss o s ∧ wpA P ops E w0 Q rest (putS ss o.dst s)

def aOp (P : Program) (ops : Array Oper) (E : World → World → Prop) (w0 : World) (i : Nat) (K : List Slot → Prop) (ss : List Slot) : Prop :=
  match ops[i]? with
  | none => K ss
  | some o => ∃ s, Good P ops E w0 ss o s ∧ K (putS ss o.dst s)

theorem aOp_mono {i : Nat} {ss : List Slot} {K K' : List Slot → Prop} (h : ∀ ss, K ss → K' ss) (hh : aOp P ops E w0 i K ss) : aOp P ops E w0 i K' ss := by
  unfold aOp at *
  split
  · rename_i ho; simp only [ho] at hh; exact h _ hh
  · rename_i o ho
    simp only [ho] at hh
    obtain ⟨s, h1, h2⟩ := hh
    exact ⟨s, h1, h _ h2⟩

theorem Good.congr {ss ss' : List Slot} {o : Oper} {s : Slot} (h : Good P ops E w0 ss o s) (hl : ss'.length = ss.length) (hs : ∀ t ∈ o.looksAt ops, slotAt ss' t = slotAt ss t) : Good P ops E w0 ss' o s :=
  ⟨h.1, fun a w hw hz hk => h.2 a w hw (hz.trans hl) fun t ht => by have := hk t ht; rwa [hs t ht] at this⟩

theorem Good.aOp {i : Nat} {o : Oper} {s : Slot} {ss : List Slot} (hi : ops[i]? = some o) (hg : Good P ops E w0 ss o s) {K : List Slot → Prop} (h : K (putS ss o.dst s)) : aOp P ops E w0 i K ss := by
  unfold Go.Proofs.Ytlccpchlclpnaaa.aOp
  simp only [hi]
  exact ⟨s, hg, h⟩

theorem good_of_aOp {i : Nat} {o : Oper} {ss : List Slot} {K : List Slot → Prop} (hi : ops[i]? = some o) (h : aOp P ops E w0 i K ss) : ∃ s, Good P ops E w0 ss o s ∧ K (putS ss o.dst s) := by
  unfold aOp at h
  simpa only [hi] using h

/-- operation oj, apart from oi: whether oi has run makes no difference to it, and it makes none to oi -/
theorem aOp_put {j : Nat} {oi oj : Oper} {s : Slot} (hj : ops[j]? = some oj) (hap : oi.apart ops oj = true) {K : List Slot → Prop} {ss : List Slot}
    (hy : Good P ops E w0 ss oi s) (h : aOp P ops E w0 j K (putS ss oi.dst s)) :
    aOp P ops E w0 j (fun ss' => Good P ops E w0 ss' oi s ∧ K (putS ss' oi.dst s)) ss := by
  obtain ⟨h1, h2, h3⟩ := Oper.apart_spec hap
  obtain ⟨u, hu, hk⟩ := good_of_aOp hj h
  refine Good.aOp hj (s := u) (hu.congr (putS_length _ _ _).symm fun t ht => ?_) ⟨hy.congr (putS_length _ _ _) fun t ht => ?_, ?_⟩
  · exact (slotAt_putS_ne fun e => h1 t e ht).symm
  · exact slotAt_putS_ne fun e => h3 t e ht
  · rw [← putS_comm ss s u h2]; exact hk

/-! ### From what is known to the frame -/
structure Sat (E : World → World → Prop) (ds : List Deferred) (ss : List Slot) (a : Act) (w : World) : Prop where
  size : a.tmps.size = ss.length
  defers : a.defers = ds
  mono : ∀ t, (slotAt ss t).mono E
  holds : ∀ t, (slotAt ss t).holds (a.tmps.getD t undef) w

theorem Sat.put {ds : List Deferred} {ss : List Slot} {a : Act} {w w' : World} {d : Option Tmp} {s : Slot} {v : Value} (h : Sat E ds ss a w) (he : E w w') (hs : s.mono E) (hv : s.holds v w') :
    Sat E ds (putS ss d s) (a.put d v) w' := by
  cases d with
  | none => exact ⟨h.size, h.defers, h.mono, fun t => h.mono t _ _ _ he (h.holds t)⟩
  | some d =>
    refine ⟨by simp [Act.put, putS, h.size], h.defers, fun t => ?_, fun t => ?_⟩
    · by_cases ht : d = t
      · subst ht
        by_cases hd : d < ss.length
        · rw [slotAt_putS_eq hd]; exact hs
        · have : slotAt (putS ss (some d) s) d = slotAt ss d := by simp [slotAt, putS, hd]
          rw [this]; exact h.mono d
      · rw [slotAt_putS_ne (fun e => ht (Option.some.inj e))]; exact h.mono t
    · by_cases ht : d = t
      · subst ht
        by_cases hd : d < ss.length
        · rw [slotAt_putS_eq hd]
          have : (a.put (some d) v).tmps.getD d undef = v := by simp [Act.put, h.size, hd]
          rw [this]; exact hv
        · have e1 : slotAt (putS ss (some d) s) d = slotAt ss d := by simp [slotAt, putS, hd]
          have e2 : (a.put (some d) v).tmps.getD d undef = a.tmps.getD d undef := by simp [Act.put, h.size, hd]
          rw [e1, e2]; exact h.mono d _ _ _ he (h.holds d)
      · rw [slotAt_putS_ne (fun e => ht (Option.some.inj e))]
        have e2 : (a.put (some d) v).tmps.getD t undef = a.tmps.getD t undef := by simp [Act.put, Array.getElem?_setIfInBounds_ne ht]
        rw [e2]; exact h.mono t _ _ _ he (h.holds t)

theorem wpOp_of_aOp (G : Grow E) {ds : List Deferred} {i : Nat} {ss : List Slot} {a : Act} {w : World} {K : List Slot → Prop} {K' : Act → World → Prop} {Q' : Exit → Act → World → Prop}
    (hw : E w0 w) (hs : Sat E ds ss a w) (h : ∀ ss' a' w', E w0 w' → Sat E ds ss' a' w' → K ss' → K' a' w') (hh : aOp P ops E w0 i K ss) : wpOp P ops Q' i K' a w := by
  unfold aOp at hh
  unfold wpOp
  split
  · rename_i ho; simp only [ho] at hh; exact h _ _ _ hw hs hh
  · rename_i o ho
    simp only [ho] at hh
    obtain ⟨s, ⟨hm, hg⟩, hk⟩ := hh
    have h1 := hg a w hw hs.size (fun t _ => hs.holds t)
    split
    · rename_i hwt
      rw [if_pos hwt] at h1
      refine .inl ?_
      unfold Oper.wp
      generalize (execOp a.eval o).run P w = r at *
      cases r with
      | ok n w' =>
        cases n <;> simp only [growAt] at h1 <;> simp only [Oper.upon]
        case value v => exact h _ _ _ (G.trans hw h1.1) (hs.put h1.1 hm h1.2) hk
        case skip => exact h _ _ _ (G.trans hw h1.1) (hs.put h1.1 hm h1.2) hk
        case enter f args =>
          refine h1.2.mono fun e w'' he => ?_
          obtain ⟨v, rfl, he2, hv⟩ := he
          have he3 := G.trans h1.1 he2
          exact h _ _ _ (G.trans hw he3) (hs.put he3 hm hv) hk
      | halt x w' => simp only [growAt] at h1
    · rename_i hwt
      rw [if_neg hwt] at h1
      subst h1
      exact h _ _ _ hw (hs.put (G.refl w) hm rfl) hk

/-! ### Whatever order is picked -/
def wpAnyA (P : Program) (md : Region.Mode) (ops : Array Oper) (E : World → World → Prop) (w0 : World) (Q : List Slot → Prop) : Nat → Array Bool → List Slot → Prop
  | 0, listed, ss => Region.ready md ops listed = [] ∧ Q ss
  | fuel + 1, listed, ss =>
    (Region.ready md ops listed = [] → Q ss) ∧ ∀ i ∈ Region.ready md ops listed, aOp P ops E w0 i (wpAnyA P md ops E w0 Q fuel (listed.setIfInBounds i true)) ss

theorem wpAny_of_abs (G : Grow E) {ds : List Deferred} {Q : List Slot → Prop} {Q' : Exit → Act → World → Prop} (hQ : ∀ ss a w, E w0 w → Sat E ds ss a w → Q ss → Q' .normal a w) :
    ∀ (fuel : Nat) (listed : Array Bool) (ss : List Slot) (a : Act) (w : World), E w0 w → Sat E ds ss a w → wpAnyA P md ops E w0 Q fuel listed ss → wpAny P md ops Q' fuel listed a w
  | 0, _, _, _, _, hw, hs, h => ⟨h.1, hQ _ _ _ hw hs h.2⟩
  | fuel + 1, _, _, _, _, hw, hs, h => ⟨fun h0 => hQ _ _ _ hw hs (h.1 h0), fun i hi => wpOp_of_aOp G hw hs (fun _ _ _ hw' hs' => wpAny_of_abs G hQ fuel _ _ _ _ hw' hs') (h.2 i hi)⟩

theorem wpAnyA_first {Q : List Slot → Prop} {i : Nat} {oi : Oper} {s : Slot} (hi : ops[i]? = some oi) :
    ∀ (fuel : Nat) (listed : Array Bool) (ss : List Slot),
      (∀ j oj, ops[j]? = some oj → j ≠ i → listed.getD j true = false → (∀ e ∈ oj.after, Region.binds md e = true → e.on ≠ i) → oi.apart ops oj = true) →
      i ∈ Region.ready md ops listed → Good P ops E w0 ss oi s →
      wpAnyA P md ops E w0 Q fuel (listed.setIfInBounds i true) (putS ss oi.dst s) → wpAnyA P md ops E w0 Q (fuel + 1) listed ss := by
  intro fuel
  induction fuel with
  | zero =>
    intro listed ss _ hr hy H
    refine ⟨fun h => (by rw [h] at hr; cases hr), fun j hj => ?_⟩
    by_cases hji : j = i
    · subst hji; exact hy.aOp hi H
    · have := ready_mono hj hji
      rw [H.1] at this
      cases this
  | succ fuel ih =>
    intro listed ss hfree hr hy H
    refine ⟨fun h => (by rw [h] at hr; cases hr), fun j hj => ?_⟩
    by_cases hji : j = i
    · subst hji; exact hy.aOp hi H
    · have h1 := H.2 j (ready_mono hj hji)
      obtain ⟨hjun, oj, hoj, hall⟩ := mem_ready.1 hj
      have hnot : ∀ e ∈ oj.after, Region.binds md e = true → e.on ≠ i := fun e he hb heq => by
        have h1 := hall e he hb
        rw [heq, getD_both (mem_ready.1 hr).1] at h1
        cases h1
      have h2 := aOp_put hoj (hfree j oj hoj hji hjun hnot) hy h1
      have hfree' : ∀ k ok, ops[k]? = some ok → k ≠ i → (listed.setIfInBounds j true).getD k true = false →
          (∀ e ∈ ok.after, Region.binds md e = true → e.on ≠ i) → oi.apart ops ok = true := fun k ok hk hki hun hno => by
        refine hfree k ok hk hki ?_ hno
        by_cases hjk : j = k
        · subst hjk; exact hjun
        · rw [getD_set_ne true hjk] at hun; exact hun
      refine aOp_mono (fun ss' h3 => ih (listed.setIfInBounds j true) ss' hfree' (ready_mono hr (Ne.symm hji)) h3.1 ?_) h2
      rw [Array.setIfInBounds_comm _ _ hji]
      exact h3.2

theorem wpAnyA_lex {Q : List Slot → Prop} : ∀ (l : List Oper) (k : Nat) (listed : Array Bool) (ss : List Slot), (∀ j, l[j]? = ops[k + j]?) →
    Region.lexFrom md ops l.length k listed = true → wpA P ops E w0 Q l ss → wpAnyA P md ops E w0 Q l.length listed ss
  | [], _, _, _, _, hB, h => ⟨by simpa [Region.lexFrom] using hB, h⟩
  | o :: l, k, listed, ss, hl, hB, h => by
    have h0 : ops[k]? = some o := by simpa using (hl 0).symm
    simp only [List.length_cons, Region.lexFrom, Bool.and_eq_true] at hB
    obtain ⟨⟨hr, hf⟩, hB'⟩ := hB
    obtain ⟨s, hg, hk⟩ := h
    exact wpAnyA_first h0 l.length listed ss (Region.free_spec h0 hf) (by simpa using hr) hg
      (wpAnyA_lex l (k + 1) _ _ (fun j => by have := hl (j + 1); simpa [Nat.add_assoc, Nat.add_comm 1 j] using this) hB' hk)

/-! ### Of a head, with a tail in one order -/
def wpAnyT (P : Program) (md : Region.Mode) (ops : Array Oper) (E : World → World → Prop) (w0 : World) (n : Nat) (L : Array Bool → List Slot → Prop) : Nat → Array Bool → List Slot → Prop
  | 0, listed, ss => L listed ss
  | f + 1, listed, ss =>
    Region.ready md ops listed ≠ [] ∧ ∀ i ∈ Region.ready md ops listed, i < n ∧ aOp P ops E w0 i (wpAnyT P md ops E w0 n L f (listed.setIfInBounds i true)) ss

theorem wpAny_of_headA (G : Grow E) {ds : List Deferred} {n g : Nat} {L : Array Bool → List Slot → Prop} {Q' : Exit → Act → World → Prop} (hL : ∀ listed ss a w, E w0 w → Sat E ds ss a w → L listed ss → wpAny P md ops Q' g listed a w) :
    ∀ (f : Nat) (listed : Array Bool) (ss : List Slot) (a : Act) (w : World), E w0 w → Sat E ds ss a w → wpAnyT P md ops E w0 n L f listed ss → wpAny P md ops Q' (f + g) listed a w
  | 0, listed, ss, a, w, hw, hs, h => by rw [Nat.zero_add]; exact hL _ _ _ _ hw hs h
  | f + 1, listed, ss, a, w, hw, hs, h => by
    rw [show f + 1 + g = (f + g) + 1 by omega]
    exact ⟨fun h0 => absurd h0 h.1, fun i hi => wpOp_of_aOp G hw hs (fun ss' a' w' hw' hs' h' => wpAny_of_headA G hL f _ _ _ _ hw' hs' h') (h.2 i hi).2⟩

theorem wpAnyT_first {n i : Nat} {oi : Oper} {s : Slot} {L : Array Bool → List Slot → Prop} (hi : ops[i]? = some oi)
    (hs : Region.sinkB md ops n = true) (hc : Region.chainB md ops n = true) (hn : n < ops.size) (hin : i < n)
    (hdone : ∀ listed ss, L listed ss → ∀ j ∈ Region.ready md ops listed, n ≤ j) :
    ∀ (f : Nat) (listed : Array Bool) (ss : List Slot), HeadInv md ops n listed →
      (∀ j oj, ops[j]? = some oj → j ≠ i → listed.getD j true = false → (∀ e ∈ oj.after, Region.binds md e = true → e.on ≠ i) → oi.apart ops oj = true) →
      i ∈ Region.ready md ops listed → Good P ops E w0 ss oi s →
      wpAnyT P md ops E w0 n L f (listed.setIfInBounds i true) (putS ss oi.dst s) → wpAnyT P md ops E w0 n L (f + 1) listed ss := by
  intro f
  induction f with
  | zero =>
    intro listed ss inv _ hr hy H
    have hun := (mem_ready.1 hr).1
    refine ⟨fun h => (by rw [h] at hr; cases hr), fun j hj => ?_⟩
    have hjn : j < n := by
      rcases Nat.lt_or_ge j n with h | h
      · exact h
      · exact absurd hj (tail_waits hs hc hn inv _ i rfl hin hun j h)
    refine ⟨hjn, ?_⟩
    by_cases hji : j = i
    · subst hji; exact hy.aOp hi H
    · have := hdone _ _ H j (ready_mono hj hji)
      omega
  | succ f ih =>
    intro listed ss inv hfree hr hy H
    have hun := (mem_ready.1 hr).1
    refine ⟨fun h => (by rw [h] at hr; cases hr), fun j hj => ?_⟩
    have hjn : j < n := by
      rcases Nat.lt_or_ge j n with h | h
      · exact h
      · exact absurd hj (tail_waits hs hc hn inv _ i rfl hin hun j h)
    refine ⟨hjn, ?_⟩
    by_cases hji : j = i
    · subst hji; exact hy.aOp hi H
    · have h1 := (H.2 j (ready_mono hj hji)).2
      obtain ⟨hjun, oj, hoj, hall⟩ := mem_ready.1 hj
      have hnot : ∀ e ∈ oj.after, Region.binds md e = true → e.on ≠ i := fun e he hb heq => by
        have h1 := hall e he hb
        rw [heq, getD_both hun] at h1
        cases h1
      have h2 := aOp_put hoj (hfree j oj hoj hji hjun hnot) hy h1
      have hfree' : ∀ k ok, ops[k]? = some ok → k ≠ i → (listed.setIfInBounds j true).getD k true = false →
          (∀ e ∈ ok.after, Region.binds md e = true → e.on ≠ i) → oi.apart ops ok = true := fun k ok hk hki hun hno => by
        refine hfree k ok hk hki ?_ hno
        by_cases hjk : j = k
        · subst hjk; exact hjun
        · rw [getD_set_ne true hjk] at hun; exact hun
      refine aOp_mono (fun ss' h3 => ih (listed.setIfInBounds j true) ss' (inv.set hj hjn) hfree' (ready_mono hr (Ne.symm hji)) h3.1 ?_) h2
      rw [Array.setIfInBounds_comm _ _ hji]
      exact h3.2

theorem wpAnyT_lex {n g : Nat} {Lq : List Slot → Prop} (hs : Region.sinkB md ops n = true) (hc : Region.chainB md ops n = true) (hn : n < ops.size) :
    ∀ (l : List Oper) (k : Nat) (listed : Array Bool) (ss : List Slot), (∀ j, j < l.length → l[j]? = ops[k + j]?) → k + l.length = n → HeadInv md ops n listed →
    Region.lexHead md ops g l.length k listed = true → wpA P ops E w0 Lq l ss →
    wpAnyT P md ops E w0 n (fun listed' ss' => Region.seqB md ops g n listed' = true ∧ Lq ss') l.length listed ss
  | [], k, listed, ss, _, hk, _, hB, h => by
    have : k = n := by simpa using hk
    subst this
    exact ⟨by simpa [Region.lexHead] using hB, h⟩
  | o :: l, k, listed, ss, hl, hk, inv, hB, h => by
    have h0 : ops[k]? = some o := by simpa using (hl 0 (by simp)).symm
    simp only [List.length_cons, Region.lexHead, Bool.and_eq_true] at hB
    obtain ⟨⟨hr, hf⟩, hB'⟩ := hB
    have hkn : k < n := by simp only [List.length_cons] at hk; omega
    have hr' : k ∈ Region.ready md ops listed := by simpa using hr
    obtain ⟨s, hg, hK⟩ := h
    exact wpAnyT_first h0 hs hc hn hkn (fun listed' ss' hL => seqB_ready hL.1) l.length listed ss inv (Region.free_spec h0 hf) hr' hg
      (wpAnyT_lex hs hc hn l (k + 1) _ _ (fun j hj => by have := hl (j + 1) (by simp; omega); simpa [Nat.add_assoc, Nat.add_comm 1 j] using this) (by simp only [List.length_cons] at hk; omega) (inv.set hr' hkn) hB' hK)

/-! ### The steps of the walk -/
theorem execOp_looks {o : Oper} (hs : ∀ cs b, o.op ≠ .select cs b) {a a' : Act} (h : ∀ t ∈ o.looksAt ops, a.tmps.getD t undef = a'.tmps.getD t undef) :
    execOp a.eval o = execOp a'.eval o :=
  execOp_congr o hs fun x hx => by
    cases x with
    | tmp t =>
      have ht : t ∈ o.looksAt ops := List.mem_append_left _ (List.mem_filterMap.2 ⟨.tmp t, by simpa using hx, rfl⟩)
      simpa [Act.eval] using h t ht
    | _ => rfl
theorem wanted_looks {o : Oper} {a a' : Act} (hz : a.tmps.size = a'.tmps.size) (h : ∀ t ∈ o.looksAt ops, a.tmps.getD t undef = a'.tmps.getD t undef) :
    Region.wanted o (yielded ops a.tmps) = Region.wanted o (yielded ops a'.tmps) := by
  unfold Region.wanted
  cases hg : o.guard with
  | none => rfl
  | some g =>
    obtain ⟨j, b⟩ := g
    simp only
    have e : yielded ops a.tmps j = yielded ops a'.tmps j := by
      unfold yielded
      cases hd : (ops[j]?).bind (·.dst) with
      | none => simp_all
      | some d =>
        have hd' : d ∈ o.looksAt ops := List.mem_append_right _ (by simp [hg, hd])
        have h1 := h d hd'
        by_cases hlt : d < a.tmps.size
        · have hlt' : d < a'.tmps.size := hz ▸ hlt
          simp [hlt, hlt'] at h1
          simp_all
        · have hlt' : ¬ d < a'.tmps.size := hz ▸ hlt
          simp_all
    rw [e]

/-- a frame in which temporaries t of ss have the values us says, the others those that are known -/
theorem lits_get (ss : List Slot) (t : Nat) : (lits ss).getD t undef = (slotAt ss t).lit := by
  unfold lits slotAt
  rcases Nat.lt_or_ge t ss.length with h | h
  · simp [h]
  · simp [h, Slot.lit]
theorem lits_size (ss : List Slot) : (lits ss).size = ss.length := by simp [lits]

section
variable {Q : List Slot → Prop} {o : Oper} {rest : List Oper} {ss : List Slot}

/-- an operation whose guard says no -/
theorem wpA_skip (hk : (o.looksAt ops).all (fun t => (slotAt ss t).exact) = true) (hg : Region.wanted o (yielded ops (lits ss)) = false)
    (h : wpA P ops E w0 Q rest (putS ss o.dst (.is undef))) : wpA P ops E w0 Q (o :: rest) ss := by
  refine ⟨.is undef, ⟨mono_is _, fun a w _ hz hl => ?_⟩, h⟩
  have e : Region.wanted o (yielded ops a.tmps) = Region.wanted o (yielded ops (lits ss)) :=
    wanted_looks (a' := ⟨lits ss, []⟩) (by simp [hz, lits_size]) fun t ht => by
      have h1 := hl t ht
      have h2 := List.all_eq_true.1 hk t ht
      rw [lits_get]
      cases hs : slotAt ss t with
      | is v => rw [hs] at h1; exact h1
      | has p => rw [hs] at h2; cases h2
  rw [e, hg]
  rfl

theorem good_exact {s : Slot} (hsel : ∀ cs b, o.op ≠ .select cs b) (hk : (o.looksAt ops).all (fun t => (slotAt ss t).exact) = true) (hg : Region.wanted o (yielded ops (lits ss)) = true) (hm : s.mono E)
    (h : ∀ w, E w0 w → growAt P E s w ((execOp (Act.eval ⟨lits ss, []⟩) o).run P w)) : Good P ops E w0 ss o s := by
  refine ⟨hm, fun a w hw hz hl => ?_⟩
  have heq : ∀ t ∈ o.looksAt ops, a.tmps.getD t undef = (⟨lits ss, []⟩ : Act).tmps.getD t undef := fun t ht => by
    have h1 := hl t ht
    have h2 := List.all_eq_true.1 hk t ht
    simp only [lits_get]
    cases hs : slotAt ss t with
    | is v => rw [hs] at h1; exact h1
    | has p => rw [hs] at h2; cases h2
  rw [wanted_looks (a' := ⟨lits ss, []⟩) (by simp [hz, lits_size]) heq, hg, if_pos rfl, execOp_looks hsel heq]
  exact h w hw

/-- an operation over known values that yields one value, in every world -/
theorem wpA_value (G : Grow E) (v : Value) (hsel : ∀ cs b, o.op ≠ .select cs b) (hk : (o.looksAt ops).all (fun t => (slotAt ss t).exact) = true) (hg : Region.wanted o (yielded ops (lits ss)) = true)
    (h : ∀ w, E w0 w → ∀ C : Result Next → Prop, C (.ok (.value v) w) → C ((execOp (Act.eval ⟨lits ss, []⟩) o).run P w)) (hn : wpA P ops E w0 Q rest (putS ss o.dst (.is v))) : wpA P ops E w0 Q (o :: rest) ss :=
  ⟨.is v, good_exact hsel hk hg (mono_is _) fun w hw => h w hw (growAt P E (.is v) w) ⟨G.refl w, rfl⟩, hn⟩

/-- an operation over known values, of whatever kind (a call) -/
theorem wpA_known (s : Slot) (hsel : ∀ cs b, o.op ≠ .select cs b) (hk : (o.looksAt ops).all (fun t => (slotAt ss t).exact) = true) (hg : Region.wanted o (yielded ops (lits ss)) = true) (hm : s.mono E)
    (h : ∀ w, E w0 w → growAt P E s w ((execOp (Act.eval ⟨lits ss, []⟩) o).run P w)) (hn : wpA P ops E w0 Q rest (putS ss o.dst s)) : wpA P ops E w0 Q (o :: rest) ss :=
  ⟨s, good_exact hsel hk hg hm h, hn⟩

theorem good_one {s : Slot} (t : Nat) (p : Value → World → Prop) (ht : slotAt ss t = .has p) (htl : t < ss.length) (hsel : ∀ cs b, o.op ≠ .select cs b)
    (hk : (o.looksAt ops).all (fun i => i == t || (slotAt ss i).exact) = true) (hin : (o.looksAt ops).contains t = true) (hg : ∀ u, Region.wanted o (yielded ops ((lits ss).setIfInBounds t u)) = true) (hm : s.mono E)
    (h : ∀ u w, E w0 w → p u w → growAt P E s w ((execOp (Act.eval ⟨(lits ss).setIfInBounds t u, []⟩) o).run P w)) : Good P ops E w0 ss o s := by
  refine ⟨hm, fun a w hw hz hl => ?_⟩
  have hp : p (a.tmps.getD t undef) w := by
    have := hl t (by simpa using hin)
    rw [ht] at this
    exact this
  have heq : ∀ i ∈ o.looksAt ops, a.tmps.getD i undef = (⟨(lits ss).setIfInBounds t (a.tmps.getD t undef), []⟩ : Act).tmps.getD i undef := fun i hi => by
    by_cases hit : t = i
    · subst hit
      simp [lits_size, htl]
    · have h1 := hl i hi
      have h2 := List.all_eq_true.1 hk i hi
      have e3 : ((lits ss).setIfInBounds t (a.tmps.getD t undef)).getD i undef = (lits ss).getD i undef := by simp [Array.getElem?_setIfInBounds_ne hit]
      have hne : (i == t) = false := by simpa using fun e => hit e.symm
      rw [hne, Bool.false_or] at h2
      show _ = ((lits ss).setIfInBounds t (a.tmps.getD t undef)).getD i undef
      rw [e3, lits_get]
      cases hs : slotAt ss i with
      | is v => rw [hs] at h1; exact h1
      | has p => rw [hs] at h2; cases h2
  rw [wanted_looks (a' := ⟨(lits ss).setIfInBounds t (a.tmps.getD t undef), []⟩) (by simp [hz, lits_size]) heq, hg, if_pos rfl, execOp_looks hsel heq]
  exact h _ w hw hp

/-- an operation that looks at one temporary of which a word is known -/
theorem wpA_one (t : Nat) (p : Value → World → Prop) (s : Slot) (ht : slotAt ss t = .has p) (htl : t < ss.length) (hsel : ∀ cs b, o.op ≠ .select cs b)
    (hk : (o.looksAt ops).all (fun i => i == t || (slotAt ss i).exact) = true) (hin : (o.looksAt ops).contains t = true) (hg : ∀ u, Region.wanted o (yielded ops ((lits ss).setIfInBounds t u)) = true) (hm : s.mono E)
    (h : ∀ u w, E w0 w → p u w → growAt P E s w ((execOp (Act.eval ⟨(lits ss).setIfInBounds t u, []⟩) o).run P w)) (hn : wpA P ops E w0 Q rest (putS ss o.dst s)) : wpA P ops E w0 Q (o :: rest) ss :=
  ⟨s, good_one t p ht htl hsel hk hin hg hm h, hn⟩
end

/-! ### At the end: the frame written out -/
def openS : List Slot → (List Value → World → Prop) → World → Prop
  | [], K, w => K [] w
  | .is v :: r, K, w => openS r (fun l w => K (v :: l) w) w
  | .has p :: r, K, w => ∀ u, p u w → openS r (fun l w => K (u :: l) w) w

theorem openS_spec : ∀ (ss : List Slot) (K : List Value → World → Prop) (w : World) (l : List Value), l.length = ss.length → (∀ t, (slotAt ss t).holds (l[t]?.getD undef) w) → openS ss K w → K l w
  | [], K, w, l, hl, _, h => by
    have : l = [] := List.eq_nil_of_length_eq_zero (by simpa using hl)
    subst this
    exact h
  | s :: r, K, w, l, hl, hh, h => by
    cases l with
    | nil => simp at hl
    | cons x l =>
      have h0 := hh 0
      have ht : ∀ t, (slotAt r t).holds (l[t]?.getD undef) w := fun t => by have := hh (t + 1); simpa [slotAt] using this
      simp only [slotAt, List.getElem?_cons_zero, Option.getD_some] at h0
      cases s with
      | is v =>
        have h0' : x = v := h0
        subst h0'
        exact openS_spec r _ w l (by simpa using hl) ht h
      | has p => exact openS_spec r _ w l (by simpa using hl) ht (h x h0)

theorem sat_start (E : World → World → Prop) (l : List Value) (ds : List Deferred) (w : World) : Sat E ds (l.map Slot.is) ⟨l.toArray, ds⟩ w := by
  have e : ∀ t, slotAt (l.map Slot.is) t = .is (l[t]?.getD undef) := fun t => by
    unfold slotAt
    rcases Nat.lt_or_ge t l.length with h | h
    · simp [h]
    · simp [h]
  refine ⟨by simp, rfl, fun t => by rw [e t]; exact mono_is _, fun t => ?_⟩
  rw [e t]
  simp [Slot.holds]

/-- what stands behind the region: asked of the frame written out -/
def doneS (E : World → World → Prop) (w0 : World) (K : Act → World → Prop) (ds : List Deferred) (ss : List Slot) : Prop :=
  ∀ w, E w0 w → openS ss (fun l w => K ⟨l.toArray, ds⟩ w) w

theorem doneS_spec {K : Act → World → Prop} {ds : List Deferred} {ss : List Slot} {a : Act} {w : World} (hw : E w0 w) (hs : Sat E ds ss a w) (h : doneS E w0 K ds ss) : K a w := by
  obtain ⟨⟨l⟩, d⟩ := a
  have hd : d = ds := hs.defers
  subst hd
  exact openS_spec ss _ w l (by simpa using hs.size) (fun t => by have := hs.holds t; simpa using this) (h w hw)

/-- **A REGION THAT DRAWS ITS ORDER, BY ONE WALK** -/
theorem wp_region_abs {id : Nat} {Q : Exit → Act → World → Prop} {l : List Value} {ds : List Deferred} {w : World} {lo : List Oper} (G : Grow E) (hm : P.follows .mixedOrders = true) (hB : Region.lexB .any lo.toArray = true)
    (h : wpA P lo.toArray E w.drew (doneS E w.drew (Q .normal) ds) lo (l.map Slot.is)) : (Code.region id lo.toArray true).wp P Q ⟨l.toArray, ds⟩ w := by
  simp only [Region.lexB, Bool.and_eq_true] at hB
  refine wp_region_any hm ?_
  have H := wpAnyA_lex (md := .any) (P := P) (E := E) (w0 := w.drew) lo 0 (Array.replicate lo.toArray.size false) (l.map Slot.is) (by simp) (by simpa using hB.2) h
  have := wpAny_of_abs (Q' := Q) (md := .any) (ops := lo.toArray) G (fun ss a w' hw hs hq => doneS_spec hw hs hq) lo.length _ (l.map Slot.is) ⟨l.toArray, ds⟩ w.drew (G.refl _) (sat_start E l ds _) H
  simpa using this

/-- the same, the last operations in the one order that they have -/
theorem wp_region_abs_tail {id : Nat} {Q : Exit → Act → World → Prop} {l : List Value} {ds : List Deferred} {w : World} {lo : List Oper} (n : Nat) (G : Grow E) (hm : P.follows .mixedOrders = true) (hB : Region.lexTailB .any lo.toArray n = true)
    (h : wpA P lo.toArray E w.drew (doneS E w.drew (fun a' w' => wpList P lo.toArray Q (lo.drop n) a' w') ds) (lo.take n) (l.map Slot.is)) : (Code.region id lo.toArray true).wp P Q ⟨l.toArray, ds⟩ w := by
  simp only [Region.lexTailB, Bool.and_eq_true, decide_eq_true_eq] at hB
  obtain ⟨⟨⟨⟨_, hn⟩, hs⟩, hc⟩, hlex⟩ := hB
  have hn' : n < lo.length := by simpa using hn
  have htl : (lo.take n).length = n := by simp; omega
  have hdl : (lo.drop n).length = lo.toArray.size - n := by simp
  have inv0 : HeadInv .any lo.toArray n (Array.replicate lo.toArray.size false) :=
    ⟨by simp, fun j oj _ hl => (by rw [getD_replicate_false] at hl; cases hl), fun t _ ht => getD_in (by simpa using ht) (getD_replicate_false _ _)⟩
  have H := wpAnyT_lex (md := .any) (P := P) (E := E) (w0 := w.drew) (g := lo.toArray.size - n) hs hc hn (lo.take n) 0 _ (l.map Slot.is) (fun j hj => by
    have hj' : j < n := by rw [htl] at hj; exact hj
    simp [hj']) (by simpa using htl) inv0 (by rw [htl]; exact hlex) h
  refine wp_region_any hm ?_
  have := wpAny_of_headA (Q' := Q) (g := lo.toArray.size - n) G (fun listed ss a' w' hw hs' hL => by
    have hq := doneS_spec hw hs' hL.2
    have := wpAny_of_seq (md := .any) (Q' := Q) (lo.drop n) n listed a' w' (fun j => by simp [List.getElem?_drop]) (by rw [hdl]; exact hL.1) hq
    rwa [hdl] at this) _ _ _ ⟨l.toArray, ds⟩ w.drew (G.refl _) (sat_start E l ds _) H
  rw [htl, show n + (lo.toArray.size - n) = lo.toArray.size by omega] at this
  exact this
end

/-! ### The growth in use: what was there is as it was -/
def Ext (w w' : World) : Prop := Below w.heap.size w w'
theorem ext_grow : Grow Ext := ⟨fun w => Below.refl _ w, fun h k => Below.trans h (Below.mono k h.size)⟩
/-- a slice of bytes that reads l -/
def BytesR (l : List UInt8) (v : Value) (w : World) : Prop := ∃ A c, v = .slice A l.length c ∧ Rd w w.heap.size 1 A l.length c (bytesV l)
theorem mono_bytes (l : List UInt8) : (Slot.has (BytesR l)).mono Ext := fun _ _ _ he ⟨A, c, e, h⟩ => ⟨A, c, e, (h.below he).more he.size⟩
/-- the call gives the bytes l in a row of its own -/
theorem bytes_ret {e : Ending} {w w' : World} {l : List UInt8} {v : Value} {base : Nat} {t : TypeId} (he : e = .returned v) (ho : w'.ownsRow base t 1 v l.length (bytesV l)) (hb : Below w.heap.size w w') :
    ∃ v, e = .returned v ∧ Ext w w' ∧ (Slot.has (BytesR l)).holds v w' := by
  obtain ⟨A, c, rfl, hr⟩ := Rd.of_own ho
  exact ⟨_, he, hb, A, c, rfl, hr⟩
theorem is_ret {e : Ending} {w w' : World} {v : Value} (he : e = .returned v) (hb : Below w.heap.size w w') : ∃ u, e = .returned u ∧ Ext w w' ∧ (Slot.is v).holds u w' := ⟨v, he, hb, rfl⟩

section
variable {P : Program} {ops : Array Oper} {w0 : World} {Q : List Slot → Prop} {o : Oper} {rest : List Oper} {ss : List Slot}
/-- 'string(b)' -/
theorem wpA_str {src dst e : TypeId} (t : Nat) (l : List UInt8) (hs : P.underlying src = some (.slice e)) (he : P.underlying e = some (.int .u8)) (hd : P.underlying dst = some .string)
    (hop : o.op = .convert src dst (.tmp t)) (ht : slotAt ss t = .has (BytesR l)) (htl : t < ss.length)
    (hk : (o.looksAt ops).all (fun i => i == t || (slotAt ss i).exact) = true) (hin : (o.looksAt ops).contains t = true) (hg : ∀ u, Region.wanted o (yielded ops ((lits ss).setIfInBounds t u)) = true)
    (hn : wpA P ops Ext w0 Q rest (putS ss o.dst (.is (.string ⟨l.toArray⟩)))) : wpA P ops Ext w0 Q (o :: rest) ss := by
  refine wpA_one t (BytesR l) _ ht htl (fun _ _ h => by rw [hop] at h; cases h) hk hin hg (mono_is _) (fun u w _ hu => ?_) hn
  obtain ⟨A, c, rfl, hr⟩ := hu
  have h1 := run_str (P := P) w hs he hd hr
  have e1 : Act.eval ⟨(lits ss).setIfInBounds t (.slice A l.length c), []⟩ (.tmp t) = .slice A l.length c := by simp [Act.eval, lits_size, htl]
  have e2 : (execOp (Act.eval ⟨(lits ss).setIfInBounds t (.slice A l.length c), []⟩) o).run P w = .ok (.value (.string ⟨l.toArray⟩)) w := by
    simp [execOp, hop, e1, h1, Result.andThen]
  rw [e2]
  exact ⟨Below.refl _ _, rfl⟩
end
end Go.Proofs.Ytlccpchlclpnaaa
